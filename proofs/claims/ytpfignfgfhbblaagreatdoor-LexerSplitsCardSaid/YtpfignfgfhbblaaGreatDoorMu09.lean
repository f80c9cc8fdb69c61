import Derived.Test.YtpfignfgfhbblaaGreatDoorMu05
import Derived.Test.YtpfignfgfhbblaaGreatDoorMu08
/- Each path of each function: on which conditions it is taken, what it gives. Printed by a program (wip/tools/sxexp2.lean); Lean checks each. -/
namespace Go.Proofs.YtpfignfgfhbblaaGreatDoorC
open Go.Proofs Go.Proofs.YtpfignfgfhbblaaGreatDoorSx
set_option maxRecDepth 100000
set_option linter.unusedVariables false

noncomputable def qrK : List It := stackAt [1, 1, 1, 1, 1, 1, 0, 1, 0] (bd Tryz.f49) [] []
abbrev qT (a : List Int) : Tab cE := [(0, .box 84 [.v (it 0), .v (it 0)]), (1, .box 142 (wc a false))]

theorem qra_1 (bs : ByteArray) (res : SV) (T' : Tab cE) (n' : Nat) (h0 : (!bs.toList == (ByteArray.mk #[]).toList) = true) (h1 : (0 : Int) ≤ 0 ∧ (0 : Int) < (bs.size : Int)) (h2 : ((((bs.data.toList.getD (Int.toNat 0) 0).toNat : Nat) : Int) == 45) = true) (hF : Fin cE Tryz.f49 0 res T' n' qrK [.v (.string (bs)), .na, .p 0 0, .v (.int .i64 (0)), .p 1 0, .v (.int .i64 (1)), .v (.int .i64 (-1)), .v (.int .i64 (0)), .v (.int .i64 (1)), .na, .na, .na, .na, .na, .na, .na, .na, .na, .na, .na, .na, .na, .na, .na, .na, .na, .na, .na, .na, .na, .na, .na, .na, .na, .na, .na, .na, .na, .na, .na, .na, .na, .na, .na, .na, .na, .na, .na, .na, .na, .na, .na, .na, .na, .na, .na, .na, .na, .na, .na, .na, .na, .na, .na, .na, .na, .na, .na, .na, .na, .na, .na, .na, .na, .na, .na, .na, .na, .na, .na, .na, .na, .na, .na, .na, .na, .na, .na, .na, .na, .na, .na, .na, .na, .na, .na, .na, .na, .na, .na, .na, .na, .na, .na, .na, .na, .na, .na, .na, .na, .na, .na, .na, .na, .na, .na, .na, .na, .na, .na, .na, .na] [(0, .box 84 [.v (.int .i64 (0)), .v (.int .i64 (0))]), (1, .box 142 [.v (.int .u64 (0)), .v (.int .u64 (0)), .v (.int .u64 (0)), .v (.int .u64 (0)), .v (.int .u64 (0)), .v (.int .u64 (0)), .v (.bool (false))])] 2) : Fin cE Tryz.f49 0 res T' n' [.code (bd Tryz.f49)] (argsS [.v (st bs)] Tryz.f49.ntmps) [] 0 :=
  seg_at (keep := [0, 2, 3, 4, 5, 6, 7, 8]) (ct := ct) ctOk mixed (by decide) 2000 [.t, .t, .t, .t, .t] (by kernel_rfl) (cj h0 (cj h0 (cj h1 (cj h0 (cj h0 (cj h2 cj0)))))) hF
theorem qra_2 (bs : ByteArray) (res : SV) (T' : Tab cE) (n' : Nat) (h0 : (!bs.toList == (ByteArray.mk #[]).toList) = true) (h1 : (0 : Int) ≤ 0 ∧ (0 : Int) < (bs.size : Int)) (h2 : ((((bs.data.toList.getD (Int.toNat 0) 0).toNat : Nat) : Int) == 45) = false) (hF : Fin cE Tryz.f49 0 res T' n' qrK [.v (.string (bs)), .na, .p 0 0, .v (.int .i64 (0)), .p 1 0, .v (.int .i64 (0)), .v (.int .i64 (-1)), .v (.int .i64 (0)), .v (.int .i64 (0)), .na, .na, .na, .na, .na, .na, .na, .na, .na, .na, .na, .na, .na, .na, .na, .na, .na, .na, .na, .na, .na, .na, .na, .na, .na, .na, .na, .na, .na, .na, .na, .na, .na, .na, .na, .na, .na, .na, .na, .na, .na, .na, .na, .na, .na, .na, .na, .na, .na, .na, .na, .na, .na, .na, .na, .na, .na, .na, .na, .na, .na, .na, .na, .na, .na, .na, .na, .na, .na, .na, .na, .na, .na, .na, .na, .na, .na, .na, .na, .na, .na, .na, .na, .na, .na, .na, .na, .na, .na, .na, .na, .na, .na, .na, .na, .na, .na, .na, .na, .na, .na, .na, .na, .na, .na, .na, .na, .na, .na, .na, .na, .na, .na] [(0, .box 84 [.v (.int .i64 (0)), .v (.int .i64 (0))]), (1, .box 142 [.v (.int .u64 (0)), .v (.int .u64 (0)), .v (.int .u64 (0)), .v (.int .u64 (0)), .v (.int .u64 (0)), .v (.int .u64 (0)), .v (.bool (false))])] 2) : Fin cE Tryz.f49 0 res T' n' [.code (bd Tryz.f49)] (argsS [.v (st bs)] Tryz.f49.ntmps) [] 0 :=
  seg_at (keep := [0, 2, 3, 4, 5, 6, 7, 8]) (ct := ct) ctOk mixed (by decide) 2000 [.t, .t, .t, .t, .f] (by kernel_rfl) (cj h0 (cj h0 (cj h1 (cj h0 (cj h0 (cj h2 cj0)))))) hF
theorem qra_3 (bs : ByteArray) (res : SV) (T' : Tab cE) (n' : Nat) (h0 : (!bs.toList == (ByteArray.mk #[]).toList) = false) (hF : Fin cE Tryz.f49 0 res T' n' qrK [.v (.string (bs)), .na, .p 0 0, .v (.int .i64 (0)), .p 1 0, .v (.int .i64 (0)), .v (.int .i64 (-1)), .v (.int .i64 (0)), .v (.int .i64 (0)), .na, .na, .na, .na, .na, .na, .na, .na, .na, .na, .na, .na, .na, .na, .na, .na, .na, .na, .na, .na, .na, .na, .na, .na, .na, .na, .na, .na, .na, .na, .na, .na, .na, .na, .na, .na, .na, .na, .na, .na, .na, .na, .na, .na, .na, .na, .na, .na, .na, .na, .na, .na, .na, .na, .na, .na, .na, .na, .na, .na, .na, .na, .na, .na, .na, .na, .na, .na, .na, .na, .na, .na, .na, .na, .na, .na, .na, .na, .na, .na, .na, .na, .na, .na, .na, .na, .na, .na, .na, .na, .na, .na, .na, .na, .na, .na, .na, .na, .na, .na, .na, .na, .na, .na, .na, .na, .na, .na, .na, .na, .na, .na, .na] [(0, .box 84 [.v (.int .i64 (0)), .v (.int .i64 (0))]), (1, .box 142 [.v (.int .u64 (0)), .v (.int .u64 (0)), .v (.int .u64 (0)), .v (.int .u64 (0)), .v (.int .u64 (0)), .v (.int .u64 (0)), .v (.bool (false))])] 2) : Fin cE Tryz.f49 0 res T' n' [.code (bd Tryz.f49)] (argsS [.v (st bs)] Tryz.f49.ntmps) [] 0 :=
  seg_at (keep := [0, 2, 3, 4, 5, 6, 7, 8]) (ct := ct) ctOk mixed (by decide) 2000 [.f, .f, .f, .f, .l] (by kernel_rfl) (cj h0 (cj h0 (cj h0 (cj h0 cj0)))) hF
theorem qrb_1 (bs : ByteArray) (a : List Int) (fr pt n i : Int) (m : Nat) (res : SV) (T' : Tab cE) (n' : Nat) (h0 : decide (i < (bs.size : Int)) = true) (h1 : (0 : Int) ≤ i ∧ i < (bs.size : Int)) (h2 : ((((bs.data.toList.getD i.toNat 0).toNat : Nat) : Int) == 46) = true) (h3 : decide (pt < 0) = true) (h4 : decide (i > fr) = true) (hF : Fin cE Tryz.f49 0 res T' n' (inK qrK (m)) [.v (.string (bs)), .na, .p 0 0, .v (.int .i64 (0)), .p 1 0, .v (.int .i64 (fr)), .v (.int .i64 (i)), .v (.int .i64 (n)), .v (.int .i64 (IntKind.i64.wrap (i + 1))), .na, .na, .na, .na, .na, .na, .na, .na, .na, .na, .na, .na, .na, .na, .na, .na, .na, .na, .na, .na, .na, .na, .na, .na, .na, .na, .na, .na, .na, .na, .na, .na, .na, .na, .na, .na, .na, .na, .na, .na, .na, .na, .na, .na, .na, .na, .na, .na, .na, .na, .na, .na, .na, .na, .na, .na, .na, .na, .na, .na, .na, .na, .na, .na, .na, .na, .na, .na, .na, .na, .na, .na, .na, .na, .na, .na, .na, .na, .na, .na, .na, .na, .na, .na, .na, .na, .na, .na, .na, .na, .na, .na, .na, .na, .na, .na, .na, .na, .na, .na, .na, .na, .na, .na, .na, .na, .na, .na, .na, .na, .na, .na, .na] [(0, .box 84 [.v (.int .i64 (0)), .v (.int .i64 (0))]), (1, .box 142 [.v (.int .u64 (a.getD 0 0)), .v (.int .u64 (a.getD 1 0)), .v (.int .u64 (a.getD 2 0)), .v (.int .u64 (a.getD 3 0)), .v (.int .u64 (a.getD 4 0)), .v (.int .u64 (a.getD 5 0)), .v (.bool (false))])] 2) : Fin cE Tryz.f49 0 res T' n' (bodyK qrK m) ([.v (st bs), .na, .p 0 0, .v (it 0), .p 1 0, .v (it fr), .v (it pt), .v (it n), .v (it i)] ++ List.replicate 113 .na) (qT a) 2 :=
  seg_at (keep := [0, 2, 3, 4, 5, 6, 7, 8]) (ct := ct) ctOk mixed (by decide) 2000 [.t, .t, .t, .t, .t, .t, .t, .t, .t] (by kernel_rfl) (cj h0 (cj h1 (cj h2 (cj h2 (cj h2 (cj h3 (cj h3 (cj h3 (cj h3 (cj h4 cj0)))))))))) hF
theorem qrb_5 (bs : ByteArray) (a : List Int) (fr pt n i : Int) (m : Nat) (h0 : decide (i < (bs.size : Int)) = true) (h1 : (0 : Int) ≤ i ∧ i < (bs.size : Int)) (h2 : ((((bs.data.toList.getD i.toNat 0).toNat : Nat) : Int) == 46) = true) (h3 : decide (pt < 0) = true) (h4 : decide (i > fr) = false) (h5 : decide ((((bs.data.toList.getD i.toNat 0).toNat : Nat) : Int) ≥ 48) = false) : Fin cE Tryz.f49 0 (.v (.tuple #[(.agg #[(.int .i64 (0)), (.int .i64 (0))]), (.int .i64 (21))])) [] 0 (bodyK qrK m) ([.v (st bs), .na, .p 0 0, .v (it 0), .p 1 0, .v (it fr), .v (it pt), .v (it n), .v (it i)] ++ List.replicate 113 .na) (qT a) 2 :=
  seg_fin (keep := [0, 2, 3, 4, 5, 6, 7, 8]) (ct := ct) ctOk mixed (by decide) 2000 [.t, .t, .t, .t, .t, .t, .t, .t, .f, .f, .f, .f, .f, .f, .l] (by kernel_rfl) (cj h0 (cj h1 (cj h2 (cj h2 (cj h2 (cj h3 (cj h3 (cj h3 (cj h3 (cj h4 (cj h1 (cj h5 (cj h5 (cj h5 (cj h5 (cj h5 cj0))))))))))))))))
theorem qrb_9 (bs : ByteArray) (a : List Int) (fr pt n i : Int) (m : Nat) (h0 : decide (i < (bs.size : Int)) = true) (h1 : (0 : Int) ≤ i ∧ i < (bs.size : Int)) (h2 : ((((bs.data.toList.getD i.toNat 0).toNat : Nat) : Int) == 46) = true) (h3 : decide (pt < 0) = false) (h4 : decide ((((bs.data.toList.getD i.toNat 0).toNat : Nat) : Int) ≥ 48) = false) : Fin cE Tryz.f49 0 (.v (.tuple #[(.agg #[(.int .i64 (0)), (.int .i64 (0))]), (.int .i64 (21))])) [] 0 (bodyK qrK m) ([.v (st bs), .na, .p 0 0, .v (it 0), .p 1 0, .v (it fr), .v (it pt), .v (it n), .v (it i)] ++ List.replicate 113 .na) (qT a) 2 :=
  seg_fin (keep := [0, 2, 3, 4, 5, 6, 7, 8]) (ct := ct) ctOk mixed (by decide) 2000 [.t, .t, .t, .t, .f, .f, .f, .f, .l, .f, .f, .f, .f, .f, .l] (by kernel_rfl) (cj h0 (cj h1 (cj h2 (cj h2 (cj h2 (cj h3 (cj h3 (cj h3 (cj h3 (cj h1 (cj h4 (cj h4 (cj h4 (cj h4 (cj h4 cj0)))))))))))))))
theorem qrb_10 (bs : ByteArray) (a : List Int) (fr pt n i : Int) (m : Nat) (i0 : Int) (i1 : Int) (i2 : Int) (i3 : Int) (i4 : Int) (i5 : Int) (b6 : Bool) (i7 : Int) (i8 : Int) (i9 : Int) (i10 : Int) (i11 : Int) (i12 : Int) (b13 : Bool) (i14 : Int) (i15 : Int) (i16 : Int) (i17 : Int) (i18 : Int) (i19 : Int) (b20 : Bool) (i21 : Int) (i22 : Int) (i23 : Int) (i24 : Int) (i25 : Int) (i26 : Int) (b27 : Bool) (res : SV) (T' : Tab cE) (n' : Nat) (h0 : decide (i < (bs.size : Int)) = true) (h1 : (0 : Int) ≤ i ∧ i < (bs.size : Int)) (h2 : ((((bs.data.toList.getD i.toNat 0).toNat : Nat) : Int) == 46) = false) (h3 : decide ((((bs.data.toList.getD i.toNat 0).toNat : Nat) : Int) ≥ 48) = true) (h4 : decide ((((bs.data.toList.getD i.toNat 0).toNat : Nat) : Int) ≤ 57) = true) (h5 : decide (IntKind.i64.wrap (n + 1) ≤ 40) = true) (h6 : Does cE 103 [] 0 [.v (.int .i64 (10))] (.v (.agg #[(.int .u64 (i0)), (.int .u64 (i1)), (.int .u64 (i2)), (.int .u64 (i3)), (.int .u64 (i4)), (.int .u64 (i5)), (.bool (b6))])) [] 0) (h7 : Does cE 102 [] 0 [.v (.agg #[(.int .u64 (a.getD 0 0)), (.int .u64 (a.getD 1 0)), (.int .u64 (a.getD 2 0)), (.int .u64 (a.getD 3 0)), (.int .u64 (a.getD 4 0)), (.int .u64 (a.getD 5 0)), (.bool (false))]), .v (.agg #[(.int .u64 (i0)), (.int .u64 (i1)), (.int .u64 (i2)), (.int .u64 (i3)), (.int .u64 (i4)), (.int .u64 (i5)), (.bool (b6))])] (.v (.agg #[(.int .u64 (i7)), (.int .u64 (i8)), (.int .u64 (i9)), (.int .u64 (i10)), (.int .u64 (i11)), (.int .u64 (i12)), (.bool (b13))])) [] 0) (h8 : Does cE 103 [] 0 [.v (.int .i64 (IntKind.i64.wrap (IntKind.u8.wrap ((((bs.data.toList.getD i.toNat 0).toNat : Nat) : Int) - 48))))] (.v (.agg #[(.int .u64 (i14)), (.int .u64 (i15)), (.int .u64 (i16)), (.int .u64 (i17)), (.int .u64 (i18)), (.int .u64 (i19)), (.bool (b20))])) [] 0) (h9 : Does cE 101 [] 0 [.v (.agg #[(.int .u64 (i7)), (.int .u64 (i8)), (.int .u64 (i9)), (.int .u64 (i10)), (.int .u64 (i11)), (.int .u64 (i12)), (.bool (b13))]), .v (.agg #[(.int .u64 (i14)), (.int .u64 (i15)), (.int .u64 (i16)), (.int .u64 (i17)), (.int .u64 (i18)), (.int .u64 (i19)), (.bool (b20))])] (.v (.agg #[(.int .u64 (i21)), (.int .u64 (i22)), (.int .u64 (i23)), (.int .u64 (i24)), (.int .u64 (i25)), (.int .u64 (i26)), (.bool (b27))])) [] 0) (hF : Fin cE Tryz.f49 0 res T' n' (inK qrK (m)) [.v (.string (bs)), .na, .p 0 0, .v (.int .i64 (0)), .p 1 0, .v (.int .i64 (fr)), .v (.int .i64 (pt)), .v (.int .i64 (IntKind.i64.wrap (n + 1))), .v (.int .i64 (IntKind.i64.wrap (i + 1))), .na, .na, .na, .na, .na, .na, .na, .na, .na, .na, .na, .na, .na, .na, .na, .na, .na, .na, .na, .na, .na, .na, .na, .na, .na, .na, .na, .na, .na, .na, .na, .na, .na, .na, .na, .na, .na, .na, .na, .na, .na, .na, .na, .na, .na, .na, .na, .na, .na, .na, .na, .na, .na, .na, .na, .na, .na, .na, .na, .na, .na, .na, .na, .na, .na, .na, .na, .na, .na, .na, .na, .na, .na, .na, .na, .na, .na, .na, .na, .na, .na, .na, .na, .na, .na, .na, .na, .na, .na, .na, .na, .na, .na, .na, .na, .na, .na, .na, .na, .na, .na, .na, .na, .na, .na, .na, .na, .na, .na, .na, .na, .na, .na] [(0, .box 84 [.v (.int .i64 (0)), .v (.int .i64 (0))]), (1, .box 142 [.v (.int .u64 (i21)), .v (.int .u64 (i22)), .v (.int .u64 (i23)), .v (.int .u64 (i24)), .v (.int .u64 (i25)), .v (.int .u64 (i26)), .v (.bool (b27))])] 2) : Fin cE Tryz.f49 0 res T' n' (bodyK qrK m) ([.v (st bs), .na, .p 0 0, .v (it 0), .p 1 0, .v (it fr), .v (it pt), .v (it n), .v (it i)] ++ List.replicate 113 .na) (qT a) 2 :=
  seg_at (keep := [0, 2, 3, 4, 5, 6, 7, 8]) (ct := ct) ctOk mixed (by decide) 2000 [.t, .f, .f, .f, .l, .f, .f, .f, .l, .t, .t, .t, .t, .t, .t, .t, .c (.v (.agg #[(.int .u64 (i0)), (.int .u64 (i1)), (.int .u64 (i2)), (.int .u64 (i3)), (.int .u64 (i4)), (.int .u64 (i5)), (.bool (b6))])) [] 0, .c (.v (.agg #[(.int .u64 (i7)), (.int .u64 (i8)), (.int .u64 (i9)), (.int .u64 (i10)), (.int .u64 (i11)), (.int .u64 (i12)), (.bool (b13))])) [] 0, .c (.v (.agg #[(.int .u64 (i14)), (.int .u64 (i15)), (.int .u64 (i16)), (.int .u64 (i17)), (.int .u64 (i18)), (.int .u64 (i19)), (.bool (b20))])) [] 0, .c (.v (.agg #[(.int .u64 (i21)), (.int .u64 (i22)), (.int .u64 (i23)), (.int .u64 (i24)), (.int .u64 (i25)), (.int .u64 (i26)), (.bool (b27))])) [] 0] (by kernel_rfl) (cj h0 (cj h1 (cj h2 (cj h2 (cj h2 (cj (rfl : false = false) (cj (rfl : false = false) (cj (rfl : false = false) (cj h1 (cj h3 (cj h3 (cj h3 (cj h1 (cj h3 (cj h3 (cj h4 (cj h5 (cj h6 (cj h7 (cj h1 (cj h8 (cj h9 cj0)))))))))))))))))))))) hF
theorem qrb_11 (bs : ByteArray) (a : List Int) (fr pt n i : Int) (m : Nat) (res : SV) (T' : Tab cE) (n' : Nat) (h0 : decide (i < (bs.size : Int)) = true) (h1 : (0 : Int) ≤ i ∧ i < (bs.size : Int)) (h2 : ((((bs.data.toList.getD i.toNat 0).toNat : Nat) : Int) == 46) = false) (h3 : decide ((((bs.data.toList.getD i.toNat 0).toNat : Nat) : Int) ≥ 48) = true) (h4 : decide ((((bs.data.toList.getD i.toNat 0).toNat : Nat) : Int) ≤ 57) = true) (h5 : decide (IntKind.i64.wrap (n + 1) ≤ 40) = false) (hF : Fin cE Tryz.f49 0 res T' n' (inK qrK (m)) [.v (.string (bs)), .na, .p 0 0, .v (.int .i64 (0)), .p 1 0, .v (.int .i64 (fr)), .v (.int .i64 (pt)), .v (.int .i64 (IntKind.i64.wrap (n + 1))), .v (.int .i64 (IntKind.i64.wrap (i + 1))), .na, .na, .na, .na, .na, .na, .na, .na, .na, .na, .na, .na, .na, .na, .na, .na, .na, .na, .na, .na, .na, .na, .na, .na, .na, .na, .na, .na, .na, .na, .na, .na, .na, .na, .na, .na, .na, .na, .na, .na, .na, .na, .na, .na, .na, .na, .na, .na, .na, .na, .na, .na, .na, .na, .na, .na, .na, .na, .na, .na, .na, .na, .na, .na, .na, .na, .na, .na, .na, .na, .na, .na, .na, .na, .na, .na, .na, .na, .na, .na, .na, .na, .na, .na, .na, .na, .na, .na, .na, .na, .na, .na, .na, .na, .na, .na, .na, .na, .na, .na, .na, .na, .na, .na, .na, .na, .na, .na, .na, .na, .na, .na, .na] [(0, .box 84 [.v (.int .i64 (0)), .v (.int .i64 (0))]), (1, .box 142 [.v (.int .u64 (a.getD 0 0)), .v (.int .u64 (a.getD 1 0)), .v (.int .u64 (a.getD 2 0)), .v (.int .u64 (a.getD 3 0)), .v (.int .u64 (a.getD 4 0)), .v (.int .u64 (a.getD 5 0)), .v (.bool (false))])] 2) : Fin cE Tryz.f49 0 res T' n' (bodyK qrK m) ([.v (st bs), .na, .p 0 0, .v (it 0), .p 1 0, .v (it fr), .v (it pt), .v (it n), .v (it i)] ++ List.replicate 113 .na) (qT a) 2 :=
  seg_at (keep := [0, 2, 3, 4, 5, 6, 7, 8]) (ct := ct) ctOk mixed (by decide) 2000 [.t, .f, .f, .f, .l, .f, .f, .f, .l, .t, .t, .t, .t, .t, .t, .f] (by kernel_rfl) (cj h0 (cj h1 (cj h2 (cj h2 (cj h2 (cj (rfl : false = false) (cj (rfl : false = false) (cj (rfl : false = false) (cj h1 (cj h3 (cj h3 (cj h3 (cj h1 (cj h3 (cj h3 (cj h4 (cj h5 cj0))))))))))))))))) hF
theorem qrb_12 (bs : ByteArray) (a : List Int) (fr pt n i : Int) (m : Nat) (h0 : decide (i < (bs.size : Int)) = true) (h1 : (0 : Int) ≤ i ∧ i < (bs.size : Int)) (h2 : ((((bs.data.toList.getD i.toNat 0).toNat : Nat) : Int) == 46) = false) (h3 : decide ((((bs.data.toList.getD i.toNat 0).toNat : Nat) : Int) ≥ 48) = true) (h4 : decide ((((bs.data.toList.getD i.toNat 0).toNat : Nat) : Int) ≤ 57) = false) : Fin cE Tryz.f49 0 (.v (.tuple #[(.agg #[(.int .i64 (0)), (.int .i64 (0))]), (.int .i64 (21))])) [] 0 (bodyK qrK m) ([.v (st bs), .na, .p 0 0, .v (it 0), .p 1 0, .v (it fr), .v (it pt), .v (it n), .v (it i)] ++ List.replicate 113 .na) (qT a) 2 :=
  seg_fin (keep := [0, 2, 3, 4, 5, 6, 7, 8]) (ct := ct) ctOk mixed (by decide) 2000 [.t, .f, .f, .f, .l, .f, .f, .f, .l, .t, .t, .t, .t, .t, .f] (by kernel_rfl) (cj h0 (cj h1 (cj h2 (cj h2 (cj h2 (cj (rfl : false = false) (cj (rfl : false = false) (cj (rfl : false = false) (cj h1 (cj h3 (cj h3 (cj h3 (cj h1 (cj h3 (cj h3 (cj h4 cj0))))))))))))))))
theorem qrb_13 (bs : ByteArray) (a : List Int) (fr pt n i : Int) (m : Nat) (h0 : decide (i < (bs.size : Int)) = true) (h1 : (0 : Int) ≤ i ∧ i < (bs.size : Int)) (h2 : ((((bs.data.toList.getD i.toNat 0).toNat : Nat) : Int) == 46) = false) (h3 : decide ((((bs.data.toList.getD i.toNat 0).toNat : Nat) : Int) ≥ 48) = false) : Fin cE Tryz.f49 0 (.v (.tuple #[(.agg #[(.int .i64 (0)), (.int .i64 (0))]), (.int .i64 (21))])) [] 0 (bodyK qrK m) ([.v (st bs), .na, .p 0 0, .v (it 0), .p 1 0, .v (it fr), .v (it pt), .v (it n), .v (it i)] ++ List.replicate 113 .na) (qT a) 2 :=
  seg_fin (keep := [0, 2, 3, 4, 5, 6, 7, 8]) (ct := ct) ctOk mixed (by decide) 2000 [.t, .f, .f, .f, .l, .f, .f, .f, .l, .f, .f, .f, .f, .f, .l] (by kernel_rfl) (cj h0 (cj h1 (cj h2 (cj h2 (cj h2 (cj (rfl : false = false) (cj (rfl : false = false) (cj (rfl : false = false) (cj h1 (cj h3 (cj h3 (cj h3 (cj h3 (cj h3 cj0))))))))))))))
theorem qrb_15 (bs : ByteArray) (a : List Int) (fr pt n i : Int) (m : Nat) (h0 : decide (i < (bs.size : Int)) = false) (h1 : decide (pt ≥ 0) = true) (h2 : (n == 0) = false) (h3 : (pt == IntKind.i64.wrap ((bs.size : Int) - 1)) = true) : Fin cE Tryz.f49 0 (.v (.tuple #[(.agg #[(.int .i64 (0)), (.int .i64 (0))]), (.int .i64 (21))])) [] 0 (bodyK qrK m) ([.v (st bs), .na, .p 0 0, .v (it 0), .p 1 0, .v (it fr), .v (it pt), .v (it n), .v (it i)] ++ List.replicate 113 .na) (qT a) 2 :=
  seg_fin (keep := [0, 2, 3, 4, 5, 6, 7, 8]) (ct := ct) ctOk mixed (by decide) 2000 [.f, .t, .f, .f, .f, .f, .f, .f, .t, .t, .t, .l, .l, .l, .l, .l, .l, .l, .l, .l, .l, .l, .l, .l, .l, .l] (by kernel_rfl) (cj h0 (cj h1 (cj h2 (cj h2 (cj h2 (cj h2 (cj h2 (cj h2 (cj h3 (cj h3 (cj h3 cj0)))))))))))
theorem qrb_16 (bs : ByteArray) (a : List Int) (fr pt n i : Int) (m : Nat) (h0 : decide (i < (bs.size : Int)) = false) (h1 : decide (pt ≥ 0) = true) (h2 : (n == 0) = false) (h3 : (pt == IntKind.i64.wrap ((bs.size : Int) - 1)) = false) (h4 : decide (IntKind.i64.wrap (IntKind.i64.wrap ((bs.size : Int) - pt) - 1) > 6) = true) : Fin cE Tryz.f49 0 (.v (.tuple #[(.agg #[(.int .i64 (0)), (.int .i64 (0))]), (.int .i64 (21))])) [] 0 (bodyK qrK m) ([.v (st bs), .na, .p 0 0, .v (it 0), .p 1 0, .v (it fr), .v (it pt), .v (it n), .v (it i)] ++ List.replicate 113 .na) (qT a) 2 :=
  seg_fin (keep := [0, 2, 3, 4, 5, 6, 7, 8]) (ct := ct) ctOk mixed (by decide) 2000 [.f, .t, .f, .f, .f, .f, .f, .f, .f, .f, .f, .t, .t, .t, .t, .t, .t, .t, .l, .l, .l, .l, .l, .l, .l, .l] (by kernel_rfl) (cj h0 (cj h1 (cj h2 (cj h2 (cj h2 (cj h2 (cj h2 (cj h2 (cj h3 (cj h3 (cj h3 (cj h4 (cj h4 (cj h4 (cj h4 (cj h4 (cj h4 (cj h4 cj0))))))))))))))))))
theorem qrb_17 (bs : ByteArray) (a : List Int) (fr pt n i : Int) (m : Nat) (h0 : decide (i < (bs.size : Int)) = false) (h1 : decide (pt ≥ 0) = true) (h2 : (n == 0) = false) (h3 : (pt == IntKind.i64.wrap ((bs.size : Int) - 1)) = false) (h4 : decide (IntKind.i64.wrap (IntKind.i64.wrap ((bs.size : Int) - pt) - 1) > 6) = false) (h5 : decide (n > IntKind.i64.wrap (IntKind.i64.wrap (IntKind.i64.wrap ((bs.size : Int) - pt) - 1) + 1)) = true) (h6 : (0 : Int) ≤ fr ∧ fr < (bs.size : Int)) (h7 : ((((bs.data.toList.getD fr.toNat 0).toNat : Nat) : Int) == 48) = true) : Fin cE Tryz.f49 0 (.v (.tuple #[(.agg #[(.int .i64 (0)), (.int .i64 (0))]), (.int .i64 (21))])) [] 0 (bodyK qrK m) ([.v (st bs), .na, .p 0 0, .v (it 0), .p 1 0, .v (it fr), .v (it pt), .v (it n), .v (it i)] ++ List.replicate 113 .na) (qT a) 2 :=
  seg_fin (keep := [0, 2, 3, 4, 5, 6, 7, 8]) (ct := ct) ctOk mixed (by decide) 2000 [.f, .t, .f, .f, .f, .f, .f, .f, .f, .f, .f, .f, .f, .f, .f, .f, .t, .t, .t, .t, .f, .t, .f, .t, .t, .t, .t, .t, .t, .t, .l] (by kernel_rfl) (cj h0 (cj h1 (cj h2 (cj h2 (cj h2 (cj h2 (cj h2 (cj h2 (cj h3 (cj h3 (cj h3 (cj h4 (cj h4 (cj h4 (cj h4 (cj h4 (cj h5 (cj h5 (cj h5 (cj h6 (cj h5 (cj h4 (cj h5 (cj h4 (cj h7 (cj h7 (cj h7 (cj h7 (cj h7 (cj h7 (cj h7 cj0)))))))))))))))))))))))))))))))
theorem qrb_18 (bs : ByteArray) (a : List Int) (fr pt n i : Int) (m : Nat) (b0 : Bool) (h0 : decide (i < (bs.size : Int)) = false) (h1 : decide (pt ≥ 0) = true) (h2 : (n == 0) = false) (h3 : (pt == IntKind.i64.wrap ((bs.size : Int) - 1)) = false) (h4 : decide (IntKind.i64.wrap (IntKind.i64.wrap ((bs.size : Int) - pt) - 1) > 6) = false) (h5 : decide (n > IntKind.i64.wrap (IntKind.i64.wrap (IntKind.i64.wrap ((bs.size : Int) - pt) - 1) + 1)) = true) (h6 : (0 : Int) ≤ fr ∧ fr < (bs.size : Int)) (h7 : ((((bs.data.toList.getD fr.toNat 0).toNat : Nat) : Int) == 48) = false) (h8 : (fr == 1) = true) (h9 : Does cE 104 [] 0 [.v (.agg #[(.int .u64 (a.getD 0 0)), (.int .u64 (a.getD 1 0)), (.int .u64 (a.getD 2 0)), (.int .u64 (a.getD 3 0)), (.int .u64 (a.getD 4 0)), (.int .u64 (a.getD 5 0)), (.bool (false))])] (.v (.bool (b0))) [] 0) (h10 : b0 = true) (h11 : decide (n ≤ 40) = true) : Fin cE Tryz.f49 0 (.v (.tuple #[(.agg #[(.int .i64 (0)), (.int .i64 (0))]), (.int .i64 (21))])) [] 0 (bodyK qrK m) ([.v (st bs), .na, .p 0 0, .v (it 0), .p 1 0, .v (it fr), .v (it pt), .v (it n), .v (it i)] ++ List.replicate 113 .na) (qT a) 2 :=
  seg_fin (keep := [0, 2, 3, 4, 5, 6, 7, 8]) (ct := ct) ctOk mixed (by decide) 2000 [.f, .t, .f, .f, .f, .f, .f, .f, .f, .f, .f, .f, .f, .f, .f, .f, .t, .t, .t, .t, .f, .t, .f, .f, .f, .f, .t, .t, .c (.v (.bool (b0))) [] 0, .f, .t, .f, .t, .t, .f, .t, .f, .t] (by kernel_rfl) (cj h0 (cj h1 (cj h2 (cj h2 (cj h2 (cj h2 (cj h2 (cj h2 (cj h3 (cj h3 (cj h3 (cj h4 (cj h4 (cj h4 (cj h4 (cj h4 (cj h5 (cj h5 (cj h5 (cj h6 (cj h5 (cj h4 (cj h5 (cj h4 (cj h7 (cj h7 (cj h7 (cj h8 (cj h8 (cj h9 (cj h7 (cj h8 (cj h7 (cj h10 (cj h10 (cj h7 (cj h10 (cj h7 (cj h11 cj0)))))))))))))))))))))))))))))))))))))))
theorem qrb_19 (bs : ByteArray) (a : List Int) (fr pt n i : Int) (m : Nat) (b0 : Bool) (h0 : decide (i < (bs.size : Int)) = false) (h1 : decide (pt ≥ 0) = true) (h2 : (n == 0) = false) (h3 : (pt == IntKind.i64.wrap ((bs.size : Int) - 1)) = false) (h4 : decide (IntKind.i64.wrap (IntKind.i64.wrap ((bs.size : Int) - pt) - 1) > 6) = false) (h5 : decide (n > IntKind.i64.wrap (IntKind.i64.wrap (IntKind.i64.wrap ((bs.size : Int) - pt) - 1) + 1)) = true) (h6 : (0 : Int) ≤ fr ∧ fr < (bs.size : Int)) (h7 : ((((bs.data.toList.getD fr.toNat 0).toNat : Nat) : Int) == 48) = false) (h8 : (fr == 1) = true) (h9 : Does cE 104 [] 0 [.v (.agg #[(.int .u64 (a.getD 0 0)), (.int .u64 (a.getD 1 0)), (.int .u64 (a.getD 2 0)), (.int .u64 (a.getD 3 0)), (.int .u64 (a.getD 4 0)), (.int .u64 (a.getD 5 0)), (.bool (false))])] (.v (.bool (b0))) [] 0) (h10 : b0 = true) (h11 : decide (n ≤ 40) = false) (h12 : decide (n > 40) = true) : Fin cE Tryz.f49 0 (.v (.tuple #[(.agg #[(.int .i64 (0)), (.int .i64 (0))]), (.int .i64 (32))])) [] 0 (bodyK qrK m) ([.v (st bs), .na, .p 0 0, .v (it 0), .p 1 0, .v (it fr), .v (it pt), .v (it n), .v (it i)] ++ List.replicate 113 .na) (qT a) 2 :=
  seg_fin (keep := [0, 2, 3, 4, 5, 6, 7, 8]) (ct := ct) ctOk mixed (by decide) 2000 [.f, .t, .f, .f, .f, .f, .f, .f, .f, .f, .f, .f, .f, .f, .f, .f, .t, .t, .t, .t, .f, .t, .f, .f, .f, .f, .t, .t, .c (.v (.bool (b0))) [] 0, .f, .t, .f, .t, .t, .f, .t, .f, .f, .t] (by kernel_rfl) (cj h0 (cj h1 (cj h2 (cj h2 (cj h2 (cj h2 (cj h2 (cj h2 (cj h3 (cj h3 (cj h3 (cj h4 (cj h4 (cj h4 (cj h4 (cj h4 (cj h5 (cj h5 (cj h5 (cj h6 (cj h5 (cj h4 (cj h5 (cj h4 (cj h7 (cj h7 (cj h7 (cj h8 (cj h8 (cj h9 (cj h7 (cj h8 (cj h7 (cj h10 (cj h10 (cj h7 (cj h10 (cj h7 (cj h11 (cj h12 cj0))))))))))))))))))))))))))))))))))))))))
theorem qrb_21 (bs : ByteArray) (a : List Int) (fr pt n i : Int) (m : Nat) (b0 : Bool) (h0 : decide (i < (bs.size : Int)) = false) (h1 : decide (pt ≥ 0) = true) (h2 : (n == 0) = false) (h3 : (pt == IntKind.i64.wrap ((bs.size : Int) - 1)) = false) (h4 : decide (IntKind.i64.wrap (IntKind.i64.wrap ((bs.size : Int) - pt) - 1) > 6) = false) (h5 : decide (n > IntKind.i64.wrap (IntKind.i64.wrap (IntKind.i64.wrap ((bs.size : Int) - pt) - 1) + 1)) = true) (h6 : (0 : Int) ≤ fr ∧ fr < (bs.size : Int)) (h7 : ((((bs.data.toList.getD fr.toNat 0).toNat : Nat) : Int) == 48) = false) (h8 : (fr == 1) = true) (h9 : Does cE 104 [] 0 [.v (.agg #[(.int .u64 (a.getD 0 0)), (.int .u64 (a.getD 1 0)), (.int .u64 (a.getD 2 0)), (.int .u64 (a.getD 3 0)), (.int .u64 (a.getD 4 0)), (.int .u64 (a.getD 5 0)), (.bool (false))])] (.v (.bool (b0))) [] 0) (h10 : b0 = false) (h11 : decide (n > 40) = true) : Fin cE Tryz.f49 0 (.v (.tuple #[(.agg #[(.int .i64 (0)), (.int .i64 (0))]), (.int .i64 (32))])) [] 0 (bodyK qrK m) ([.v (st bs), .na, .p 0 0, .v (it 0), .p 1 0, .v (it fr), .v (it pt), .v (it n), .v (it i)] ++ List.replicate 113 .na) (qT a) 2 :=
  seg_fin (keep := [0, 2, 3, 4, 5, 6, 7, 8]) (ct := ct) ctOk mixed (by decide) 2000 [.f, .t, .f, .f, .f, .f, .f, .f, .f, .f, .f, .f, .f, .f, .f, .f, .t, .t, .t, .t, .f, .t, .f, .f, .f, .f, .t, .t, .c (.v (.bool (b0))) [] 0, .f, .t, .f, .f, .f, .f, .f, .f, .l, .t] (by kernel_rfl) (cj h0 (cj h1 (cj h2 (cj h2 (cj h2 (cj h2 (cj h2 (cj h2 (cj h3 (cj h3 (cj h3 (cj h4 (cj h4 (cj h4 (cj h4 (cj h4 (cj h5 (cj h5 (cj h5 (cj h6 (cj h5 (cj h4 (cj h5 (cj h4 (cj h7 (cj h7 (cj h7 (cj h8 (cj h8 (cj h9 (cj h7 (cj h8 (cj h7 (cj h10 (cj h10 (cj h7 (cj h10 (cj h7 (cj h11 cj0)))))))))))))))))))))))))))))))))))))))
theorem qrb_22 (bs : ByteArray) (a : List Int) (fr pt n i : Int) (m : Nat) (b0 : Bool) (i1 : Int) (i2 : Int) (i3 : Int) (h0 : decide (i < (bs.size : Int)) = false) (h1 : decide (pt ≥ 0) = true) (h2 : (n == 0) = false) (h3 : (pt == IntKind.i64.wrap ((bs.size : Int) - 1)) = false) (h4 : decide (IntKind.i64.wrap (IntKind.i64.wrap ((bs.size : Int) - pt) - 1) > 6) = false) (h5 : decide (n > IntKind.i64.wrap (IntKind.i64.wrap (IntKind.i64.wrap ((bs.size : Int) - pt) - 1) + 1)) = true) (h6 : (0 : Int) ≤ fr ∧ fr < (bs.size : Int)) (h7 : ((((bs.data.toList.getD fr.toNat 0).toNat : Nat) : Int) == 48) = false) (h8 : (fr == 1) = true) (h9 : Does cE 104 [] 0 [.v (.agg #[(.int .u64 (a.getD 0 0)), (.int .u64 (a.getD 1 0)), (.int .u64 (a.getD 2 0)), (.int .u64 (a.getD 3 0)), (.int .u64 (a.getD 4 0)), (.int .u64 (a.getD 5 0)), (.bool (false))])] (.v (.bool (b0))) [] 0) (h10 : b0 = false) (h11 : decide (n > 40) = false) (h12 : Does cE 105 [] 0 [.v (.agg #[(.int .u64 (a.getD 0 0)), (.int .u64 (a.getD 1 0)), (.int .u64 (a.getD 2 0)), (.int .u64 (a.getD 3 0)), (.int .u64 (a.getD 4 0)), (.int .u64 (a.getD 5 0)), (.bool (fr == 1))]), .v (.int .i64 (IntKind.i64.wrap (IntKind.i64.wrap ((bs.size : Int) - pt) - 1)))] (.v (.tuple #[(.agg #[(.int .i64 (i1)), (.int .i64 (i2))]), (.int .i64 (i3))])) [] 0) : Fin cE Tryz.f49 0 (.v (.tuple #[(.agg #[(.int .i64 (i1)), (.int .i64 (i2))]), (.int .i64 (i3))])) [] 0 (bodyK qrK m) ([.v (st bs), .na, .p 0 0, .v (it 0), .p 1 0, .v (it fr), .v (it pt), .v (it n), .v (it i)] ++ List.replicate 113 .na) (qT a) 2 :=
  seg_fin (keep := [0, 2, 3, 4, 5, 6, 7, 8]) (ct := ct) ctOk mixed (by decide) 2000 [.f, .t, .f, .f, .f, .f, .f, .f, .f, .f, .f, .f, .f, .f, .f, .f, .t, .t, .t, .t, .f, .t, .f, .f, .f, .f, .t, .t, .c (.v (.bool (b0))) [] 0, .f, .t, .f, .f, .f, .f, .f, .f, .l, .f, .c (.v (.tuple #[(.agg #[(.int .i64 (i1)), (.int .i64 (i2))]), (.int .i64 (i3))])) [] 0] (by kernel_rfl) (cj h0 (cj h1 (cj h2 (cj h2 (cj h2 (cj h2 (cj h2 (cj h2 (cj h3 (cj h3 (cj h3 (cj h4 (cj h4 (cj h4 (cj h4 (cj h4 (cj h5 (cj h5 (cj h5 (cj h6 (cj h5 (cj h4 (cj h5 (cj h4 (cj h7 (cj h7 (cj h7 (cj h8 (cj h8 (cj h9 (cj h7 (cj h8 (cj h7 (cj h10 (cj h10 (cj h7 (cj h10 (cj h7 (cj h11 (cj h12 cj0))))))))))))))))))))))))))))))))))))))))
theorem qrb_23 (bs : ByteArray) (a : List Int) (fr pt n i : Int) (m : Nat) (h0 : decide (i < (bs.size : Int)) = false) (h1 : decide (pt ≥ 0) = true) (h2 : (n == 0) = false) (h3 : (pt == IntKind.i64.wrap ((bs.size : Int) - 1)) = false) (h4 : decide (IntKind.i64.wrap (IntKind.i64.wrap ((bs.size : Int) - pt) - 1) > 6) = false) (h5 : decide (n > IntKind.i64.wrap (IntKind.i64.wrap (IntKind.i64.wrap ((bs.size : Int) - pt) - 1) + 1)) = true) (h6 : (0 : Int) ≤ fr ∧ fr < (bs.size : Int)) (h7 : ((((bs.data.toList.getD fr.toNat 0).toNat : Nat) : Int) == 48) = false) (h8 : (fr == 1) = false) (h9 : decide (n > 40) = true) : Fin cE Tryz.f49 0 (.v (.tuple #[(.agg #[(.int .i64 (0)), (.int .i64 (0))]), (.int .i64 (32))])) [] 0 (bodyK qrK m) ([.v (st bs), .na, .p 0 0, .v (it 0), .p 1 0, .v (it fr), .v (it pt), .v (it n), .v (it i)] ++ List.replicate 113 .na) (qT a) 2 :=
  seg_fin (keep := [0, 2, 3, 4, 5, 6, 7, 8]) (ct := ct) ctOk mixed (by decide) 2000 [.f, .t, .f, .f, .f, .f, .f, .f, .f, .f, .f, .f, .f, .f, .f, .f, .t, .t, .t, .t, .f, .t, .f, .f, .f, .f, .f, .f, .f, .f, .f, .l, .f, .f, .l, .f, .l, .t] (by kernel_rfl) (cj h0 (cj h1 (cj h2 (cj h2 (cj h2 (cj h2 (cj h2 (cj h2 (cj h3 (cj h3 (cj h3 (cj h4 (cj h4 (cj h4 (cj h4 (cj h4 (cj h5 (cj h5 (cj h5 (cj h6 (cj h5 (cj h4 (cj h5 (cj h4 (cj h7 (cj h7 (cj h7 (cj h8 (cj h8 (cj h7 (cj h8 (cj h7 (cj (rfl : false = false) (cj h7 (cj h7 (cj h9 cj0))))))))))))))))))))))))))))))))))))
theorem qrb_24 (bs : ByteArray) (a : List Int) (fr pt n i : Int) (m : Nat) (i0 : Int) (i1 : Int) (i2 : Int) (h0 : decide (i < (bs.size : Int)) = false) (h1 : decide (pt ≥ 0) = true) (h2 : (n == 0) = false) (h3 : (pt == IntKind.i64.wrap ((bs.size : Int) - 1)) = false) (h4 : decide (IntKind.i64.wrap (IntKind.i64.wrap ((bs.size : Int) - pt) - 1) > 6) = false) (h5 : decide (n > IntKind.i64.wrap (IntKind.i64.wrap (IntKind.i64.wrap ((bs.size : Int) - pt) - 1) + 1)) = true) (h6 : (0 : Int) ≤ fr ∧ fr < (bs.size : Int)) (h7 : ((((bs.data.toList.getD fr.toNat 0).toNat : Nat) : Int) == 48) = false) (h8 : (fr == 1) = false) (h9 : decide (n > 40) = false) (h10 : Does cE 105 [] 0 [.v (.agg #[(.int .u64 (a.getD 0 0)), (.int .u64 (a.getD 1 0)), (.int .u64 (a.getD 2 0)), (.int .u64 (a.getD 3 0)), (.int .u64 (a.getD 4 0)), (.int .u64 (a.getD 5 0)), (.bool (fr == 1))]), .v (.int .i64 (IntKind.i64.wrap (IntKind.i64.wrap ((bs.size : Int) - pt) - 1)))] (.v (.tuple #[(.agg #[(.int .i64 (i0)), (.int .i64 (i1))]), (.int .i64 (i2))])) [] 0) : Fin cE Tryz.f49 0 (.v (.tuple #[(.agg #[(.int .i64 (i0)), (.int .i64 (i1))]), (.int .i64 (i2))])) [] 0 (bodyK qrK m) ([.v (st bs), .na, .p 0 0, .v (it 0), .p 1 0, .v (it fr), .v (it pt), .v (it n), .v (it i)] ++ List.replicate 113 .na) (qT a) 2 :=
  seg_fin (keep := [0, 2, 3, 4, 5, 6, 7, 8]) (ct := ct) ctOk mixed (by decide) 2000 [.f, .t, .f, .f, .f, .f, .f, .f, .f, .f, .f, .f, .f, .f, .f, .f, .t, .t, .t, .t, .f, .t, .f, .f, .f, .f, .f, .f, .f, .f, .f, .l, .f, .f, .l, .f, .l, .f, .c (.v (.tuple #[(.agg #[(.int .i64 (i0)), (.int .i64 (i1))]), (.int .i64 (i2))])) [] 0] (by kernel_rfl) (cj h0 (cj h1 (cj h2 (cj h2 (cj h2 (cj h2 (cj h2 (cj h2 (cj h3 (cj h3 (cj h3 (cj h4 (cj h4 (cj h4 (cj h4 (cj h4 (cj h5 (cj h5 (cj h5 (cj h6 (cj h5 (cj h4 (cj h5 (cj h4 (cj h7 (cj h7 (cj h7 (cj h8 (cj h8 (cj h7 (cj h8 (cj h7 (cj (rfl : false = false) (cj h7 (cj h7 (cj h9 (cj h10 cj0)))))))))))))))))))))))))))))))))))))
theorem qrb_25 (bs : ByteArray) (a : List Int) (fr pt n i : Int) (m : Nat) (b0 : Bool) (h0 : decide (i < (bs.size : Int)) = false) (h1 : decide (pt ≥ 0) = true) (h2 : (n == 0) = false) (h3 : (pt == IntKind.i64.wrap ((bs.size : Int) - 1)) = false) (h4 : decide (IntKind.i64.wrap (IntKind.i64.wrap ((bs.size : Int) - pt) - 1) > 6) = false) (h5 : decide (n > IntKind.i64.wrap (IntKind.i64.wrap (IntKind.i64.wrap ((bs.size : Int) - pt) - 1) + 1)) = false) (h6 : (fr == 1) = true) (h7 : Does cE 104 [] 0 [.v (.agg #[(.int .u64 (a.getD 0 0)), (.int .u64 (a.getD 1 0)), (.int .u64 (a.getD 2 0)), (.int .u64 (a.getD 3 0)), (.int .u64 (a.getD 4 0)), (.int .u64 (a.getD 5 0)), (.bool (false))])] (.v (.bool (b0))) [] 0) (h8 : b0 = true) (h9 : decide (n ≤ 40) = true) : Fin cE Tryz.f49 0 (.v (.tuple #[(.agg #[(.int .i64 (0)), (.int .i64 (0))]), (.int .i64 (21))])) [] 0 (bodyK qrK m) ([.v (st bs), .na, .p 0 0, .v (it 0), .p 1 0, .v (it fr), .v (it pt), .v (it n), .v (it i)] ++ List.replicate 113 .na) (qT a) 2 :=
  seg_fin (keep := [0, 2, 3, 4, 5, 6, 7, 8]) (ct := ct) ctOk mixed (by decide) 2000 [.f, .t, .f, .f, .f, .f, .f, .f, .f, .f, .f, .f, .f, .f, .f, .f, .f, .f, .f, .f, .f, .f, .f, .l, .l, .l, .t, .t, .c (.v (.bool (b0))) [] 0, .l, .t, .l, .t, .t, .l, .t, .l, .t] (by kernel_rfl) (cj h0 (cj h1 (cj h2 (cj h2 (cj h2 (cj h2 (cj h2 (cj h2 (cj h3 (cj h3 (cj h3 (cj h4 (cj h4 (cj h4 (cj h4 (cj h4 (cj h5 (cj h5 (cj h5 (cj h5 (cj h4 (cj h5 (cj h4 (cj h6 (cj h6 (cj h7 (cj h6 (cj h8 (cj h8 (cj h8 (cj h9 cj0)))))))))))))))))))))))))))))))
theorem qrb_26 (bs : ByteArray) (a : List Int) (fr pt n i : Int) (m : Nat) (b0 : Bool) (h0 : decide (i < (bs.size : Int)) = false) (h1 : decide (pt ≥ 0) = true) (h2 : (n == 0) = false) (h3 : (pt == IntKind.i64.wrap ((bs.size : Int) - 1)) = false) (h4 : decide (IntKind.i64.wrap (IntKind.i64.wrap ((bs.size : Int) - pt) - 1) > 6) = false) (h5 : decide (n > IntKind.i64.wrap (IntKind.i64.wrap (IntKind.i64.wrap ((bs.size : Int) - pt) - 1) + 1)) = false) (h6 : (fr == 1) = true) (h7 : Does cE 104 [] 0 [.v (.agg #[(.int .u64 (a.getD 0 0)), (.int .u64 (a.getD 1 0)), (.int .u64 (a.getD 2 0)), (.int .u64 (a.getD 3 0)), (.int .u64 (a.getD 4 0)), (.int .u64 (a.getD 5 0)), (.bool (false))])] (.v (.bool (b0))) [] 0) (h8 : b0 = true) (h9 : decide (n ≤ 40) = false) (h10 : decide (n > 40) = true) : Fin cE Tryz.f49 0 (.v (.tuple #[(.agg #[(.int .i64 (0)), (.int .i64 (0))]), (.int .i64 (32))])) [] 0 (bodyK qrK m) ([.v (st bs), .na, .p 0 0, .v (it 0), .p 1 0, .v (it fr), .v (it pt), .v (it n), .v (it i)] ++ List.replicate 113 .na) (qT a) 2 :=
  seg_fin (keep := [0, 2, 3, 4, 5, 6, 7, 8]) (ct := ct) ctOk mixed (by decide) 2000 [.f, .t, .f, .f, .f, .f, .f, .f, .f, .f, .f, .f, .f, .f, .f, .f, .f, .f, .f, .f, .f, .f, .f, .l, .l, .l, .t, .t, .c (.v (.bool (b0))) [] 0, .l, .t, .l, .t, .t, .l, .t, .l, .f, .t] (by kernel_rfl) (cj h0 (cj h1 (cj h2 (cj h2 (cj h2 (cj h2 (cj h2 (cj h2 (cj h3 (cj h3 (cj h3 (cj h4 (cj h4 (cj h4 (cj h4 (cj h4 (cj h5 (cj h5 (cj h5 (cj h5 (cj h4 (cj h5 (cj h4 (cj h6 (cj h6 (cj h7 (cj h6 (cj h8 (cj h8 (cj h8 (cj h9 (cj h10 cj0))))))))))))))))))))))))))))))))
theorem qrb_28 (bs : ByteArray) (a : List Int) (fr pt n i : Int) (m : Nat) (b0 : Bool) (h0 : decide (i < (bs.size : Int)) = false) (h1 : decide (pt ≥ 0) = true) (h2 : (n == 0) = false) (h3 : (pt == IntKind.i64.wrap ((bs.size : Int) - 1)) = false) (h4 : decide (IntKind.i64.wrap (IntKind.i64.wrap ((bs.size : Int) - pt) - 1) > 6) = false) (h5 : decide (n > IntKind.i64.wrap (IntKind.i64.wrap (IntKind.i64.wrap ((bs.size : Int) - pt) - 1) + 1)) = false) (h6 : (fr == 1) = true) (h7 : Does cE 104 [] 0 [.v (.agg #[(.int .u64 (a.getD 0 0)), (.int .u64 (a.getD 1 0)), (.int .u64 (a.getD 2 0)), (.int .u64 (a.getD 3 0)), (.int .u64 (a.getD 4 0)), (.int .u64 (a.getD 5 0)), (.bool (false))])] (.v (.bool (b0))) [] 0) (h8 : b0 = false) (h9 : decide (n > 40) = true) : Fin cE Tryz.f49 0 (.v (.tuple #[(.agg #[(.int .i64 (0)), (.int .i64 (0))]), (.int .i64 (32))])) [] 0 (bodyK qrK m) ([.v (st bs), .na, .p 0 0, .v (it 0), .p 1 0, .v (it fr), .v (it pt), .v (it n), .v (it i)] ++ List.replicate 113 .na) (qT a) 2 :=
  seg_fin (keep := [0, 2, 3, 4, 5, 6, 7, 8]) (ct := ct) ctOk mixed (by decide) 2000 [.f, .t, .f, .f, .f, .f, .f, .f, .f, .f, .f, .f, .f, .f, .f, .f, .f, .f, .f, .f, .f, .f, .f, .l, .l, .l, .t, .t, .c (.v (.bool (b0))) [] 0, .l, .t, .l, .f, .f, .l, .f, .l, .l, .t] (by kernel_rfl) (cj h0 (cj h1 (cj h2 (cj h2 (cj h2 (cj h2 (cj h2 (cj h2 (cj h3 (cj h3 (cj h3 (cj h4 (cj h4 (cj h4 (cj h4 (cj h4 (cj h5 (cj h5 (cj h5 (cj h5 (cj h4 (cj h5 (cj h4 (cj h6 (cj h6 (cj h7 (cj h6 (cj h8 (cj h8 (cj h8 (cj h9 cj0)))))))))))))))))))))))))))))))
theorem qrb_29 (bs : ByteArray) (a : List Int) (fr pt n i : Int) (m : Nat) (b0 : Bool) (i1 : Int) (i2 : Int) (i3 : Int) (h0 : decide (i < (bs.size : Int)) = false) (h1 : decide (pt ≥ 0) = true) (h2 : (n == 0) = false) (h3 : (pt == IntKind.i64.wrap ((bs.size : Int) - 1)) = false) (h4 : decide (IntKind.i64.wrap (IntKind.i64.wrap ((bs.size : Int) - pt) - 1) > 6) = false) (h5 : decide (n > IntKind.i64.wrap (IntKind.i64.wrap (IntKind.i64.wrap ((bs.size : Int) - pt) - 1) + 1)) = false) (h6 : (fr == 1) = true) (h7 : Does cE 104 [] 0 [.v (.agg #[(.int .u64 (a.getD 0 0)), (.int .u64 (a.getD 1 0)), (.int .u64 (a.getD 2 0)), (.int .u64 (a.getD 3 0)), (.int .u64 (a.getD 4 0)), (.int .u64 (a.getD 5 0)), (.bool (false))])] (.v (.bool (b0))) [] 0) (h8 : b0 = false) (h9 : decide (n > 40) = false) (h10 : Does cE 105 [] 0 [.v (.agg #[(.int .u64 (a.getD 0 0)), (.int .u64 (a.getD 1 0)), (.int .u64 (a.getD 2 0)), (.int .u64 (a.getD 3 0)), (.int .u64 (a.getD 4 0)), (.int .u64 (a.getD 5 0)), (.bool (fr == 1))]), .v (.int .i64 (IntKind.i64.wrap (IntKind.i64.wrap ((bs.size : Int) - pt) - 1)))] (.v (.tuple #[(.agg #[(.int .i64 (i1)), (.int .i64 (i2))]), (.int .i64 (i3))])) [] 0) : Fin cE Tryz.f49 0 (.v (.tuple #[(.agg #[(.int .i64 (i1)), (.int .i64 (i2))]), (.int .i64 (i3))])) [] 0 (bodyK qrK m) ([.v (st bs), .na, .p 0 0, .v (it 0), .p 1 0, .v (it fr), .v (it pt), .v (it n), .v (it i)] ++ List.replicate 113 .na) (qT a) 2 :=
  seg_fin (keep := [0, 2, 3, 4, 5, 6, 7, 8]) (ct := ct) ctOk mixed (by decide) 2000 [.f, .t, .f, .f, .f, .f, .f, .f, .f, .f, .f, .f, .f, .f, .f, .f, .f, .f, .f, .f, .f, .f, .f, .l, .l, .l, .t, .t, .c (.v (.bool (b0))) [] 0, .l, .t, .l, .f, .f, .l, .f, .l, .l, .f, .c (.v (.tuple #[(.agg #[(.int .i64 (i1)), (.int .i64 (i2))]), (.int .i64 (i3))])) [] 0] (by kernel_rfl) (cj h0 (cj h1 (cj h2 (cj h2 (cj h2 (cj h2 (cj h2 (cj h2 (cj h3 (cj h3 (cj h3 (cj h4 (cj h4 (cj h4 (cj h4 (cj h4 (cj h5 (cj h5 (cj h5 (cj h5 (cj h4 (cj h5 (cj h4 (cj h6 (cj h6 (cj h7 (cj h6 (cj h8 (cj h8 (cj h8 (cj h9 (cj h10 cj0))))))))))))))))))))))))))))))))
theorem qrb_30 (bs : ByteArray) (a : List Int) (fr pt n i : Int) (m : Nat) (h0 : decide (i < (bs.size : Int)) = false) (h1 : decide (pt ≥ 0) = true) (h2 : (n == 0) = false) (h3 : (pt == IntKind.i64.wrap ((bs.size : Int) - 1)) = false) (h4 : decide (IntKind.i64.wrap (IntKind.i64.wrap ((bs.size : Int) - pt) - 1) > 6) = false) (h5 : decide (n > IntKind.i64.wrap (IntKind.i64.wrap (IntKind.i64.wrap ((bs.size : Int) - pt) - 1) + 1)) = false) (h6 : (fr == 1) = false) (h7 : decide (n > 40) = true) : Fin cE Tryz.f49 0 (.v (.tuple #[(.agg #[(.int .i64 (0)), (.int .i64 (0))]), (.int .i64 (32))])) [] 0 (bodyK qrK m) ([.v (st bs), .na, .p 0 0, .v (it 0), .p 1 0, .v (it fr), .v (it pt), .v (it n), .v (it i)] ++ List.replicate 113 .na) (qT a) 2 :=
  seg_fin (keep := [0, 2, 3, 4, 5, 6, 7, 8]) (ct := ct) ctOk mixed (by decide) 2000 [.f, .t, .f, .f, .f, .f, .f, .f, .f, .f, .f, .f, .f, .f, .f, .f, .f, .f, .f, .f, .f, .f, .f, .l, .l, .l, .f, .f, .l, .f, .l, .l, .f, .l, .l, .l, .l, .t] (by kernel_rfl) (cj h0 (cj h1 (cj h2 (cj h2 (cj h2 (cj h2 (cj h2 (cj h2 (cj h3 (cj h3 (cj h3 (cj h4 (cj h4 (cj h4 (cj h4 (cj h4 (cj h5 (cj h5 (cj h5 (cj h5 (cj h4 (cj h5 (cj h4 (cj h6 (cj h6 (cj h6 (cj (rfl : false = false) (cj h7 cj0))))))))))))))))))))))))))))
theorem qrb_31 (bs : ByteArray) (a : List Int) (fr pt n i : Int) (m : Nat) (i0 : Int) (i1 : Int) (i2 : Int) (h0 : decide (i < (bs.size : Int)) = false) (h1 : decide (pt ≥ 0) = true) (h2 : (n == 0) = false) (h3 : (pt == IntKind.i64.wrap ((bs.size : Int) - 1)) = false) (h4 : decide (IntKind.i64.wrap (IntKind.i64.wrap ((bs.size : Int) - pt) - 1) > 6) = false) (h5 : decide (n > IntKind.i64.wrap (IntKind.i64.wrap (IntKind.i64.wrap ((bs.size : Int) - pt) - 1) + 1)) = false) (h6 : (fr == 1) = false) (h7 : decide (n > 40) = false) (h8 : Does cE 105 [] 0 [.v (.agg #[(.int .u64 (a.getD 0 0)), (.int .u64 (a.getD 1 0)), (.int .u64 (a.getD 2 0)), (.int .u64 (a.getD 3 0)), (.int .u64 (a.getD 4 0)), (.int .u64 (a.getD 5 0)), (.bool (fr == 1))]), .v (.int .i64 (IntKind.i64.wrap (IntKind.i64.wrap ((bs.size : Int) - pt) - 1)))] (.v (.tuple #[(.agg #[(.int .i64 (i0)), (.int .i64 (i1))]), (.int .i64 (i2))])) [] 0) : Fin cE Tryz.f49 0 (.v (.tuple #[(.agg #[(.int .i64 (i0)), (.int .i64 (i1))]), (.int .i64 (i2))])) [] 0 (bodyK qrK m) ([.v (st bs), .na, .p 0 0, .v (it 0), .p 1 0, .v (it fr), .v (it pt), .v (it n), .v (it i)] ++ List.replicate 113 .na) (qT a) 2 :=
  seg_fin (keep := [0, 2, 3, 4, 5, 6, 7, 8]) (ct := ct) ctOk mixed (by decide) 2000 [.f, .t, .f, .f, .f, .f, .f, .f, .f, .f, .f, .f, .f, .f, .f, .f, .f, .f, .f, .f, .f, .f, .f, .l, .l, .l, .f, .f, .l, .f, .l, .l, .f, .l, .l, .l, .l, .f, .c (.v (.tuple #[(.agg #[(.int .i64 (i0)), (.int .i64 (i1))]), (.int .i64 (i2))])) [] 0] (by kernel_rfl) (cj h0 (cj h1 (cj h2 (cj h2 (cj h2 (cj h2 (cj h2 (cj h2 (cj h3 (cj h3 (cj h3 (cj h4 (cj h4 (cj h4 (cj h4 (cj h4 (cj h5 (cj h5 (cj h5 (cj h5 (cj h4 (cj h5 (cj h4 (cj h6 (cj h6 (cj h6 (cj (rfl : false = false) (cj h7 (cj h8 cj0)))))))))))))))))))))))))))))
theorem qrb_32 (bs : ByteArray) (a : List Int) (fr pt n i : Int) (m : Nat) (h0 : decide (i < (bs.size : Int)) = false) (h1 : decide (pt ≥ 0) = false) (h2 : (n == 0) = true) : Fin cE Tryz.f49 0 (.v (.tuple #[(.agg #[(.int .i64 (0)), (.int .i64 (0))]), (.int .i64 (21))])) [] 0 (bodyK qrK m) ([.v (st bs), .na, .p 0 0, .v (it 0), .p 1 0, .v (it fr), .v (it pt), .v (it n), .v (it i)] ++ List.replicate 113 .na) (qT a) 2 :=
  seg_fin (keep := [0, 2, 3, 4, 5, 6, 7, 8]) (ct := ct) ctOk mixed (by decide) 2000 [.f, .f, .t, .t, .t, .t, .t, .t, .l, .l, .l, .l, .l, .l, .l, .l, .l, .l, .l, .l, .l, .l, .l, .l, .l, .l] (by kernel_rfl) (cj h0 (cj h1 (cj h2 (cj h2 (cj h2 (cj h2 (cj h2 (cj h2 cj0))))))))
theorem qrb_34 (bs : ByteArray) (a : List Int) (fr pt n i : Int) (m : Nat) (h0 : decide (i < (bs.size : Int)) = false) (h1 : decide (pt ≥ 0) = false) (h2 : (n == 0) = false) (h3 : (pt == IntKind.i64.wrap ((bs.size : Int) - 1)) = false) (h4 : decide (n > IntKind.i64.wrap (0 + 1)) = true) (h5 : (0 : Int) ≤ fr ∧ fr < (bs.size : Int)) (h6 : ((((bs.data.toList.getD fr.toNat 0).toNat : Nat) : Int) == 48) = true) : Fin cE Tryz.f49 0 (.v (.tuple #[(.agg #[(.int .i64 (0)), (.int .i64 (0))]), (.int .i64 (21))])) [] 0 (bodyK qrK m) ([.v (st bs), .na, .p 0 0, .v (it 0), .p 1 0, .v (it fr), .v (it pt), .v (it n), .v (it i)] ++ List.replicate 113 .na) (qT a) 2 :=
  seg_fin (keep := [0, 2, 3, 4, 5, 6, 7, 8]) (ct := ct) ctOk mixed (by decide) 2000 [.f, .f, .f, .f, .f, .f, .f, .f, .f, .f, .f, .l, .l, .l, .l, .l, .t, .t, .t, .t, .l, .t, .l, .t, .t, .t, .t, .t, .t, .t, .l] (by kernel_rfl) (cj h0 (cj h1 (cj h2 (cj h2 (cj h2 (cj h2 (cj h2 (cj h2 (cj h3 (cj h3 (cj h3 (cj h4 (cj h4 (cj h4 (cj h5 (cj h4 (cj h4 (cj h6 (cj h6 (cj h6 (cj h6 (cj h6 (cj h6 (cj h6 cj0))))))))))))))))))))))))
theorem qrb_35 (bs : ByteArray) (a : List Int) (fr pt n i : Int) (m : Nat) (b0 : Bool) (h0 : decide (i < (bs.size : Int)) = false) (h1 : decide (pt ≥ 0) = false) (h2 : (n == 0) = false) (h3 : (pt == IntKind.i64.wrap ((bs.size : Int) - 1)) = false) (h4 : decide (n > IntKind.i64.wrap (0 + 1)) = true) (h5 : (0 : Int) ≤ fr ∧ fr < (bs.size : Int)) (h6 : ((((bs.data.toList.getD fr.toNat 0).toNat : Nat) : Int) == 48) = false) (h7 : (fr == 1) = true) (h8 : Does cE 104 [] 0 [.v (.agg #[(.int .u64 (a.getD 0 0)), (.int .u64 (a.getD 1 0)), (.int .u64 (a.getD 2 0)), (.int .u64 (a.getD 3 0)), (.int .u64 (a.getD 4 0)), (.int .u64 (a.getD 5 0)), (.bool (false))])] (.v (.bool (b0))) [] 0) (h9 : b0 = true) (h10 : decide (n ≤ 40) = true) : Fin cE Tryz.f49 0 (.v (.tuple #[(.agg #[(.int .i64 (0)), (.int .i64 (0))]), (.int .i64 (21))])) [] 0 (bodyK qrK m) ([.v (st bs), .na, .p 0 0, .v (it 0), .p 1 0, .v (it fr), .v (it pt), .v (it n), .v (it i)] ++ List.replicate 113 .na) (qT a) 2 :=
  seg_fin (keep := [0, 2, 3, 4, 5, 6, 7, 8]) (ct := ct) ctOk mixed (by decide) 2000 [.f, .f, .f, .f, .f, .f, .f, .f, .f, .f, .f, .l, .l, .l, .l, .l, .t, .t, .t, .t, .l, .t, .l, .f, .f, .f, .t, .t, .c (.v (.bool (b0))) [] 0, .f, .t, .f, .t, .t, .f, .t, .f, .t] (by kernel_rfl) (cj h0 (cj h1 (cj h2 (cj h2 (cj h2 (cj h2 (cj h2 (cj h2 (cj h3 (cj h3 (cj h3 (cj h4 (cj h4 (cj h4 (cj h5 (cj h4 (cj h4 (cj h6 (cj h6 (cj h6 (cj h7 (cj h7 (cj h8 (cj h6 (cj h7 (cj h6 (cj h9 (cj h9 (cj h6 (cj h9 (cj h6 (cj h10 cj0))))))))))))))))))))))))))))))))
theorem qrb_36 (bs : ByteArray) (a : List Int) (fr pt n i : Int) (m : Nat) (b0 : Bool) (h0 : decide (i < (bs.size : Int)) = false) (h1 : decide (pt ≥ 0) = false) (h2 : (n == 0) = false) (h3 : (pt == IntKind.i64.wrap ((bs.size : Int) - 1)) = false) (h4 : decide (n > IntKind.i64.wrap (0 + 1)) = true) (h5 : (0 : Int) ≤ fr ∧ fr < (bs.size : Int)) (h6 : ((((bs.data.toList.getD fr.toNat 0).toNat : Nat) : Int) == 48) = false) (h7 : (fr == 1) = true) (h8 : Does cE 104 [] 0 [.v (.agg #[(.int .u64 (a.getD 0 0)), (.int .u64 (a.getD 1 0)), (.int .u64 (a.getD 2 0)), (.int .u64 (a.getD 3 0)), (.int .u64 (a.getD 4 0)), (.int .u64 (a.getD 5 0)), (.bool (false))])] (.v (.bool (b0))) [] 0) (h9 : b0 = true) (h10 : decide (n ≤ 40) = false) (h11 : decide (n > 40) = true) : Fin cE Tryz.f49 0 (.v (.tuple #[(.agg #[(.int .i64 (0)), (.int .i64 (0))]), (.int .i64 (32))])) [] 0 (bodyK qrK m) ([.v (st bs), .na, .p 0 0, .v (it 0), .p 1 0, .v (it fr), .v (it pt), .v (it n), .v (it i)] ++ List.replicate 113 .na) (qT a) 2 :=
  seg_fin (keep := [0, 2, 3, 4, 5, 6, 7, 8]) (ct := ct) ctOk mixed (by decide) 2000 [.f, .f, .f, .f, .f, .f, .f, .f, .f, .f, .f, .l, .l, .l, .l, .l, .t, .t, .t, .t, .l, .t, .l, .f, .f, .f, .t, .t, .c (.v (.bool (b0))) [] 0, .f, .t, .f, .t, .t, .f, .t, .f, .f, .t] (by kernel_rfl) (cj h0 (cj h1 (cj h2 (cj h2 (cj h2 (cj h2 (cj h2 (cj h2 (cj h3 (cj h3 (cj h3 (cj h4 (cj h4 (cj h4 (cj h5 (cj h4 (cj h4 (cj h6 (cj h6 (cj h6 (cj h7 (cj h7 (cj h8 (cj h6 (cj h7 (cj h6 (cj h9 (cj h9 (cj h6 (cj h9 (cj h6 (cj h10 (cj h11 cj0)))))))))))))))))))))))))))))))))
theorem qrb_38 (bs : ByteArray) (a : List Int) (fr pt n i : Int) (m : Nat) (b0 : Bool) (h0 : decide (i < (bs.size : Int)) = false) (h1 : decide (pt ≥ 0) = false) (h2 : (n == 0) = false) (h3 : (pt == IntKind.i64.wrap ((bs.size : Int) - 1)) = false) (h4 : decide (n > IntKind.i64.wrap (0 + 1)) = true) (h5 : (0 : Int) ≤ fr ∧ fr < (bs.size : Int)) (h6 : ((((bs.data.toList.getD fr.toNat 0).toNat : Nat) : Int) == 48) = false) (h7 : (fr == 1) = true) (h8 : Does cE 104 [] 0 [.v (.agg #[(.int .u64 (a.getD 0 0)), (.int .u64 (a.getD 1 0)), (.int .u64 (a.getD 2 0)), (.int .u64 (a.getD 3 0)), (.int .u64 (a.getD 4 0)), (.int .u64 (a.getD 5 0)), (.bool (false))])] (.v (.bool (b0))) [] 0) (h9 : b0 = false) (h10 : decide (n > 40) = true) : Fin cE Tryz.f49 0 (.v (.tuple #[(.agg #[(.int .i64 (0)), (.int .i64 (0))]), (.int .i64 (32))])) [] 0 (bodyK qrK m) ([.v (st bs), .na, .p 0 0, .v (it 0), .p 1 0, .v (it fr), .v (it pt), .v (it n), .v (it i)] ++ List.replicate 113 .na) (qT a) 2 :=
  seg_fin (keep := [0, 2, 3, 4, 5, 6, 7, 8]) (ct := ct) ctOk mixed (by decide) 2000 [.f, .f, .f, .f, .f, .f, .f, .f, .f, .f, .f, .l, .l, .l, .l, .l, .t, .t, .t, .t, .l, .t, .l, .f, .f, .f, .t, .t, .c (.v (.bool (b0))) [] 0, .f, .t, .f, .f, .f, .f, .f, .f, .l, .t] (by kernel_rfl) (cj h0 (cj h1 (cj h2 (cj h2 (cj h2 (cj h2 (cj h2 (cj h2 (cj h3 (cj h3 (cj h3 (cj h4 (cj h4 (cj h4 (cj h5 (cj h4 (cj h4 (cj h6 (cj h6 (cj h6 (cj h7 (cj h7 (cj h8 (cj h6 (cj h7 (cj h6 (cj h9 (cj h9 (cj h6 (cj h9 (cj h6 (cj h10 cj0))))))))))))))))))))))))))))))))
theorem qrb_39 (bs : ByteArray) (a : List Int) (fr pt n i : Int) (m : Nat) (b0 : Bool) (i1 : Int) (i2 : Int) (i3 : Int) (h0 : decide (i < (bs.size : Int)) = false) (h1 : decide (pt ≥ 0) = false) (h2 : (n == 0) = false) (h3 : (pt == IntKind.i64.wrap ((bs.size : Int) - 1)) = false) (h4 : decide (n > IntKind.i64.wrap (0 + 1)) = true) (h5 : (0 : Int) ≤ fr ∧ fr < (bs.size : Int)) (h6 : ((((bs.data.toList.getD fr.toNat 0).toNat : Nat) : Int) == 48) = false) (h7 : (fr == 1) = true) (h8 : Does cE 104 [] 0 [.v (.agg #[(.int .u64 (a.getD 0 0)), (.int .u64 (a.getD 1 0)), (.int .u64 (a.getD 2 0)), (.int .u64 (a.getD 3 0)), (.int .u64 (a.getD 4 0)), (.int .u64 (a.getD 5 0)), (.bool (false))])] (.v (.bool (b0))) [] 0) (h9 : b0 = false) (h10 : decide (n > 40) = false) (h11 : Does cE 105 [] 0 [.v (.agg #[(.int .u64 (a.getD 0 0)), (.int .u64 (a.getD 1 0)), (.int .u64 (a.getD 2 0)), (.int .u64 (a.getD 3 0)), (.int .u64 (a.getD 4 0)), (.int .u64 (a.getD 5 0)), (.bool (fr == 1))]), .v (.int .i64 (0))] (.v (.tuple #[(.agg #[(.int .i64 (i1)), (.int .i64 (i2))]), (.int .i64 (i3))])) [] 0) : Fin cE Tryz.f49 0 (.v (.tuple #[(.agg #[(.int .i64 (i1)), (.int .i64 (i2))]), (.int .i64 (i3))])) [] 0 (bodyK qrK m) ([.v (st bs), .na, .p 0 0, .v (it 0), .p 1 0, .v (it fr), .v (it pt), .v (it n), .v (it i)] ++ List.replicate 113 .na) (qT a) 2 :=
  seg_fin (keep := [0, 2, 3, 4, 5, 6, 7, 8]) (ct := ct) ctOk mixed (by decide) 2000 [.f, .f, .f, .f, .f, .f, .f, .f, .f, .f, .f, .l, .l, .l, .l, .l, .t, .t, .t, .t, .l, .t, .l, .f, .f, .f, .t, .t, .c (.v (.bool (b0))) [] 0, .f, .t, .f, .f, .f, .f, .f, .f, .l, .f, .c (.v (.tuple #[(.agg #[(.int .i64 (i1)), (.int .i64 (i2))]), (.int .i64 (i3))])) [] 0] (by kernel_rfl) (cj h0 (cj h1 (cj h2 (cj h2 (cj h2 (cj h2 (cj h2 (cj h2 (cj h3 (cj h3 (cj h3 (cj h4 (cj h4 (cj h4 (cj h5 (cj h4 (cj h4 (cj h6 (cj h6 (cj h6 (cj h7 (cj h7 (cj h8 (cj h6 (cj h7 (cj h6 (cj h9 (cj h9 (cj h6 (cj h9 (cj h6 (cj h10 (cj h11 cj0)))))))))))))))))))))))))))))))))
theorem qrb_40 (bs : ByteArray) (a : List Int) (fr pt n i : Int) (m : Nat) (h0 : decide (i < (bs.size : Int)) = false) (h1 : decide (pt ≥ 0) = false) (h2 : (n == 0) = false) (h3 : (pt == IntKind.i64.wrap ((bs.size : Int) - 1)) = false) (h4 : decide (n > IntKind.i64.wrap (0 + 1)) = true) (h5 : (0 : Int) ≤ fr ∧ fr < (bs.size : Int)) (h6 : ((((bs.data.toList.getD fr.toNat 0).toNat : Nat) : Int) == 48) = false) (h7 : (fr == 1) = false) (h8 : decide (n > 40) = true) : Fin cE Tryz.f49 0 (.v (.tuple #[(.agg #[(.int .i64 (0)), (.int .i64 (0))]), (.int .i64 (32))])) [] 0 (bodyK qrK m) ([.v (st bs), .na, .p 0 0, .v (it 0), .p 1 0, .v (it fr), .v (it pt), .v (it n), .v (it i)] ++ List.replicate 113 .na) (qT a) 2 :=
  seg_fin (keep := [0, 2, 3, 4, 5, 6, 7, 8]) (ct := ct) ctOk mixed (by decide) 2000 [.f, .f, .f, .f, .f, .f, .f, .f, .f, .f, .f, .l, .l, .l, .l, .l, .t, .t, .t, .t, .l, .t, .l, .f, .f, .f, .f, .f, .f, .f, .f, .l, .f, .f, .l, .f, .l, .t] (by kernel_rfl) (cj h0 (cj h1 (cj h2 (cj h2 (cj h2 (cj h2 (cj h2 (cj h2 (cj h3 (cj h3 (cj h3 (cj h4 (cj h4 (cj h4 (cj h5 (cj h4 (cj h4 (cj h6 (cj h6 (cj h6 (cj h7 (cj h7 (cj h6 (cj h7 (cj h6 (cj (rfl : false = false) (cj h6 (cj h6 (cj h8 cj0)))))))))))))))))))))))))))))
theorem qrb_41 (bs : ByteArray) (a : List Int) (fr pt n i : Int) (m : Nat) (i0 : Int) (i1 : Int) (i2 : Int) (h0 : decide (i < (bs.size : Int)) = false) (h1 : decide (pt ≥ 0) = false) (h2 : (n == 0) = false) (h3 : (pt == IntKind.i64.wrap ((bs.size : Int) - 1)) = false) (h4 : decide (n > IntKind.i64.wrap (0 + 1)) = true) (h5 : (0 : Int) ≤ fr ∧ fr < (bs.size : Int)) (h6 : ((((bs.data.toList.getD fr.toNat 0).toNat : Nat) : Int) == 48) = false) (h7 : (fr == 1) = false) (h8 : decide (n > 40) = false) (h9 : Does cE 105 [] 0 [.v (.agg #[(.int .u64 (a.getD 0 0)), (.int .u64 (a.getD 1 0)), (.int .u64 (a.getD 2 0)), (.int .u64 (a.getD 3 0)), (.int .u64 (a.getD 4 0)), (.int .u64 (a.getD 5 0)), (.bool (fr == 1))]), .v (.int .i64 (0))] (.v (.tuple #[(.agg #[(.int .i64 (i0)), (.int .i64 (i1))]), (.int .i64 (i2))])) [] 0) : Fin cE Tryz.f49 0 (.v (.tuple #[(.agg #[(.int .i64 (i0)), (.int .i64 (i1))]), (.int .i64 (i2))])) [] 0 (bodyK qrK m) ([.v (st bs), .na, .p 0 0, .v (it 0), .p 1 0, .v (it fr), .v (it pt), .v (it n), .v (it i)] ++ List.replicate 113 .na) (qT a) 2 :=
  seg_fin (keep := [0, 2, 3, 4, 5, 6, 7, 8]) (ct := ct) ctOk mixed (by decide) 2000 [.f, .f, .f, .f, .f, .f, .f, .f, .f, .f, .f, .l, .l, .l, .l, .l, .t, .t, .t, .t, .l, .t, .l, .f, .f, .f, .f, .f, .f, .f, .f, .l, .f, .f, .l, .f, .l, .f, .c (.v (.tuple #[(.agg #[(.int .i64 (i0)), (.int .i64 (i1))]), (.int .i64 (i2))])) [] 0] (by kernel_rfl) (cj h0 (cj h1 (cj h2 (cj h2 (cj h2 (cj h2 (cj h2 (cj h2 (cj h3 (cj h3 (cj h3 (cj h4 (cj h4 (cj h4 (cj h5 (cj h4 (cj h4 (cj h6 (cj h6 (cj h6 (cj h7 (cj h7 (cj h6 (cj h7 (cj h6 (cj (rfl : false = false) (cj h6 (cj h6 (cj h8 (cj h9 cj0))))))))))))))))))))))))))))))
theorem qrb_42 (bs : ByteArray) (a : List Int) (fr pt n i : Int) (m : Nat) (b0 : Bool) (h0 : decide (i < (bs.size : Int)) = false) (h1 : decide (pt ≥ 0) = false) (h2 : (n == 0) = false) (h3 : (pt == IntKind.i64.wrap ((bs.size : Int) - 1)) = false) (h4 : decide (n > IntKind.i64.wrap (0 + 1)) = false) (h5 : (fr == 1) = true) (h6 : Does cE 104 [] 0 [.v (.agg #[(.int .u64 (a.getD 0 0)), (.int .u64 (a.getD 1 0)), (.int .u64 (a.getD 2 0)), (.int .u64 (a.getD 3 0)), (.int .u64 (a.getD 4 0)), (.int .u64 (a.getD 5 0)), (.bool (false))])] (.v (.bool (b0))) [] 0) (h7 : b0 = true) (h8 : decide (n ≤ 40) = true) : Fin cE Tryz.f49 0 (.v (.tuple #[(.agg #[(.int .i64 (0)), (.int .i64 (0))]), (.int .i64 (21))])) [] 0 (bodyK qrK m) ([.v (st bs), .na, .p 0 0, .v (it 0), .p 1 0, .v (it fr), .v (it pt), .v (it n), .v (it i)] ++ List.replicate 113 .na) (qT a) 2 :=
  seg_fin (keep := [0, 2, 3, 4, 5, 6, 7, 8]) (ct := ct) ctOk mixed (by decide) 2000 [.f, .f, .f, .f, .f, .f, .f, .f, .f, .f, .f, .l, .l, .l, .l, .l, .f, .f, .f, .f, .l, .f, .l, .l, .l, .l, .t, .t, .c (.v (.bool (b0))) [] 0, .l, .t, .l, .t, .t, .l, .t, .l, .t] (by kernel_rfl) (cj h0 (cj h1 (cj h2 (cj h2 (cj h2 (cj h2 (cj h2 (cj h2 (cj h3 (cj h3 (cj h3 (cj h4 (cj h4 (cj h4 (cj h4 (cj h4 (cj h5 (cj h5 (cj h6 (cj h5 (cj h7 (cj h7 (cj h7 (cj h8 cj0))))))))))))))))))))))))
theorem qrb_43 (bs : ByteArray) (a : List Int) (fr pt n i : Int) (m : Nat) (b0 : Bool) (h0 : decide (i < (bs.size : Int)) = false) (h1 : decide (pt ≥ 0) = false) (h2 : (n == 0) = false) (h3 : (pt == IntKind.i64.wrap ((bs.size : Int) - 1)) = false) (h4 : decide (n > IntKind.i64.wrap (0 + 1)) = false) (h5 : (fr == 1) = true) (h6 : Does cE 104 [] 0 [.v (.agg #[(.int .u64 (a.getD 0 0)), (.int .u64 (a.getD 1 0)), (.int .u64 (a.getD 2 0)), (.int .u64 (a.getD 3 0)), (.int .u64 (a.getD 4 0)), (.int .u64 (a.getD 5 0)), (.bool (false))])] (.v (.bool (b0))) [] 0) (h7 : b0 = true) (h8 : decide (n ≤ 40) = false) (h9 : decide (n > 40) = true) : Fin cE Tryz.f49 0 (.v (.tuple #[(.agg #[(.int .i64 (0)), (.int .i64 (0))]), (.int .i64 (32))])) [] 0 (bodyK qrK m) ([.v (st bs), .na, .p 0 0, .v (it 0), .p 1 0, .v (it fr), .v (it pt), .v (it n), .v (it i)] ++ List.replicate 113 .na) (qT a) 2 :=
  seg_fin (keep := [0, 2, 3, 4, 5, 6, 7, 8]) (ct := ct) ctOk mixed (by decide) 2000 [.f, .f, .f, .f, .f, .f, .f, .f, .f, .f, .f, .l, .l, .l, .l, .l, .f, .f, .f, .f, .l, .f, .l, .l, .l, .l, .t, .t, .c (.v (.bool (b0))) [] 0, .l, .t, .l, .t, .t, .l, .t, .l, .f, .t] (by kernel_rfl) (cj h0 (cj h1 (cj h2 (cj h2 (cj h2 (cj h2 (cj h2 (cj h2 (cj h3 (cj h3 (cj h3 (cj h4 (cj h4 (cj h4 (cj h4 (cj h4 (cj h5 (cj h5 (cj h6 (cj h5 (cj h7 (cj h7 (cj h7 (cj h8 (cj h9 cj0)))))))))))))))))))))))))
theorem qrb_45 (bs : ByteArray) (a : List Int) (fr pt n i : Int) (m : Nat) (b0 : Bool) (h0 : decide (i < (bs.size : Int)) = false) (h1 : decide (pt ≥ 0) = false) (h2 : (n == 0) = false) (h3 : (pt == IntKind.i64.wrap ((bs.size : Int) - 1)) = false) (h4 : decide (n > IntKind.i64.wrap (0 + 1)) = false) (h5 : (fr == 1) = true) (h6 : Does cE 104 [] 0 [.v (.agg #[(.int .u64 (a.getD 0 0)), (.int .u64 (a.getD 1 0)), (.int .u64 (a.getD 2 0)), (.int .u64 (a.getD 3 0)), (.int .u64 (a.getD 4 0)), (.int .u64 (a.getD 5 0)), (.bool (false))])] (.v (.bool (b0))) [] 0) (h7 : b0 = false) (h8 : decide (n > 40) = true) : Fin cE Tryz.f49 0 (.v (.tuple #[(.agg #[(.int .i64 (0)), (.int .i64 (0))]), (.int .i64 (32))])) [] 0 (bodyK qrK m) ([.v (st bs), .na, .p 0 0, .v (it 0), .p 1 0, .v (it fr), .v (it pt), .v (it n), .v (it i)] ++ List.replicate 113 .na) (qT a) 2 :=
  seg_fin (keep := [0, 2, 3, 4, 5, 6, 7, 8]) (ct := ct) ctOk mixed (by decide) 2000 [.f, .f, .f, .f, .f, .f, .f, .f, .f, .f, .f, .l, .l, .l, .l, .l, .f, .f, .f, .f, .l, .f, .l, .l, .l, .l, .t, .t, .c (.v (.bool (b0))) [] 0, .l, .t, .l, .f, .f, .l, .f, .l, .l, .t] (by kernel_rfl) (cj h0 (cj h1 (cj h2 (cj h2 (cj h2 (cj h2 (cj h2 (cj h2 (cj h3 (cj h3 (cj h3 (cj h4 (cj h4 (cj h4 (cj h4 (cj h4 (cj h5 (cj h5 (cj h6 (cj h5 (cj h7 (cj h7 (cj h7 (cj h8 cj0))))))))))))))))))))))))
theorem qrb_46 (bs : ByteArray) (a : List Int) (fr pt n i : Int) (m : Nat) (b0 : Bool) (i1 : Int) (i2 : Int) (i3 : Int) (h0 : decide (i < (bs.size : Int)) = false) (h1 : decide (pt ≥ 0) = false) (h2 : (n == 0) = false) (h3 : (pt == IntKind.i64.wrap ((bs.size : Int) - 1)) = false) (h4 : decide (n > IntKind.i64.wrap (0 + 1)) = false) (h5 : (fr == 1) = true) (h6 : Does cE 104 [] 0 [.v (.agg #[(.int .u64 (a.getD 0 0)), (.int .u64 (a.getD 1 0)), (.int .u64 (a.getD 2 0)), (.int .u64 (a.getD 3 0)), (.int .u64 (a.getD 4 0)), (.int .u64 (a.getD 5 0)), (.bool (false))])] (.v (.bool (b0))) [] 0) (h7 : b0 = false) (h8 : decide (n > 40) = false) (h9 : Does cE 105 [] 0 [.v (.agg #[(.int .u64 (a.getD 0 0)), (.int .u64 (a.getD 1 0)), (.int .u64 (a.getD 2 0)), (.int .u64 (a.getD 3 0)), (.int .u64 (a.getD 4 0)), (.int .u64 (a.getD 5 0)), (.bool (fr == 1))]), .v (.int .i64 (0))] (.v (.tuple #[(.agg #[(.int .i64 (i1)), (.int .i64 (i2))]), (.int .i64 (i3))])) [] 0) : Fin cE Tryz.f49 0 (.v (.tuple #[(.agg #[(.int .i64 (i1)), (.int .i64 (i2))]), (.int .i64 (i3))])) [] 0 (bodyK qrK m) ([.v (st bs), .na, .p 0 0, .v (it 0), .p 1 0, .v (it fr), .v (it pt), .v (it n), .v (it i)] ++ List.replicate 113 .na) (qT a) 2 :=
  seg_fin (keep := [0, 2, 3, 4, 5, 6, 7, 8]) (ct := ct) ctOk mixed (by decide) 2000 [.f, .f, .f, .f, .f, .f, .f, .f, .f, .f, .f, .l, .l, .l, .l, .l, .f, .f, .f, .f, .l, .f, .l, .l, .l, .l, .t, .t, .c (.v (.bool (b0))) [] 0, .l, .t, .l, .f, .f, .l, .f, .l, .l, .f, .c (.v (.tuple #[(.agg #[(.int .i64 (i1)), (.int .i64 (i2))]), (.int .i64 (i3))])) [] 0] (by kernel_rfl) (cj h0 (cj h1 (cj h2 (cj h2 (cj h2 (cj h2 (cj h2 (cj h2 (cj h3 (cj h3 (cj h3 (cj h4 (cj h4 (cj h4 (cj h4 (cj h4 (cj h5 (cj h5 (cj h6 (cj h5 (cj h7 (cj h7 (cj h7 (cj h8 (cj h9 cj0)))))))))))))))))))))))))
theorem qrb_47 (bs : ByteArray) (a : List Int) (fr pt n i : Int) (m : Nat) (h0 : decide (i < (bs.size : Int)) = false) (h1 : decide (pt ≥ 0) = false) (h2 : (n == 0) = false) (h3 : (pt == IntKind.i64.wrap ((bs.size : Int) - 1)) = false) (h4 : decide (n > IntKind.i64.wrap (0 + 1)) = false) (h5 : (fr == 1) = false) (h6 : decide (n > 40) = true) : Fin cE Tryz.f49 0 (.v (.tuple #[(.agg #[(.int .i64 (0)), (.int .i64 (0))]), (.int .i64 (32))])) [] 0 (bodyK qrK m) ([.v (st bs), .na, .p 0 0, .v (it 0), .p 1 0, .v (it fr), .v (it pt), .v (it n), .v (it i)] ++ List.replicate 113 .na) (qT a) 2 :=
  seg_fin (keep := [0, 2, 3, 4, 5, 6, 7, 8]) (ct := ct) ctOk mixed (by decide) 2000 [.f, .f, .f, .f, .f, .f, .f, .f, .f, .f, .f, .l, .l, .l, .l, .l, .f, .f, .f, .f, .l, .f, .l, .l, .l, .l, .f, .f, .l, .f, .l, .l, .f, .l, .l, .l, .l, .t] (by kernel_rfl) (cj h0 (cj h1 (cj h2 (cj h2 (cj h2 (cj h2 (cj h2 (cj h2 (cj h3 (cj h3 (cj h3 (cj h4 (cj h4 (cj h4 (cj h4 (cj h4 (cj h5 (cj h5 (cj h5 (cj (rfl : false = false) (cj h6 cj0)))))))))))))))))))))
theorem qrb_48 (bs : ByteArray) (a : List Int) (fr pt n i : Int) (m : Nat) (i0 : Int) (i1 : Int) (i2 : Int) (h0 : decide (i < (bs.size : Int)) = false) (h1 : decide (pt ≥ 0) = false) (h2 : (n == 0) = false) (h3 : (pt == IntKind.i64.wrap ((bs.size : Int) - 1)) = false) (h4 : decide (n > IntKind.i64.wrap (0 + 1)) = false) (h5 : (fr == 1) = false) (h6 : decide (n > 40) = false) (h7 : Does cE 105 [] 0 [.v (.agg #[(.int .u64 (a.getD 0 0)), (.int .u64 (a.getD 1 0)), (.int .u64 (a.getD 2 0)), (.int .u64 (a.getD 3 0)), (.int .u64 (a.getD 4 0)), (.int .u64 (a.getD 5 0)), (.bool (fr == 1))]), .v (.int .i64 (0))] (.v (.tuple #[(.agg #[(.int .i64 (i0)), (.int .i64 (i1))]), (.int .i64 (i2))])) [] 0) : Fin cE Tryz.f49 0 (.v (.tuple #[(.agg #[(.int .i64 (i0)), (.int .i64 (i1))]), (.int .i64 (i2))])) [] 0 (bodyK qrK m) ([.v (st bs), .na, .p 0 0, .v (it 0), .p 1 0, .v (it fr), .v (it pt), .v (it n), .v (it i)] ++ List.replicate 113 .na) (qT a) 2 :=
  seg_fin (keep := [0, 2, 3, 4, 5, 6, 7, 8]) (ct := ct) ctOk mixed (by decide) 2000 [.f, .f, .f, .f, .f, .f, .f, .f, .f, .f, .f, .l, .l, .l, .l, .l, .f, .f, .f, .f, .l, .f, .l, .l, .l, .l, .f, .f, .l, .f, .l, .l, .f, .l, .l, .l, .l, .f, .c (.v (.tuple #[(.agg #[(.int .i64 (i0)), (.int .i64 (i1))]), (.int .i64 (i2))])) [] 0] (by kernel_rfl) (cj h0 (cj h1 (cj h2 (cj h2 (cj h2 (cj h2 (cj h2 (cj h2 (cj h3 (cj h3 (cj h3 (cj h4 (cj h4 (cj h4 (cj h4 (cj h4 (cj h5 (cj h5 (cj h5 (cj (rfl : false = false) (cj h6 (cj h7 cj0))))))))))))))))))))))
end Go.Proofs.YtpfignfgfhbblaaGreatDoorC
/- The reference's Parse, at every text. Written by a program (wip/dec/gentf.py). -/
namespace Go.Proofs.YtpfignfgfhbblaaGreatDoorC
open Go.Proofs Go.Proofs.YtpfignfgfhbblaaGreatDoorSx Go.RowKit Go.Sort Go.Lib
set_option maxRecDepth 100000
set_option linter.unusedVariables false
set_option linter.unusedSimpArgs false
theorem valD_pow : ∀ (l : List UInt8) (a : Nat), valD a l = a * 10 ^ l.length + valD 0 l
  | [], a => by simp [valD]
  | c :: r, a => by
    have h1 := valD_pow r (10 * a + (c.toNat - 48))
    have h2 := valD_pow r (10 * 0 + (c.toNat - 48))
    show valD (10 * a + (c.toNat - 48)) r = a * 10 ^ (r.length + 1) + valD (10 * 0 + (c.toNat - 48)) r
    rw [h1, h2, Nat.pow_succ]
    grind
theorem val_lt : ∀ (l : List UInt8), l.all isD = true → valD 0 l < 10 ^ l.length
  | [], _ => by simp [valD]
  | c :: r, h => by
    simp only [List.all_cons, Bool.and_eq_true] at h
    have ih := val_lt r h.2
    have hd := isD_le h.1
    show valD (10 * 0 + (c.toNat - 48)) r < 10 ^ (r.length + 1)
    rw [valD_pow, Nat.pow_succ]
    have : (10 * 0 + (c.toNat - 48)) * 10 ^ r.length ≤ 9 * 10 ^ r.length := Nat.mul_le_mul_right _ (by omega)
    omega
theorem val_ge {c : UInt8} {r : List UInt8} (hc : isD c = true) (h : c ≠ 48) : 10 ^ r.length ≤ valD 0 (c :: r) := by
  have hd : 1 ≤ c.toNat - 48 := by
    unfold isD at hc
    simp only [decide_eq_true_eq] at hc
    have : c.toNat ≠ 48 := fun e => h (UInt8.toNat_inj.1 e)
    omega
  show 10 ^ r.length ≤ valD (10 * 0 + (c.toNat - 48)) r
  rw [valD_pow]
  have : 1 * 10 ^ r.length ≤ (10 * 0 + (c.toNat - 48)) * 10 ^ r.length := Nat.mul_le_mul_right _ (by omega)
  omega
theorem over40 (ng : Bool) {w : List UInt8} {p : Option (List UInt8)} (h1 : w ≠ []) (h2 : p ≠ some []) (h3 : (p.getD []).length ≤ 6) (h4 : ¬ (1 < w.length ∧ w.head? = some 48)) (h5 : (w ++ p.getD []).all isD = true) (h : 40 < (w ++ p.getD []).length) : parseB ng w p = (0, 0, 32) := by
  rw [p_end h1 h2 h3 h4]
  refine end_over h5 ?_
  have hl : 1 < w.length := by
    rw [List.length_append] at h
    omega
  cases w with
  | nil => exact (h1 rfl).elim
  | cons c r =>
    have hc : c ≠ 48 := by
      intro e
      subst e
      exact h4 ⟨hl, rfl⟩
    have hd : isD c = true := by
      rw [List.cons_append, List.all_cons, Bool.and_eq_true] at h5
      exact h5.1
    have hg := val_ge (r := r ++ p.getD []) hd hc
    have hp : 10 ^ 40 ≤ 10 ^ (r ++ p.getD []).length := Nat.pow_le_pow_right (by decide) (by
      rw [List.cons_append, List.length_cons] at h
      omega)
    rw [List.cons_append]
    have : (18446744073709551616 : Nat) ≤ 10 ^ 40 := by decide
    omega
theorem zero_v {v : Int} (h0 : 0 ≤ v) (h1 : v < big192) (s : Bool) (hz : v = 0) : Does cE 104 [] 0 [.v (W v s)] (.v (.bool true)) [] 0 := by
  have h := zero_does (dg_dig v) s
  rw [val_W v h0 h1] at h
  simpa [hz] using h
theorem zero_n {v : Int} (h0 : 0 ≤ v) (h1 : v < big192) (s : Bool) (hz : v ≠ 0) : Does cE 104 [] 0 [.v (W v s)] (.v (.bool false)) [] 0 := by
  have h := zero_does (dg_dig v) s
  rw [val_W v h0 h1] at h
  have e : decide (v = 0) = false := by simpa using hz
  rw [e] at h
  exact h
/-- What stands behind the whole part. -/
def sepL : Option (List UInt8) → List UInt8
  | none => []
  | some q => 46 :: q
theorem drop_getD {s l : List UInt8} {a : Nat} (h : s.drop a = l) (j : Nat) : s.getD (a + j) 0 = l.getD j 0 := by
  rw [← h, List.getD_eq_getElem?_getD, List.getD_eq_getElem?_getD, List.getElem?_drop]
theorem drop_len {s l : List UInt8} {a : Nat} (h : s.drop a = l) (ha : a ≤ s.length) : s.length = a + l.length := by
  rw [← h, List.length_drop]
  omega
/-- Where the reference's loop stands. -/
structure RInv (s : List UInt8) (f : Nat) (w : List UInt8) (p : Option (List UInt8)) (r : List UInt8) (v : Int) : Prop where
  fle : f ≤ s.length
  dr : s.drop f = w ++ (sepL p ++ r)
  all : (w ++ p.getD []).all isD = true
  wp : p.isSome = true → w ≠ []
  h0 : 0 ≤ v
  h1 : v < big192
  hv : (w ++ p.getD []).length ≤ 40 → v = (valD 0 (w ++ p.getD []) : Int)
abbrev qrS (s : List UInt8) (f : Nat) (pt : Int) (n i : Nat) : List SV := [.v (st (oL s)), .na, .p 0 0, .v (it 0), .p 1 0, .v (it f), .v (it pt), .v (it n), .v (it i)] ++ List.replicate 113 .na
theorem head_q {w : List UInt8} {s l : List UInt8} {f : Nat} (h : s.drop f = w ++ l) (hw : w ≠ []) : ((((s.getD f 0).toNat : Nat) : Int) == 48) = decide (w.head? = some 48) := by
  have := drop_getD h 0
  rw [Nat.add_zero] at this
  rw [this, ← head_eq hw]
  cases w with
  | nil => exact (hw rfl).elim
  | cons c r => rfl
abbrev ptR (f : Nat) (w : List UInt8) (p : Option (List UInt8)) : Int := match p with
  | none => -1
  | some _ => (f : Int) + w.length
theorem q_end {s : List UInt8} (hs : s.length ≤ 9223372036854775807) {f : Nat} {w : List UInt8} {p : Option (List UInt8)} {v : Int} (hi : RInv s f w p [] v) (m : Nat) :
    Fin cE Tryz.f49 0 (.v (ans (parseB (((f : Nat) : Int) == 1) w p))) [] 0 (bodyK qrK m) (qrS s f (ptR f w p) (w ++ p.getD []).length s.length) (qT (dg 6 v)) 2 := by
  have hlen := drop_len hi.dr hi.fle
  have h0 := hi.h0
  have h1 := hi.h1
  have hv := hi.hv
  have b5 := hi.all
  have hdr := hi.dr
  generalize hN : (w ++ p.getD []).length = N at hv
  have hsz : decide (((s.length : Nat) : Int) < ((oL s).size : Int)) = false := by rw [oL_size]; simp
  have osz := oL_size s
  cases p with
  | none =>
    simp only [sepL, List.append_nil, Option.getD_none, List.nil_append] at hlen hdr hN b5 hv ⊢
    subst hN
    have n0 : decide ((-1 : Int) ≥ 0) = false := rfl
    by_cases w0 : w = []
    · rw [p_rule1 _ (.inl w0)]
      exact qrb_32 (bs := oL s) (a := dg 6 v) (fr := f) (m := m) (h0 := hsz) (h1 := n0) (h2 := by simp [w0])
    have hw1 : 0 < w.length := by
      cases w with
      | nil => exact (w0 rfl).elim
      | cons c r => simp
    have n2 : ((((w.length : Nat)) : Int) == 0) = false := by simp; omega
    have n3 : ((-1 : Int) == IntKind.i64.wrap (((oL s).size : Int) - 1)) = false := by
      rw [osz, wrap64 (by omega) (by omega)]
      simp
      omega
    have b2 : (none : Option (List UInt8)) ≠ some [] := by simp
    have b3 : ((none : Option (List UInt8)).getD []).length ≤ 6 := by simp
    have b6 : (0 : Int) ≤ (f : Int) ∧ (f : Int) < ((oL s).size : Int) := by rw [osz]; omega
    have e1 : IntKind.i64.wrap (0 + 1) = 1 := rfl
    have hhq := head_q (l := []) (by simpa using hdr) w0
    have b5' : (w ++ (none : Option (List UInt8)).getD []).all isD = true := by simpa using b5
    by_cases hl : 1 < w.length
    · have n4 : decide ((((w.length : Nat)) : Int) > IntKind.i64.wrap (0 + 1)) = true := by rw [e1]; simp; omega
      by_cases h48 : w.head? = some 48
      · rw [p_rule1 _ (.inr (.inr (.inr (.inl ⟨hl, h48⟩))))]
        exact qrb_34 (bs := oL s) (a := dg 6 v) (m := m) (h0 := hsz) (h1 := n0) (h2 := n2) (h3 := n3) (h4 := n4) (h5 := b6) (h6 := hhq.trans (by simpa using h48))
      · have b4 : ¬ (1 < w.length ∧ w.head? = some 48) := by rintro ⟨_, e⟩; exact h48 e
        by_cases hg : (((f : Nat) : Int) == 1) = true
        · by_cases hz : v = 0
          · have z := zero_v h0 h1 true hz
            by_cases h40 : w.length ≤ 40
            · rw [p_rule2 (ng := (((f : Nat) : Int) == 1)) ⟨hg, by have := hv h40; simp at this ⊢; omega⟩]
              exact qrb_35 (bs := oL s) (a := dg 6 v) (m := m) (h0 := hsz) (h1 := n0) (h2 := n2) (h3 := n3) (h4 := n4) (h5 := b6) (h6 := hhq.trans (by simpa using h48)) (h7 := hg) (h8 := zero_v h0 h1 false hz) (h9 := rfl) (h10 := by simp; omega)
            · rw [over40 (((f : Nat) : Int) == 1) w0 b2 b3 b4 b5' (by simp; omega)]
              exact qrb_36 (bs := oL s) (a := dg 6 v) (m := m) (h0 := hsz) (h1 := n0) (h2 := n2) (h3 := n3) (h4 := n4) (h5 := b6) (h6 := hhq.trans (by simpa using h48)) (h7 := hg) (h8 := zero_v h0 h1 false hz) (h9 := rfl) (h10 := by simp; omega) (h11 := by simp; omega)
          · have z := zero_n h0 h1 false hz
            by_cases h40 : w.length ≤ 40
            · have e : v = ((valD 0 (w ++ (none : Option (List UInt8)).getD []) : Nat) : Int) := by simpa using hv h40
              rw [p_rule3 w0 b2 b3 b4 b5' (by rintro ⟨_, e2⟩; omega), ← e]
              exact qrb_39 (bs := oL s) (a := dg 6 v) (m := m) (h0 := hsz) (h1 := n0) (h2 := n2) (h3 := n3) (h4 := n4) (h5 := b6) (h6 := hhq.trans (by simpa using h48)) (h7 := hg) (h8 := z) (h9 := rfl) (h10 := by simp; omega) (h11 := rback_does h0 h1 (((f : Nat) : Int) == 1) 0)
            · rw [over40 (((f : Nat) : Int) == 1) w0 b2 b3 b4 b5' (by simp; omega)]
              exact qrb_38 (bs := oL s) (a := dg 6 v) (m := m) (h0 := hsz) (h1 := n0) (h2 := n2) (h3 := n3) (h4 := n4) (h5 := b6) (h6 := hhq.trans (by simpa using h48)) (h7 := hg) (h8 := z) (h9 := rfl) (h10 := by simp; omega)
        · have hg2 : (((f : Nat) : Int) == 1) = false := by simpa using hg
          by_cases h40 : w.length ≤ 40
          · have e : v = ((valD 0 (w ++ (none : Option (List UInt8)).getD []) : Nat) : Int) := by simpa using hv h40
            rw [p_rule3 w0 b2 b3 b4 b5' (by rintro ⟨e2, _⟩; exact hg e2), ← e]
            exact qrb_41 (bs := oL s) (a := dg 6 v) (m := m) (h0 := hsz) (h1 := n0) (h2 := n2) (h3 := n3) (h4 := n4) (h5 := b6) (h6 := hhq.trans (by simpa using h48)) (h7 := hg2) (h8 := by simp; omega) (h9 := rback_does h0 h1 (((f : Nat) : Int) == 1) 0)
          · rw [over40 (((f : Nat) : Int) == 1) w0 b2 b3 b4 b5' (by simp; omega)]
            exact qrb_40 (bs := oL s) (a := dg 6 v) (m := m) (h0 := hsz) (h1 := n0) (h2 := n2) (h3 := n3) (h4 := n4) (h5 := b6) (h6 := hhq.trans (by simpa using h48)) (h7 := hg2) (h8 := by simp; omega)
    · have n4 : decide ((((w.length : Nat)) : Int) > IntKind.i64.wrap (0 + 1)) = false := by rw [e1]; simp; omega
      have b4 : ¬ (1 < w.length ∧ w.head? = some 48) := by rintro ⟨e, _⟩; exact hl e
      by_cases hg : (((f : Nat) : Int) == 1) = true
      · by_cases hz : v = 0
        · have z := zero_v h0 h1 true hz
          by_cases h40 : w.length ≤ 40
          · rw [p_rule2 (ng := (((f : Nat) : Int) == 1)) ⟨hg, by have := hv h40; simp at this ⊢; omega⟩]
            exact qrb_42 (bs := oL s) (a := dg 6 v) (m := m) (h0 := hsz) (h1 := n0) (h2 := n2) (h3 := n3) (h4 := n4) (h5 := hg) (h6 := zero_v h0 h1 false hz) (h7 := rfl) (h8 := by simp; omega)
          · rw [over40 (((f : Nat) : Int) == 1) w0 b2 b3 b4 b5' (by simp; omega)]
            exact qrb_43 (bs := oL s) (a := dg 6 v) (m := m) (h0 := hsz) (h1 := n0) (h2 := n2) (h3 := n3) (h4 := n4) (h5 := hg) (h6 := zero_v h0 h1 false hz) (h7 := rfl) (h8 := by simp; omega) (h9 := by simp; omega)
        · have z := zero_n h0 h1 false hz
          by_cases h40 : w.length ≤ 40
          · have e : v = ((valD 0 (w ++ (none : Option (List UInt8)).getD []) : Nat) : Int) := by simpa using hv h40
            rw [p_rule3 w0 b2 b3 b4 b5' (by rintro ⟨_, e2⟩; omega), ← e]
            exact qrb_46 (bs := oL s) (a := dg 6 v) (m := m) (h0 := hsz) (h1 := n0) (h2 := n2) (h3 := n3) (h4 := n4) (h5 := hg) (h6 := z) (h7 := rfl) (h8 := by simp; omega) (h9 := rback_does h0 h1 (((f : Nat) : Int) == 1) 0)
          · rw [over40 (((f : Nat) : Int) == 1) w0 b2 b3 b4 b5' (by simp; omega)]
            exact qrb_45 (bs := oL s) (a := dg 6 v) (m := m) (h0 := hsz) (h1 := n0) (h2 := n2) (h3 := n3) (h4 := n4) (h5 := hg) (h6 := z) (h7 := rfl) (h8 := by simp; omega)
      · have hg2 : (((f : Nat) : Int) == 1) = false := by simpa using hg
        by_cases h40 : w.length ≤ 40
        · have e : v = ((valD 0 (w ++ (none : Option (List UInt8)).getD []) : Nat) : Int) := by simpa using hv h40
          rw [p_rule3 w0 b2 b3 b4 b5' (by rintro ⟨e2, _⟩; exact hg e2), ← e]
          exact qrb_48 (bs := oL s) (a := dg 6 v) (m := m) (h0 := hsz) (h1 := n0) (h2 := n2) (h3 := n3) (h4 := n4) (h5 := hg2) (h6 := by simp; omega) (h7 := rback_does h0 h1 (((f : Nat) : Int) == 1) 0)
        · rw [over40 (((f : Nat) : Int) == 1) w0 b2 b3 b4 b5' (by simp; omega)]
          exact qrb_47 (bs := oL s) (a := dg 6 v) (m := m) (h0 := hsz) (h1 := n0) (h2 := n2) (h3 := n3) (h4 := n4) (h5 := hg2) (h6 := by simp; omega)
  | some q =>
    have w0 := hi.wp rfl
    simp only [sepL, List.append_nil, Option.getD_some] at hlen hdr hN b5 hv ⊢
    have hN2 : N = w.length + q.length := by rw [← hN, List.length_append]
    have hl2 : s.length = f + (w.length + (q.length + 1)) := by rw [hlen]; simp
    have hw1 : 0 < w.length := by
      cases w with
      | nil => exact (w0 rfl).elim
      | cons c r => simp
    have n0 : decide ((f : Int) + w.length ≥ 0) = true := by simp; omega
    have n2 : ((((N : Nat)) : Int) == 0) = false := by simp; omega
    by_cases q0 : q = []
    · rw [p_rule1 _ (.inr (.inl (by rw [q0])))]
      exact qrb_15 (bs := oL s) (a := dg 6 v) (fr := f) (pt := (f : Int) + w.length) (m := m) (h0 := hsz) (h1 := n0) (h2 := n2) (h3 := by
        rw [osz, wrap64 (by omega) (by omega)]
        simp [q0] at hl2 ⊢
        omega)
    have hq1 : 0 < q.length := by
      cases q with
      | nil => exact (q0 rfl).elim
      | cons c r => simp
    have n3 : ((f : Int) + w.length == IntKind.i64.wrap (((oL s).size : Int) - 1)) = false := by
      rw [osz, wrap64 (by omega) (by omega)]
      simp
      omega
    have esc : IntKind.i64.wrap (IntKind.i64.wrap (((oL s).size : Int) - ((f : Int) + w.length)) - 1) = (q.length : Int) := by
      rw [osz, wrap64 (n := (s.length : Int) - ((f : Int) + w.length)) (by omega) (by omega), wrap64 (by omega) (by omega)]
      omega
    by_cases q6 : 6 < q.length
    · rw [p_rule1 _ (p := some q) (.inr (.inr (.inl (by simpa using q6))))]
      exact qrb_16 (bs := oL s) (a := dg 6 v) (fr := f) (m := m) (h0 := hsz) (h1 := n0) (h2 := n2) (h3 := n3) (h4 := by rw [esc]; simp; omega)
    have n4 : decide (IntKind.i64.wrap (IntKind.i64.wrap (((oL s).size : Int) - ((f : Int) + w.length)) - 1) > 6) = false := by rw [esc]; simp; omega
    have e1 : IntKind.i64.wrap (IntKind.i64.wrap (IntKind.i64.wrap (((oL s).size : Int) - ((f : Int) + w.length)) - 1) + 1) = (q.length : Int) + 1 := by rw [esc, wrap64 (by omega) (by omega)]
    have b2 : some q ≠ some [] := by simpa using q0
    have b3 : ((some q).getD []).length ≤ 6 := by simp; omega
    have b6 : (0 : Int) ≤ (f : Int) ∧ (f : Int) < ((oL s).size : Int) := by rw [osz]; omega
    have hhq := head_q hdr w0
    by_cases hl : 1 < w.length
    · have n5 : decide ((((N : Nat)) : Int) > IntKind.i64.wrap (IntKind.i64.wrap (IntKind.i64.wrap (((oL s).size : Int) - ((f : Int) + w.length)) - 1) + 1)) = true := by rw [e1]; simp; omega
      by_cases h48 : w.head? = some 48
      · rw [p_rule1 _ (.inr (.inr (.inr (.inl ⟨hl, h48⟩))))]
        exact qrb_17 (bs := oL s) (a := dg 6 v) (m := m) (h0 := hsz) (h1 := n0) (h2 := n2) (h3 := n3) (h4 := n4) (h5 := n5) (h6 := b6) (h7 := hhq.trans (by simpa using h48))
      · have b4 : ¬ (1 < w.length ∧ w.head? = some 48) := by rintro ⟨_, e⟩; exact h48 e
        by_cases hg : (((f : Nat) : Int) == 1) = true
        · by_cases hz : v = 0
          · have z := zero_v h0 h1 true hz
            by_cases h40 : N ≤ 40
            · rw [p_rule2 (ng := (((f : Nat) : Int) == 1)) ⟨hg, by have := hv h40; simp at this ⊢; omega⟩]
              exact qrb_18 (bs := oL s) (a := dg 6 v) (m := m) (h0 := hsz) (h1 := n0) (h2 := n2) (h3 := n3) (h4 := n4) (h5 := n5) (h6 := b6) (h7 := hhq.trans (by simpa using h48)) (h8 := hg) (h9 := zero_v h0 h1 false hz) (h10 := rfl) (h11 := by simp; omega)
            · rw [over40 (((f : Nat) : Int) == 1) w0 b2 b3 b4 b5 (by simp; omega)]
              exact qrb_19 (bs := oL s) (a := dg 6 v) (m := m) (h0 := hsz) (h1 := n0) (h2 := n2) (h3 := n3) (h4 := n4) (h5 := n5) (h6 := b6) (h7 := hhq.trans (by simpa using h48)) (h8 := hg) (h9 := zero_v h0 h1 false hz) (h10 := rfl) (h11 := by simp; omega) (h12 := by simp; omega)
          · have z := zero_n h0 h1 false hz
            by_cases h40 : N ≤ 40
            · have e : v = ((valD 0 (w ++ (some q).getD []) : Nat) : Int) := by simpa using hv h40
              rw [p_rule3 w0 b2 b3 b4 b5 (by rintro ⟨_, e2⟩; omega), ← e]
              exact qrb_22 (bs := oL s) (a := dg 6 v) (m := m) (h0 := hsz) (h1 := n0) (h2 := n2) (h3 := n3) (h4 := n4) (h5 := n5) (h6 := b6) (h7 := hhq.trans (by simpa using h48)) (h8 := hg) (h9 := z) (h10 := rfl) (h11 := by simp; omega) (h12 := by rw [esc]; exact rback_does h0 h1 (((f : Nat) : Int) == 1) (q.length : Int))
            · rw [over40 (((f : Nat) : Int) == 1) w0 b2 b3 b4 b5 (by simp; omega)]
              exact qrb_21 (bs := oL s) (a := dg 6 v) (m := m) (h0 := hsz) (h1 := n0) (h2 := n2) (h3 := n3) (h4 := n4) (h5 := n5) (h6 := b6) (h7 := hhq.trans (by simpa using h48)) (h8 := hg) (h9 := z) (h10 := rfl) (h11 := by simp; omega)
        · have hg2 : (((f : Nat) : Int) == 1) = false := by simpa using hg
          by_cases h40 : N ≤ 40
          · have e : v = ((valD 0 (w ++ (some q).getD []) : Nat) : Int) := by simpa using hv h40
            rw [p_rule3 w0 b2 b3 b4 b5 (by rintro ⟨e2, _⟩; exact hg e2), ← e]
            exact qrb_24 (bs := oL s) (a := dg 6 v) (m := m) (h0 := hsz) (h1 := n0) (h2 := n2) (h3 := n3) (h4 := n4) (h5 := n5) (h6 := b6) (h7 := hhq.trans (by simpa using h48)) (h8 := hg2) (h9 := by simp; omega) (h10 := by rw [esc]; exact rback_does h0 h1 (((f : Nat) : Int) == 1) (q.length : Int))
          · rw [over40 (((f : Nat) : Int) == 1) w0 b2 b3 b4 b5 (by simp; omega)]
            exact qrb_23 (bs := oL s) (a := dg 6 v) (m := m) (h0 := hsz) (h1 := n0) (h2 := n2) (h3 := n3) (h4 := n4) (h5 := n5) (h6 := b6) (h7 := hhq.trans (by simpa using h48)) (h8 := hg2) (h9 := by simp; omega)
    · have n5 : decide ((((N : Nat)) : Int) > IntKind.i64.wrap (IntKind.i64.wrap (IntKind.i64.wrap (((oL s).size : Int) - ((f : Int) + w.length)) - 1) + 1)) = false := by rw [e1]; simp; omega
      have b4 : ¬ (1 < w.length ∧ w.head? = some 48) := by rintro ⟨e, _⟩; exact hl e
      by_cases hg : (((f : Nat) : Int) == 1) = true
      · by_cases hz : v = 0
        · have z := zero_v h0 h1 true hz
          by_cases h40 : N ≤ 40
          · rw [p_rule2 (ng := (((f : Nat) : Int) == 1)) ⟨hg, by have := hv h40; simp at this ⊢; omega⟩]
            exact qrb_25 (bs := oL s) (a := dg 6 v) (m := m) (h0 := hsz) (h1 := n0) (h2 := n2) (h3 := n3) (h4 := n4) (h5 := n5) (h6 := hg) (h7 := zero_v h0 h1 false hz) (h8 := rfl) (h9 := by simp; omega)
          · rw [over40 (((f : Nat) : Int) == 1) w0 b2 b3 b4 b5 (by simp; omega)]
            exact qrb_26 (bs := oL s) (a := dg 6 v) (m := m) (h0 := hsz) (h1 := n0) (h2 := n2) (h3 := n3) (h4 := n4) (h5 := n5) (h6 := hg) (h7 := zero_v h0 h1 false hz) (h8 := rfl) (h9 := by simp; omega) (h10 := by simp; omega)
        · have z := zero_n h0 h1 false hz
          by_cases h40 : N ≤ 40
          · have e : v = ((valD 0 (w ++ (some q).getD []) : Nat) : Int) := by simpa using hv h40
            rw [p_rule3 w0 b2 b3 b4 b5 (by rintro ⟨_, e2⟩; omega), ← e]
            exact qrb_29 (bs := oL s) (a := dg 6 v) (m := m) (h0 := hsz) (h1 := n0) (h2 := n2) (h3 := n3) (h4 := n4) (h5 := n5) (h6 := hg) (h7 := z) (h8 := rfl) (h9 := by simp; omega) (h10 := by rw [esc]; exact rback_does h0 h1 (((f : Nat) : Int) == 1) (q.length : Int))
          · rw [over40 (((f : Nat) : Int) == 1) w0 b2 b3 b4 b5 (by simp; omega)]
            exact qrb_28 (bs := oL s) (a := dg 6 v) (m := m) (h0 := hsz) (h1 := n0) (h2 := n2) (h3 := n3) (h4 := n4) (h5 := n5) (h6 := hg) (h7 := z) (h8 := rfl) (h9 := by simp; omega)
      · have hg2 : (((f : Nat) : Int) == 1) = false := by simpa using hg
        by_cases h40 : N ≤ 40
        · have e : v = ((valD 0 (w ++ (some q).getD []) : Nat) : Int) := by simpa using hv h40
          rw [p_rule3 w0 b2 b3 b4 b5 (by rintro ⟨e2, _⟩; exact hg e2), ← e]
          exact qrb_31 (bs := oL s) (a := dg 6 v) (m := m) (h0 := hsz) (h1 := n0) (h2 := n2) (h3 := n3) (h4 := n4) (h5 := n5) (h6 := hg2) (h7 := by simp; omega) (h8 := by rw [esc]; exact rback_does h0 h1 (((f : Nat) : Int) == 1) (q.length : Int))
        · rw [over40 (((f : Nat) : Int) == 1) w0 b2 b3 b4 b5 (by simp; omega)]
          exact qrb_30 (bs := oL s) (a := dg 6 v) (m := m) (h0 := hsz) (h1 := n0) (h2 := n2) (h3 := n3) (h4 := n4) (h5 := n5) (h6 := hg2) (h7 := by simp; omega)
end Go.Proofs.YtpfignfgfhbblaaGreatDoorC
/- The reference's Parse, at every text: its loop, and the whole. -/
namespace Go.Proofs.YtpfignfgfhbblaaGreatDoorC
open Go.Proofs Go.Proofs.YtpfignfgfhbblaaGreatDoorSx Go.RowKit Go.Sort Go.Lib
set_option maxRecDepth 100000
set_option linter.unusedVariables false
set_option linter.unusedSimpArgs false
/-- The parts, a digit further. -/
def wNext (w : List UInt8) (p : Option (List UInt8)) (c : UInt8) : List UInt8 := match p with
  | none => w ++ [c]
  | some _ => w
def pNext (p : Option (List UInt8)) (c : UInt8) : Option (List UInt8) := match p with
  | none => none
  | some q => some (q ++ [c])
theorem next_app (w : List UInt8) (p : Option (List UInt8)) (c : UInt8) : wNext w p c ++ (pNext p c).getD [] = (w ++ p.getD []) ++ [c] := by
  cases p <;> simp [wNext, pNext]
/-- What comes of the rest. -/
def goalR (ng : Bool) (w : List UInt8) (p : Option (List UInt8)) (r : List UInt8) : Int × Int × Int := match p with
  | none => parseB ng (w ++ (spD r).1) (spD r).2
  | some q => parseB ng w (some (q ++ r))
theorem goal_next (ng : Bool) (w : List UInt8) (p : Option (List UInt8)) {c : UInt8} (r : List UInt8) (hc : isD c = true) : goalR ng w p (c :: r) = goalR ng (wNext w p c) (pNext p c) r := by
  have h46 : c ≠ 46 := by
    intro e
    subst e
    exact absurd hc (by decide)
  cases p with
  | none => simp [goalR, wNext, pNext, spD, h46]
  | some q => simp [goalR, wNext, pNext]
theorem goal_end (ng : Bool) (w : List UInt8) (p : Option (List UInt8)) : goalR ng w p [] = parseB ng w p := by
  cases p <;> simp [goalR, spD]
/-- A byte that is none of a number's. -/
theorem goal_bad (ng : Bool) (w : List UInt8) (p : Option (List UInt8)) {c : UInt8} (r : List UInt8) (hc : isD c = false) (hp : c ≠ 46 ∨ p.isSome = true ∨ w = []) : goalR ng w p (c :: r) = (0, 0, 21) := by
  cases p with
  | none =>
    unfold goalR
    simp only
    rw [spD]
    by_cases h : c = 46
    · rw [if_pos h]
      rcases hp with e | e | e
      · exact (e h).elim
      · cases e
      · exact p_rule1 ng (.inl (by simp [e]))
    · rw [if_neg h]
      exact p_rule1 ng (.inr (.inr (.inr (.inr (by simp [hc])))))
  | some q =>
    unfold goalR
    exact p_rule1 ng (.inr (.inr (.inr (.inr (by simp [hc])))))
section
variable {s : List UInt8} {f : Nat} {w : List UInt8} {p : Option (List UInt8)} {r : List UInt8} {c : UInt8} {v : Int}
def posR (f : Nat) (w : List UInt8) (p : Option (List UInt8)) : Nat := f + (w.length + (sepL p).length)
theorem pos_at (hi : RInv s f w p (c :: r) v) : s.getD (posR f w p) 0 = c := by
  unfold posR
  rw [drop_getD hi.dr, ← List.append_assoc, List.getD_eq_getElem?_getD, List.getElem?_append_right (by simp)]
  simp
theorem pos_lt (hi : RInv s f w p (c :: r) v) : posR f w p < s.length ∧ (w ++ p.getD []).length ≤ posR f w p := by
  have := drop_len hi.dr hi.fle
  unfold posR
  cases p with
  | none => simp [sepL] at this ⊢; omega
  | some q => simp [sepL] at this ⊢; omega
theorem pos_end (hi : RInv s f w p [] v) : posR f w p = s.length := by
  have := drop_len hi.dr hi.fle
  unfold posR
  simp at this ⊢
  omega
theorem pos_next : posR f (wNext w p c) (pNext p c) = posR f w p + 1 := by
  unfold posR
  cases p with
  | none => simp [wNext, pNext, sepL]; omega
  | some q => simp [wNext, pNext, sepL]; omega
theorem rinv_digit (hi : RInv s f w p (c :: r) v) (hc : isD c = true) {v' : Int} (h0 : 0 ≤ v') (h1 : v' < big192) (hv : (w ++ p.getD []).length + 1 ≤ 40 → v' = v * 10 + ((c.toNat - 48 : Nat) : Int)) : RInv s f (wNext w p c) (pNext p c) r v' where
  fle := hi.fle
  dr := by
    rw [hi.dr]
    cases p <;> simp [wNext, pNext, sepL]
  all := by
    rw [next_app, List.all_append, hi.all, List.all_cons, hc]
    rfl
  wp := by
    cases p with
    | none => simp [pNext]
    | some q => intro _; exact hi.wp rfl
  h0 := h0
  h1 := h1
  hv := by
    intro h
    rw [next_app, List.length_append] at h
    simp only [List.length_cons, List.length_nil] at h
    rw [next_app, valD_snoc, hv (by omega), hi.hv (by omega)]
    omega
theorem rinv_point (hi : RInv s f w none (46 :: r) v) (hw : w ≠ []) : RInv s f w (some []) r v where
  fle := hi.fle
  dr := by
    rw [hi.dr]
    simp [sepL]
  all := by simpa using hi.all
  wp := fun _ => hw
  h0 := hi.h0
  h1 := hi.h1
  hv := by simpa using hi.hv
theorem rinv_small (hi : RInv s f w p r v) (h : (w ++ p.getD []).length + 1 ≤ 40) : v < 10 ^ 39 := by
  have hl := val_lt _ hi.all
  have hp : 10 ^ (w ++ p.getD []).length ≤ 10 ^ 39 := Nat.pow_le_pow_right (by decide) (by omega)
  have e := hi.hv (by omega)
  have e2 : ((10 ^ 39 : Nat) : Int) = (10 : Int) ^ 39 := by decide
  omega
end
theorem pt_next (f : Nat) (w : List UInt8) (p : Option (List UInt8)) (c : UInt8) : ptR f (wNext w p c) (pNext p c) = ptR f w p := by
  cases p <;> rfl
theorem ge48 {c : UInt8} (h : isD c = true) : ((((c.toNat : Nat) : Int) == 46) = false) ∧ decide (((c.toNat : Nat) : Int) ≥ 48) = true ∧ decide (((c.toNat : Nat) : Int) ≤ 57) = true := by
  unfold isD at h
  simp only [decide_eq_true_eq] at h
  refine ⟨?_, ?_, ?_⟩
  · simp; omega
  · simp; omega
  · simp; omega
theorem eq46 {c : UInt8} (h : c ≠ 46) : (((c.toNat : Nat) : Int) == 46) = false := by
  have : ¬ ((c.toNat : Nat) : Int) = 46 := by
    intro e
    apply h
    apply UInt8.toNat_inj.1
    have e46 : (46 : UInt8).toNat = 46 := rfl
    omega
  simpa using this
theorem q_loop {s : List UInt8} (hs : s.length ≤ 9223372036854775807) {f : Nat} : ∀ (r : List UInt8) (w : List UInt8) (p : Option (List UInt8)) (v : Int), RInv s f w p r v →
    Fin cE Tryz.f49 0 (.v (ans (goalR (((f : Nat) : Int) == 1) w p r))) [] 0 (bodyK qrK r.length) (qrS s f (ptR f w p) (w ++ p.getD []).length (posR f w p)) (qT (dg 6 v)) 2
  | [], w, p, v, hi => by
    rw [goal_end, pos_end hi]
    exact q_end hs hi 0
  | c :: r, w, p, v, hi => by
    obtain ⟨pl, pn⟩ := pos_lt hi
    have hat := pos_at hi
    have hbv : big192 = 6277101735386680763835789423207666416102355444464034512896 := rfl
    have h0 := hi.h0
    have h1 := hi.h1
    have lt : decide (((posR f w p : Nat) : Int) < ((oL s).size : Int)) = true := by rw [oL_size]; simp; omega
    have bn : (0 : Int) ≤ ((posR f w p : Nat) : Int) ∧ ((posR f w p : Nat) : Int) < ((oL s).size : Int) := by rw [oL_size]; omega
    have en : IntKind.i64.wrap ((((w ++ p.getD []).length : Nat) : Int) + 1) = (((w ++ p.getD []).length + 1 : Nat) : Int) := step64 (by omega)
    have ei : IntKind.i64.wrap (((posR f w p : Nat) : Int) + 1) = ((posR f w p + 1 : Nat) : Int) := step64 (by omega)
    have el : (wNext w p c ++ (pNext p c).getD []).length = (w ++ p.getD []).length + 1 := by rw [next_app, List.length_append]; rfl
    by_cases hc : isD c = true
    · obtain ⟨d1, d2, d3⟩ := ge48 hc
      obtain ⟨y1, _⟩ := dig_yes hc
      have hd := isD_le hc
      rw [← hat] at d1 d2 d3
      rw [goal_next _ w p r hc]
      by_cases h40 : (w ++ p.getD []).length + 1 ≤ 40
      · have hsm := rinv_small hi h40
        have e39 : (10 : Int) ^ 39 = 1000000000000000000000000000000000000000 := by decide
        have n1 : decide (IntKind.i64.wrap ((((w ++ p.getD []).length : Nat) : Int) + 1) ≤ 40) = true := by rw [en]; simp; simp at h40; omega
        have t49 : Does cE 103 [] 0 [.v (it 10)] (.v (W 10 false)) [] 0 := rof_does (n := 10) (by decide)
        have t48 := W_times (x := v) (y := 10) ⟨h0, h1⟩ (by decide) (by omega) false false
        have ed : IntKind.i64.wrap (IntKind.u8.wrap ((((s.getD (posR f w p) 0).toNat : Nat) : Int) - 48)) = ((c.toNat - 48 : Nat) : Int) := by rw [hat, y1, wrap64 (by omega) (by omega)]
        have u49 : Does cE 103 [] 0 [.v (it (IntKind.i64.wrap (IntKind.u8.wrap ((((s.getD (posR f w p) 0).toNat : Nat) : Int) - 48))))] (.v (W ((c.toNat - 48 : Nat) : Int) false)) [] 0 := by
          rw [ed]
          exact rof_does (n := ((c.toNat - 48 : Nat) : Int)) ⟨by omega, by omega⟩
        have t58 := W_plus (x := v * 10) (y := ((c.toNat - 48 : Nat) : Int)) (by omega) (by omega) (by omega) false false
        have h := qrb_10 (bs := oL s) (a := dg 6 v) (fr := f) (pt := ptR f w p) (n := ((w ++ p.getD []).length : Nat)) (i := (posR f w p : Nat)) (m := r.length + 1) (res := .v (ans (goalR (((f : Nat) : Int) == 1) (wNext w p c) (pNext p c) r))) (T' := []) (n' := 0) (h0 := lt) (h1 := bn) (h2 := d1) (h3 := d2) (h4 := d3) (h5 := n1) (h6 := t49) (h7 := t48) (h8 := u49) (h9 := t58)
        rw [en, ei] at h
        refine h (fin_round ?_)
        have ih := q_loop hs r (wNext w p c) (pNext p c) (v * 10 + ((c.toNat - 48 : Nat) : Int)) (rinv_digit hi hc (by omega) (by omega) (fun _ => rfl))
        rw [pt_next, el, pos_next] at ih
        exact ih
      · have n1 : decide (IntKind.i64.wrap ((((w ++ p.getD []).length : Nat) : Int) + 1) ≤ 40) = false := by rw [en]; simp; simp at h40; omega
        have h := qrb_11 (bs := oL s) (a := dg 6 v) (fr := f) (pt := ptR f w p) (n := ((w ++ p.getD []).length : Nat)) (i := (posR f w p : Nat)) (m := r.length + 1) (res := .v (ans (goalR (((f : Nat) : Int) == 1) (wNext w p c) (pNext p c) r))) (T' := []) (n' := 0) (h0 := lt) (h1 := bn) (h2 := d1) (h3 := d2) (h4 := d3) (h5 := n1)
        rw [en, ei] at h
        refine h (fin_round ?_)
        have ih := q_loop hs r (wNext w p c) (pNext p c) v (rinv_digit hi hc h0 h1 (fun e => (h40 e).elim))
        rw [pt_next, el, pos_next] at ih
        exact ih
    · have hc2 : isD c = false := by simpa using hc
      by_cases h46 : c = 46
      · subst h46
        have q1 : ((((s.getD (posR f w p) 0).toNat : Nat) : Int) == 46) = true := by rw [hat]; rfl
        have q2 : decide ((((s.getD (posR f w p) 0).toNat : Nat) : Int) ≥ 48) = false := by rw [hat]; rfl
        cases p with
        | none =>
          by_cases w0 : w = []
          · rw [goal_bad _ w none r hc2 (.inr (.inr w0))]
            refine qrb_5 (bs := oL s) (a := dg 6 v) (fr := f) (pt := -1) (n := ((w ++ (none : Option (List UInt8)).getD []).length : Nat)) (i := (posR f w none : Nat)) (m := r.length + 1) (h0 := lt) (h1 := bn) (h2 := q1) (h3 := rfl) (h4 := ?_) (h5 := q2)
            unfold posR
            rw [w0]
            simp [sepL]
          · have hi2 := rinv_point hi w0
            have hw1 : 0 < w.length := by
              cases w with
              | nil => exact (w0 rfl).elim
              | cons c r => simp
            have h := qrb_1 (bs := oL s) (a := dg 6 v) (fr := f) (pt := -1) (n := ((w ++ (none : Option (List UInt8)).getD []).length : Nat)) (i := (posR f w none : Nat)) (m := r.length + 1) (res := .v (ans (goalR (((f : Nat) : Int) == 1) w none (46 :: r)))) (T' := []) (n' := 0) (h0 := lt) (h1 := bn) (h2 := q1) (h3 := rfl) (h4 := by
              unfold posR
              simp [sepL]
              omega)
            rw [ei] at h
            refine h (fin_round ?_)
            have ih := q_loop hs r w (some []) v hi2
            have eg : goalR (((f : Nat) : Int) == 1) w (some []) r = goalR (((f : Nat) : Int) == 1) w none (46 :: r) := by simp [goalR, spD]
            have ep : ptR f w (some []) = ((posR f w none : Nat) : Int) := by
              unfold posR
              simp [sepL]
            have eo : posR f w (some []) = posR f w none + 1 := by
              unfold posR
              simp [sepL]
              omega
            rw [eg, ep, eo] at ih
            exact ih
        | some q =>
          rw [goal_bad _ w (some q) r hc2 (.inr (.inl rfl))]
          exact qrb_9 (bs := oL s) (a := dg 6 v) (fr := f) (pt := (f : Int) + w.length) (n := ((w ++ (some q).getD []).length : Nat)) (i := (posR f w (some q) : Nat)) (m := r.length + 1) (h0 := lt) (h1 := bn) (h2 := q1) (h3 := by simp; omega) (h4 := q2)
      · have d1 := eq46 h46
        rw [goal_bad _ w p r hc2 (.inl h46)]
        rw [← hat] at d1
        by_cases h48 : ((c.toNat : Nat) : Int) ≥ 48
        · have d2 : decide ((((s.getD (posR f w p) 0).toNat : Nat) : Int) ≥ 48) = true := by rw [hat]; simpa using h48
          have d3 : decide ((((s.getD (posR f w p) 0).toNat : Nat) : Int) ≤ 57) = false := by
            rw [hat]
            unfold isD at hc2
            simp only [decide_eq_false_iff_not] at hc2 ⊢
            omega
          exact qrb_12 (bs := oL s) (a := dg 6 v) (fr := f) (pt := ptR f w p) (n := ((w ++ p.getD []).length : Nat)) (i := (posR f w p : Nat)) (m := r.length + 1) (h0 := lt) (h1 := bn) (h2 := d1) (h3 := d2) (h4 := d3)
        · have d2 : decide ((((s.getD (posR f w p) 0).toNat : Nat) : Int) ≥ 48) = false := by rw [hat]; simp only [decide_eq_false_iff_not]; omega
          exact qrb_13 (bs := oL s) (a := dg 6 v) (fr := f) (pt := ptR f w p) (n := ((w ++ p.getD []).length : Nat)) (i := (posR f w p : Nat)) (m := r.length + 1) (h0 := lt) (h1 := bn) (h2 := d1) (h3 := d2)
theorem rparse_does (s : List UInt8) (hs : s.length ≤ 9223372036854775807) : Does cE 49 [] 0 [.v (st (oL s))] (.v (ans (parseL s))) [] 0 := by
  refine does_of_fin (fn := Tryz.f49) (c := bd Tryz.f49) rfl (by kernel_rfl) rfl ?_
  have start : ∀ (f : Nat), f ≤ s.length → RInv s f [] none (s.drop f) 0 := fun f hf => ⟨hf, by simp [sepL], rfl, (fun e => by cases e), by decide, by decide, fun _ => rfl⟩
  cases s with
  | nil =>
    refine qra_3 (oL []) _ _ _ (by rw [is_empty rfl]; rfl) ?_
    exact fin_loop (0 + 1) (fin_round (q_loop hs [] [] none 0 (start 0 (Nat.le_refl _))))
  | cons c r =>
    have h0 : (!(oL (c :: r)).toList == (ByteArray.mk #[]).toList) = true := by rw [ne_empty (by simp)]; rfl
    have h1 : (0 : Int) ≤ 0 ∧ (0 : Int) < ((oL (c :: r)).size : Int) := by rw [oL_size]; simp
    by_cases h45 : c = 45
    · subst h45
      have e1 : parseL (45 :: r) = goalR (((1 : Nat) : Int) == 1) [] none r := by simp [parseL, goalR, sgn, bodyL]
      rw [e1]
      refine qra_1 (oL (45 :: r)) _ _ _ h0 h1 rfl ?_
      exact fin_loop (r.length + 1) (fin_round (q_loop hs r [] none 0 (start 1 (by simp))))
    · have e2 : sgn (c :: r) = false := by simp [sgn, h45]
      have e1 : parseL (c :: r) = goalR (((0 : Nat) : Int) == 1) [] none (c :: r) := by
        unfold parseL bodyL goalR
        rw [e2]
        rfl
      rw [e1]
      refine qra_2 (oL (c :: r)) _ _ _ h0 h1 ?_ ?_
      · have : ¬ ((c.toNat : Nat) : Int) = 45 := by
          intro e
          apply h45
          apply UInt8.toNat_inj.1
          have e45 : (45 : UInt8).toNat = 45 := rfl
          omega
        have h3 : (((c.toNat : Nat) : Int) == 45) = false := by simpa using this
        exact h3
      · exact fin_loop ((c :: r).length + 1) (fin_round (q_loop hs (c :: r) [] none 0 (start 0 (by simp))))
end Go.Proofs.YtpfignfgfhbblaaGreatDoorC
/- What is written of a point is read again: plain law. -/
namespace Go.Proofs.YtpfignfgfhbblaaGreatDoorC
open Go.Proofs Go.Proofs.YtpfignfgfhbblaaGreatDoorSx Go.Lib
set_option maxRecDepth 100000
set_option linter.unusedVariables false
theorem pu_digits : ∀ (l : List UInt8) (acc : Nat), l.all isD = true → valD acc l < 9223372036854775808 → Lib.parseUint10 acc l = .ok (valD acc l)
  | [], acc, _, _ => rfl
  | c :: r, acc, h, hv => by
    rw [List.all_cons, Bool.and_eq_true] at h
    have hd : 48 ≤ c.toNat ∧ c.toNat ≤ 57 := of_decide_eq_true h.1
    have e : valD acc (c :: r) = valD (10 * acc + (c.toNat - 48)) r := rfl
    rw [e] at hv ⊢
    have hge : 10 * acc + (c.toNat - 48) ≤ valD (10 * acc + (c.toNat - 48)) r := by
      rw [valD_pow]
      have : 1 ≤ 10 ^ r.length := Nat.one_le_pow _ _ (by decide)
      have := Nat.le_mul_of_pos_right (10 * acc + (c.toNat - 48)) (by omega : 0 < 10 ^ r.length)
      omega
    unfold Lib.parseUint10
    rw [if_pos hd, if_neg (by omega), if_neg (by omega), show acc * 10 + (c.toNat - 48) = 10 * acc + (c.toNat - 48) by omega]
    exact pu_digits r _ h.2 hv
theorem mag_dec (u : Nat) (hu : u < 9223372036854775808) : Lib.parseMag (decDigits u) = .ok u := by
  unfold Lib.parseMag
  rw [if_neg (dec_ne u), pu_digits (decDigits u) 0 (dec_all u) (by rw [dec_val]; exact hu), dec_val]
theorem dec_chars {u : Nat} {c : UInt8} (h : c ∈ decDigits u) : 48 ≤ c.toNat ∧ c.toNat ≤ 57 := of_decide_eq_true (List.all_eq_true.1 (dec_all u) c h)
theorem atoi_itoa {n : Int} (h : -1048576 ≤ n ∧ n ≤ 1048576) : Lib.atoiAll (Lib.itoa n) = .ok n := by
  unfold Lib.itoa
  by_cases h0 : n < 0
  · rw [if_pos h0]
    unfold Lib.atoiAll
    simp only
    rw [if_pos (.inr (by decide)), mag_dec n.natAbs (by omega)]
    simp only
    rw [if_neg (by omega), if_neg (by omega), if_pos (by decide)]
    congr 1
    omega
  · rw [if_neg h0]
    cases hd : decDigits n.toNat with
    | nil => exact absurd hd (dec_ne _)
    | cons c r =>
      have hc := dec_chars (u := n.toNat) (c := c) (by rw [hd]; exact List.mem_cons_self)
      have hm := mag_dec n.toNat (by omega)
      rw [hd] at hm
      unfold Lib.atoiAll
      simp only
      rw [if_neg (by omega), hm]
      simp only
      rw [if_neg (by omega), if_neg (by omega), if_neg (by omega)]
      congr 1
      omega
theorem itoa_chars {n : Int} {c : UInt8} (h : c ∈ Lib.itoa n) : c.toNat = 45 ∨ 48 ≤ c.toNat ∧ c.toNat ≤ 57 := by
  unfold Lib.itoa at h
  split at h
  · rcases List.mem_cons.1 h with rfl | h
    · exact .inl (by decide)
    · exact .inr (dec_chars h)
  · exact .inr (dec_chars h)
theorem sq_app : ∀ (w p : List UInt8), (∀ c ∈ w, c ≠ 44) → sq (w ++ 44 :: p) = (w, some p)
  | [], p, _ => by simp [sq]
  | c :: w, p, h => by
    have ih := sq_app w p (fun x hx => h x (List.mem_cons_of_mem _ hx))
    have hc := h c List.mem_cons_self
    rw [List.cons_append, sq, ih]
    simp [hc]
theorem dw_self {p : UInt8 → Bool} {A B : List UInt8} (hne : A ≠ []) (h : ∀ c ∈ A, p c = false) : (A ++ B).dropWhile p = A ++ B := by
  cases A with
  | nil => exact absurd rfl hne
  | cons c r => rw [List.cons_append, List.dropWhile_cons_of_neg (by rw [h c List.mem_cons_self]; decide)]
theorem trim_pt {A : List UInt8} (hne : A ≠ []) (h : ∀ c ∈ A, ([60, 62] : List UInt8).contains c = false) : Lib.trimS (60 :: (A ++ [62])) [60, 62] = A := by
  have h1 : Lib.trimRightS (60 :: (A ++ [62])) [60, 62] = 60 :: A := by
    unfold Lib.trimRightS
    have e : (60 :: (A ++ [62])).reverse = 62 :: (A.reverse ++ [60]) := by simp
    rw [e, List.dropWhile_cons_of_pos (by decide), dw_self (by simpa using hne) (fun c hc => h c (List.mem_reverse.1 hc))]
    simp
  unfold Lib.trimS
  rw [h1]
  unfold Lib.trimLeftS
  rw [List.dropWhile_cons_of_pos (by decide)]
  have := dw_self (B := []) hne h
  rw [List.append_nil] at this
  exact this
theorem nin {c : UInt8} (h : c.toNat = 44 ∨ c.toNat = 45 ∨ 48 ≤ c.toNat ∧ c.toNat ≤ 57) : ([60, 62] : List UInt8).contains c = false := by
  have h1 : c ≠ 60 := fun e => by subst e; revert h; decide
  have h2 : c ≠ 62 := fun e => by subst e; revert h; decide
  simp [h1, h2]
theorem gp_back {x y : Int} (h : rt x y = true) : gpL (prG x y) = (x, y, 0) := by
  have hb := rt_b (x := x) (y := y) (by rw [h]; rfl)
  have ep : prG x y = 60 :: ((Lib.itoa x ++ 44 :: Lib.itoa y) ++ [62]) := by
    unfold prG
    rw [h]
    simp
  have et : trG (prG x y) = (Lib.itoa x, some (Lib.itoa y)) := by
    unfold trG
    rw [ep, trim_pt (by simp) (fun c hc => ?_), sq_app _ _ (fun c hc => ?_)]
    · intro e
      subst e
      rcases itoa_chars hc with h | h
      · revert h; decide
      · revert h; decide
    · rcases List.mem_append.1 hc with hc | hc
      · exact nin (.inr (itoa_chars hc))
      · rcases List.mem_cons.1 hc with rfl | hc
        · exact nin (.inl (by decide))
        · exact nin (.inr (itoa_chars hc))
  unfold gpL
  rw [et]
  simp only [Option.getD_some]
  rw [atoi_itoa hb.1, atoi_itoa hb.2]
  simp only
  rw [h, beq_self_eq_true]
  rfl
/-- What a text comes to is a point that it says, or nothing. -/
theorem gp_some (l : List UInt8) : gpL l = (0, 0, 21) ∨ ∃ x y, rt x y = true ∧ prG x y = l ∧ gpL l = (x, y, 0) := by
  unfold gpL
  split
  · rename_i a b ha hb
    cases h : (rt a b && prG a b == l) with
    | false => exact .inl rfl
    | true =>
      rw [Bool.and_eq_true] at h
      exact .inr ⟨a, b, h.1, eq_of_beq h.2, rfl⟩
  · exact .inl rfl
end Go.Proofs.YtpfignfgfhbblaaGreatDoorC
/- The reference's number at a text's head: told. -/
namespace Go.Proofs.YtpfignfgfhbblaaGreatDoorC
open Go.Proofs Go.Proofs.YtpfignfgfhbblaaGreatDoorSx Go.Lib
set_option maxRecDepth 100000
set_option linter.unusedVariables false
def byA (s : ByteArray) (i : Nat) : Int := (((s.data.toList.getD i 0).toNat : Nat) : Int)
/-- Does it begin with a '-'? -/
def ngB (s : ByteArray) : Bool := (!s.toList == (ByteArray.mk #[]).toList) && (byA s 0 == 45)
def contB (s : ByteArray) (i : Nat) : Bool := decide ((i : Int) < (s.size : Int)) && (decide (byA s i ≥ 48) && (decide (byA s i ≤ 57) && decide ((i : Int) < 10)))
def nuR (s : ByteArray) : Nat → Nat → Int → Int × Nat
  | 0, i, n => (n, i)
  | f + 1, i, n => bif contB s i then nuR s f (i + 1) (10 * n + (byA s i - 48)) else (n, i)
def numV (s : ByteArray) (p : Int × Nat) : Value := bif ngB s then .tuple #[it (-p.1), it p.2] else .tuple #[it p.1, it p.2]
/-- What the number at a text's head comes to. -/
def numB (s : ByteArray) : Value := numV s (bif ngB s then nuR s 9 1 0 else nuR s 10 0 0)
theorem rNb_eq (s : ByteArray) (i : Nat) (n : Int) (m : Nat) (R : Value) (hn : 0 ≤ n ∧ n ≤ 100000000000) : rNb s i n m R = bif contB s i then R else numV s (n, i) := by
  have hw : IntKind.i64.wrap (0 - n) = -n := by rw [wrap64 (by omega) (by omega)]; omega
  unfold rNb contB numV ngB byA
  rw [hw]
  rw [show Int.toNat 0 = 0 from rfl]
  cases decide ((i : Int) < (s.size : Int)) <;> cases decide ((((s.data.toList.getD i 0).toNat : Nat) : Int) ≥ 48) <;> cases decide ((((s.data.toList.getD i 0).toNat : Nat) : Int) ≤ 57) <;> cases decide ((i : Int) < 10) <;> cases (!s.toList == (ByteArray.mk #[]).toList) <;> cases ((((s.data.toList.getD 0 0).toNat : Nat) : Int) == 45) <;> rfl
theorem num_loop (s : ByteArray) (hs : s.size ≤ 140737488355328) : ∀ (f i : Nat) (n : Int), i + f = 10 → 0 ≤ n → n < 10 ^ (i + 1) → Fin cE Tryz.f100 0 (.v (numV s (nuR s f i n))) [] 0 (bodyK numK3 f) (numS s i n) [] 0 := by
  have big : ∀ i : Nat, i ≤ 10 → (10 : Int) ^ (i + 1) ≤ 100000000000 := by
    intro i hi
    have h1 : (10 : Nat) ^ (i + 1) ≤ 10 ^ 11 := Nat.pow_le_pow_right (by decide) (by omega)
    have h3 : ((10 ^ (i + 1) : Nat) : Int) = (10 : Int) ^ (i + 1) := by simp
    omega
  intro f
  induction f with
  | zero =>
    intro i n hi h0 hn
    have hb := big i (by omega)
    have h := rNb_fin s i n 0 (it 0) hs (by omega) (fun _ _ _ c4 => absurd (of_decide_eq_true c4) (by omega))
    rw [rNb_eq s i n 0 (it 0) (by omega)] at h
    have e : contB s i = false := by
      unfold contB
      rw [decide_eq_false (by omega : ¬ (i : Int) < 10)]
      simp
    rw [e] at h
    exact h
  | succ f ih =>
    intro i n hi h0 hn
    have hb := big i (by omega)
    have h := rNb_fin s i n (f + 1) (numV s (nuR s f (i + 1) (10 * n + (byA s i - 48)))) hs (by omega) (fun c1 c2 c3 c4 => by
      have d2 : byA s i ≥ 48 := of_decide_eq_true c2
      have d3 : byA s i ≤ 57 := of_decide_eq_true c3
      have d4 := of_decide_eq_true c4
      have e1 : IntKind.i64.wrap ((i : Int) + 1) = ((i + 1 : Nat) : Int) := by rw [wrap64 (by omega) (by omega)]; omega
      have e2 : IntKind.u8.wrap (byA s i - 48) = byA s i - 48 := by rw [wrap8e]; omega
      have e3 : IntKind.i64.wrap (IntKind.i64.wrap (10 * n) + IntKind.i64.wrap (byA s i - 48)) = 10 * n + (byA s i - 48) := by
        rw [wrap64 (n := 10 * n) (by omega) (by omega), wrap64 (n := byA s i - 48) (by omega) (by omega), wrap64 (by omega) (by omega)]
      have hp : (10 : Int) ^ (i + 1 + 1) = 10 * 10 ^ (i + 1) := by rw [Int.pow_succ]; omega
      have hi2 := ih (i + 1) (10 * n + (byA s i - 48)) (by omega) (by omega) (by omega)
      show Fin cE _ 0 _ [] 0 _ ([.v (st s), .na, .na, .na, .v (it (IntKind.i64.wrap ((i : Int) + 1))), .v (it (IntKind.i64.wrap (IntKind.i64.wrap (10 * n) + IntKind.i64.wrap (IntKind.u8.wrap (byA s i - 48)))))] ++ List.replicate 48 .na) [] 0
      rw [e1, e2, e3]
      exact fin_round hi2)
    rw [rNb_eq s i n (f + 1) _ (by omega)] at h
    have e : nuR s (f + 1) i n = bif contB s i then nuR s f (i + 1) (10 * n + (byA s i - 48)) else (n, i) := rfl
    rw [e]
    cases hc : contB s i with
    | false => rw [hc] at h; exact h
    | true => rw [hc] at h; exact h
theorem number_does (s : ByteArray) (hs : s.size ≤ 140737488355328) : Does cE 100 [] 0 [.v (st s)] (.v (numB s)) [] 0 := by
  refine does_of_fin (fn := Tryz.f100) (c := bd Tryz.f100) rfl (by kernel_rfl) rfl ?_
  have h := rNa_fin s (.v (numV s (nuR s 9 1 0)), [], 0) (.v (numV s (nuR s 10 0 0)), [], 0) hs (fun _ _ => fin_loop (9 + 1) (fin_round (num_loop s hs 9 1 0 (by omega) (by omega) (by decide)))) (fin_loop (10 + 1) (fin_round (num_loop s hs 10 0 0 (by omega) (by omega) (by decide))))
  have e : rNa s (.v (numV s (nuR s 9 1 0)), [], 0) (.v (numV s (nuR s 10 0 0)), [], 0) = (.v (numB s), [], 0) := by
    unfold rNa numB
    have en : ngB s = ((!s.toList == (ByteArray.mk #[]).toList) && ((((s.data.toList.getD (Int.toNat 0) 0).toNat : Nat) : Int) == 45)) := rfl
    rw [en]
    cases (!s.toList == (ByteArray.mk #[]).toList) <;> cases ((((s.data.toList.getD (Int.toNat 0) 0).toNat : Nat) : Int) == 45) <;> rfl
  rw [e] at h
  exact h
end Go.Proofs.YtpfignfgfhbblaaGreatDoorC
/- The reference's number, in parts; what slices ask. -/
namespace Go.Proofs.YtpfignfgfhbblaaGreatDoorC
open Go.Proofs Go.Proofs.YtpfignfgfhbblaaGreatDoorSx Go.Lib
set_option maxRecDepth 100000
set_option linter.unusedVariables false
def nuP (s : ByteArray) : Int × Nat := bif ngB s then nuR s 9 1 0 else nuR s 10 0 0
def nN (s : ByteArray) : Int := bif ngB s then -(nuP s).1 else (nuP s).1
def nI (s : ByteArray) : Int := ((nuP s).2 : Int)
theorem number2_does (s : ByteArray) (hs : s.size ≤ 140737488355328) : Does cE 100 [] 0 [.v (st s)] (.v (.tuple #[it (nN s), it (nI s)])) [] 0 := by
  have h := number_does s hs
  have e : numB s = .tuple #[it (nN s), it (nI s)] := by
    unfold numB numV nN nI nuP
    cases ngB s <;> rfl
  rw [e] at h
  exact h
theorem nuR_b (s : ByteArray) : ∀ (f i : Nat) (n : Int), i + f = 10 → 0 ≤ n → n < 10 ^ i → 0 ≤ (nuR s f i n).1 ∧ (nuR s f i n).1 < 10000000000 ∧ (nuR s f i n).2 ≤ 10 := by
  intro f
  induction f with
  | zero =>
    intro i n hi h0 hn
    have : i = 10 := by omega
    subst this
    show 0 ≤ n ∧ n < 10000000000 ∧ 10 ≤ 10
    exact ⟨h0, by simpa using hn, Nat.le_refl _⟩
  | succ f ih =>
    intro i n hi h0 hn
    have e : nuR s (f + 1) i n = bif contB s i then nuR s f (i + 1) (10 * n + (byA s i - 48)) else (n, i) := rfl
    rw [e]
    cases hc : contB s i with
    | false =>
      refine ⟨h0, ?_, by show i ≤ 10; omega⟩
      have h1 : (10 : Nat) ^ i ≤ 10 ^ 10 := Nat.pow_le_pow_right (by decide) (by omega)
      have h3 : ((10 ^ i : Nat) : Int) = (10 : Int) ^ i := by simp
      show n < _
      omega
    | true =>
      unfold contB at hc
      simp only [Bool.and_eq_true, decide_eq_true_eq] at hc
      refine ih (i + 1) _ (by omega) (by omega) ?_
      rw [Int.pow_succ]
      omega
theorem nuP_b (s : ByteArray) : 0 ≤ (nuP s).1 ∧ (nuP s).1 < 10000000000 ∧ (nuP s).2 ≤ 10 := by
  unfold nuP
  cases ngB s
  · exact nuR_b s 10 0 0 (by omega) (by omega) (by decide)
  · exact nuR_b s 9 1 0 (by omega) (by omega) (by decide)
theorem nN_64 (s : ByteArray) : I64 (nN s) := by
  have := nuP_b s
  unfold nN
  cases ngB s
  · show -9223372036854775808 ≤ (nuP s).1 ∧ (nuP s).1 ≤ _; omega
  · show -9223372036854775808 ≤ -(nuP s).1 ∧ -(nuP s).1 ≤ _; omega
theorem nI_b (s : ByteArray) : 0 ≤ nI s ∧ nI s ≤ 10 := by
  have := nuP_b s
  unfold nI
  omega
theorem ext_le {s : ByteArray} {a b : Nat} (hs : s.size ≤ 140737488355328) : (s.extract a b).size ≤ 140737488355328 := by
  rw [ByteArray.size_extract]
  omega
theorem sl1 {s : ByteArray} (h : (s.toList == (ByteArray.mk #[]).toList) = false) : (0 : Int) ≤ 1 ∧ (1 : Int) ≤ (s.size : Int) ∧ (s.size : Int) ≤ (s.size : Int) := by
  have := pos_of (s := s) (by rw [h]; rfl)
  omega
theorem sl2 {s : ByteArray} {x : Int} (hs : s.size ≤ 140737488355328) (hx : 0 ≤ x ∧ x ≤ 10) (h : decide (IntKind.i64.wrap (x + 2) > (s.size : Int)) = false) : (0 : Int) ≤ IntKind.i64.wrap (x + 2) ∧ IntKind.i64.wrap (x + 2) ≤ (s.size : Int) ∧ (s.size : Int) ≤ (s.size : Int) := by
  have := of_decide_eq_false h
  rw [wrap64 (by omega) (by omega)] at this ⊢
  omega
end Go.Proofs.YtpfignfgfhbblaaGreatDoorC
/- The reference's number at the head of a numeral: plain law. -/
namespace Go.Proofs.YtpfignfgfhbblaaGreatDoorC
open Go.Proofs Go.Proofs.YtpfignfgfhbblaaGreatDoorSx Go.Lib
set_option maxRecDepth 100000
set_option linter.unusedVariables false
theorem byA_at (p r : List UInt8) (c : UInt8) : byA (oL (p ++ c :: r)) p.length = (c.toNat : Int) := by
  unfold byA
  rw [oL_data, List.getD_eq_getElem?_getD, List.getElem?_append_right (Nat.le_refl _)]
  simp
theorem nuR_dec : ∀ (d : List UInt8) (f : Nat) (p r : List UInt8) (c : UInt8) (a : Nat), (∀ e ∈ d, 48 ≤ e.toNat ∧ e.toNat ≤ 57) → ¬ (48 ≤ c.toNat ∧ c.toNat ≤ 57) → d.length ≤ f → p.length + f = 10 →
    nuR (oL (p ++ (d ++ c :: r))) f p.length (a : Int) = (((valD a d : Nat) : Int), p.length + d.length)
  | [], 0, p, r, c, a, _, _, _, _ => rfl
  | [], f + 1, p, r, c, a, _, hc, _, _ => by
    have e : nuR (oL (p ++ ([] ++ c :: r))) (f + 1) p.length (a : Int) = bif contB (oL (p ++ ([] ++ c :: r))) p.length then nuR (oL (p ++ ([] ++ c :: r))) f (p.length + 1) (10 * (a : Int) + (byA (oL (p ++ ([] ++ c :: r))) p.length - 48)) else ((a : Int), p.length) := rfl
    have e2 : contB (oL (p ++ ([] ++ c :: r))) p.length = false := by
      unfold contB
      rw [List.nil_append, byA_at]
      by_cases h1 : 48 ≤ c.toNat
      · rw [decide_eq_false (by omega : ¬ (c.toNat : Int) ≤ 57)]
        simp
      · rw [decide_eq_false (by omega : ¬ (c.toNat : Int) ≥ 48)]
        simp
    rw [e, e2]
    rfl
  | g :: d, f + 1, p, r, c, a, hd, hc, hl, hf => by
    have hg := hd g List.mem_cons_self
    have e : nuR (oL (p ++ (g :: d ++ c :: r))) (f + 1) p.length (a : Int) = bif contB (oL (p ++ (g :: d ++ c :: r))) p.length then nuR (oL (p ++ (g :: d ++ c :: r))) f (p.length + 1) (10 * (a : Int) + (byA (oL (p ++ (g :: d ++ c :: r))) p.length - 48)) else ((a : Int), p.length) := rfl
    have e2 : contB (oL (p ++ (g :: d ++ c :: r))) p.length = true := by
      unfold contB
      rw [List.cons_append, byA_at, oL_size, decide_eq_true (by simp only [List.length_append, List.length_cons]; omega : ((p.length : Nat) : Int) < (((p ++ g :: (d ++ c :: r)).length : Nat) : Int)), decide_eq_true (by omega : (g.toNat : Int) ≥ 48), decide_eq_true (by omega : (g.toNat : Int) ≤ 57), decide_eq_true (by omega : ((p.length : Nat) : Int) < 10)]
      rfl
    have ih := nuR_dec d f (p ++ [g]) r c (10 * a + (g.toNat - 48)) (fun x hx => hd x (List.mem_cons_of_mem _ hx)) hc (by simp at hl; omega) (by simp; omega)
    have el : p ++ [g] ++ (d ++ c :: r) = p ++ (g :: d ++ c :: r) := by simp
    have ep : (p ++ [g]).length = p.length + 1 := by simp
    rw [el, ep] at ih
    have ea : 10 * (a : Int) + (byA (oL (p ++ (g :: d ++ c :: r))) p.length - 48) = ((10 * a + (g.toNat - 48) : Nat) : Int) := by
      rw [List.cons_append, byA_at]
      omega
    rw [e, e2, ea]
    show nuR _ f (p.length + 1) _ = _
    rw [ih]
    show (_, _) = (_, _)
    rw [List.length_cons, show p.length + 1 + d.length = p.length + (d.length + 1) by omega]
    rfl
theorem dec_sh : ∀ (k u : Nat), u < 10 ^ (k + 1) → (decDigits u).length ≤ k + 1
  | 0, u, h => by rw [dec_small (by simpa using h)]; exact Nat.le_refl _
  | k + 1, u, h => by
    by_cases hu : u < 10
    · rw [dec_small hu]
      show 1 ≤ _
      omega
    · rw [dec_big hu, List.length_append]
      have := dec_sh k (u / 10) (by rw [Nat.pow_succ] at h; omega)
      show _ + 1 ≤ _
      omega
theorem ngB_eq (c : UInt8) (l : List UInt8) : ngB (oL (c :: l)) = (c == 45) := by
  have e1 : byA (oL (c :: l)) 0 = (c.toNat : Int) := byA_at [] l c
  unfold ngB
  rw [e1, oL_toList]
  have e2 : ((ByteArray.mk #[]).toList) = ([] : List UInt8) := by rw [Go.ByteArray.toList_eq]
  rw [e2]
  have e3 : (c :: l == ([] : List UInt8)) = false := rfl
  rw [e3]
  by_cases h : c = 45
  · subst h
    rfl
  · have hn : c.toNat ≠ 45 := fun e => h (UInt8.toNat_inj.1 e)
    rw [beq_eq_false_iff_ne.2 h, beq_eq_false_iff_ne.2 (by omega : (c.toNat : Int) ≠ 45)]
    rfl
/-- The reference's number reads a small numeral. -/
theorem nu_itoa {n : Int} (h : -1048576 ≤ n ∧ n ≤ 1048576) (c : UInt8) (r : List UInt8) (hc : ¬ (48 ≤ c.toNat ∧ c.toNat ≤ 57)) : nN (oL (Lib.itoa n ++ c :: r)) = n ∧ nI (oL (Lib.itoa n ++ c :: r)) = ((Lib.itoa n).length : Int) := by
  by_cases h0 : n < 0
  · have ei : Lib.itoa n = 45 :: decDigits n.natAbs := by unfold Lib.itoa; rw [if_pos h0]
    have eg : ngB (oL (Lib.itoa n ++ c :: r)) = true := by rw [ei, List.cons_append, ngB_eq]; rfl
    have ed := nuR_dec (decDigits n.natAbs) 9 [45] r c 0 (fun e he => dec_chars he) hc (by have := dec_sh 8 n.natAbs (by omega); omega) rfl
    have el : [45] ++ (decDigits n.natAbs ++ c :: r) = Lib.itoa n ++ c :: r := by rw [ei]; rfl
    rw [el, dec_val] at ed
    have ep : nuP (oL (Lib.itoa n ++ c :: r)) = ((n.natAbs : Int), 1 + (decDigits n.natAbs).length) := by
      unfold nuP
      rw [eg]
      exact ed
    refine ⟨?_, ?_⟩
    · unfold nN
      rw [eg, ep]
      show -(n.natAbs : Int) = n
      omega
    · unfold nI
      rw [ep, ei]
      show ((1 + (decDigits n.natAbs).length : Nat) : Int) = ((decDigits n.natAbs).length + 1 : Nat)
      omega
  · have ei : Lib.itoa n = decDigits n.toNat := by unfold Lib.itoa; rw [if_neg h0]
    have eg : ngB (oL (Lib.itoa n ++ c :: r)) = false := by
      rw [ei]
      cases hd : decDigits n.toNat with
      | nil => exact absurd hd (dec_ne _)
      | cons g d =>
        have hg := dec_chars (u := n.toNat) (c := g) (by rw [hd]; exact List.mem_cons_self)
        rw [List.cons_append, ngB_eq]
        exact beq_eq_false_iff_ne.2 (fun e => by subst e; revert hg; decide)
    have ed := nuR_dec (decDigits n.toNat) 10 [] r c 0 (fun e he => dec_chars he) hc (by have := dec_sh 8 n.toNat (by omega); omega) rfl
    have el : [] ++ (decDigits n.toNat ++ c :: r) = Lib.itoa n ++ c :: r := by rw [ei]; rfl
    rw [el, dec_val] at ed
    have ep : nuP (oL (Lib.itoa n ++ c :: r)) = ((n.toNat : Int), 0 + (decDigits n.toNat).length) := by
      unfold nuP
      rw [eg]
      exact ed
    refine ⟨?_, ?_⟩
    · unfold nN
      rw [eg, ep]
      show (n.toNat : Int) = n
      omega
    · unfold nI
      rw [ep, ei]
      show ((0 + (decDigits n.toNat).length : Nat) : Int) = ((decDigits n.toNat).length : Nat)
      omega
end Go.Proofs.YtpfignfgfhbblaaGreatDoorC
