import Derived.Test.YtpfignfgfhbblaaGreatDoorMu04
import Derived.Test.YtpfignfgfhbblaaGreatDoorMu05
import Derived.Laws.MathBits
import Derived.Lib.ItoaNum
/- Each path of each function: on which conditions it is taken, what it gives. Printed by a program (wip/tools/sxexp2.lean); Lean checks each. -/
namespace Go.Proofs.YtpfignfgfhbblaaGreatDoorC
open Go.Proofs Go.Proofs.YtpfignfgfhbblaaGreatDoorSx
set_option maxRecDepth 100000
set_option linter.unusedVariables false

theorem tma_1 (a b : List Int) (s t : Bool) (res : SV) (T' : Tab cE) (n' : Nat) (hF : Fin cE Tryz.f102 0 res T' n' tmK [.na, .na, .p 0 0, .p 1 0, .p 2 0, .p 3 0, .v (.int .i64 (0)), .na, .na, .na, .na, .na, .na, .na, .na, .na, .na, .na, .na, .na, .na, .na, .na, .na, .na, .na, .na, .na, .na, .na, .na, .na, .na, .na, .na, .na, .na, .na, .na, .na, .na, .na, .na, .na, .na, .na, .na, .na] [(0, .box 142 [.v (.int .u64 (a.getD 0 0)), .v (.int .u64 (a.getD 1 0)), .v (.int .u64 (a.getD 2 0)), .v (.int .u64 (a.getD 3 0)), .v (.int .u64 (a.getD 4 0)), .v (.int .u64 (a.getD 5 0)), .v (.bool (s))]), (1, .box 142 [.v (.int .u64 (b.getD 0 0)), .v (.int .u64 (b.getD 1 0)), .v (.int .u64 (b.getD 2 0)), .v (.int .u64 (b.getD 3 0)), .v (.int .u64 (b.getD 4 0)), .v (.int .u64 (b.getD 5 0)), .v (.bool (t))]), (2, .box 142 [.v (.int .u64 (0)), .v (.int .u64 (0)), .v (.int .u64 (0)), .v (.int .u64 (0)), .v (.int .u64 (0)), .v (.int .u64 (0)), .v (.bool (false))]), (3, .box 142 [.v (.int .u64 (0)), .v (.int .u64 (0)), .v (.int .u64 (0)), .v (.int .u64 (0)), .v (.int .u64 (0)), .v (.int .u64 (0)), .v (.bool (false))])] 4) : Fin cE Tryz.f102 0 res T' n' [.code (bd Tryz.f102)] (argsS [.v (wv a s), .v (wv b t)] Tryz.f102.ntmps) [] 0 :=
  seg_at (keep := [2, 3, 4, 5, 6]) (ct := ct) ctOk mixed (by decide) 2000 [] (by kernel_rfl) cj0 hF
theorem tmb_1 (a b o : List Int) (s t : Bool) (i m : Nat) (res : SV) (T' : Tab cE) (n' : Nat) (h0 : decide ((i : Int) < 6) = true) (hF : Fin cE Tryz.f102 0 res T' n' (tnK (m)) [.na, .na, .p 0 0, .p 1 0, .p 2 0, .p 3 0, .v (.int .i64 ((i : Int))), .v (.int .u64 (0)), .v (.int .i64 (0)), .na, .na, .na, .na, .na, .na, .na, .na, .na, .na, .na, .na, .na, .na, .na, .na, .na, .na, .na, .na, .na, .na, .na, .na, .na, .na, .na, .na, .na, .na, .na, .na, .na, .na, .na, .na, .na, .na, .na] [(0, .box 142 [.v (.int .u64 (a.getD 0 0)), .v (.int .u64 (a.getD 1 0)), .v (.int .u64 (a.getD 2 0)), .v (.int .u64 (a.getD 3 0)), .v (.int .u64 (a.getD 4 0)), .v (.int .u64 (a.getD 5 0)), .v (.bool (s))]), (1, .box 142 [.v (.int .u64 (b.getD 0 0)), .v (.int .u64 (b.getD 1 0)), .v (.int .u64 (b.getD 2 0)), .v (.int .u64 (b.getD 3 0)), .v (.int .u64 (b.getD 4 0)), .v (.int .u64 (b.getD 5 0)), .v (.bool (t))]), (2, .box 142 [.v (.int .u64 (0)), .v (.int .u64 (0)), .v (.int .u64 (0)), .v (.int .u64 (0)), .v (.int .u64 (0)), .v (.int .u64 (0)), .v (.bool (false))]), (3, .box 142 [.v (.int .u64 (o.getD 0 0)), .v (.int .u64 (o.getD 1 0)), .v (.int .u64 (o.getD 2 0)), .v (.int .u64 (o.getD 3 0)), .v (.int .u64 (o.getD 4 0)), .v (.int .u64 (o.getD 5 0)), .v (.bool (false))])] 4) : Fin cE Tryz.f102 0 res T' n' (bodyK tmK m) (ps4 ++ [.v (it i)] ++ List.replicate 41 .na) (wT a b o s t false) 4 :=
  seg_at (keep := [2, 3, 4, 5, 6, 7, 8]) (ct := ct) ctOk mixed (by decide) 2000 [.t] (by kernel_rfl) (cj h0 cj0) hF
theorem tmb_2 (a b o : List Int) (s t : Bool) (i m : Nat) (h0 : decide ((i : Int) < 6) = false) : Fin cE Tryz.f102 0 (.v (.agg #[(.int .u64 (o.getD 0 0)), (.int .u64 (o.getD 1 0)), (.int .u64 (o.getD 2 0)), (.int .u64 (o.getD 3 0)), (.int .u64 (o.getD 4 0)), (.int .u64 (o.getD 5 0)), (.bool (false))])) [] 0 (bodyK tmK m) (ps4 ++ [.v (it i)] ++ List.replicate 41 .na) (wT a b o s t false) 4 :=
  seg_fin (keep := [2, 3, 4, 5, 6, 7, 8]) (ct := ct) ctOk mixed (by decide) 2000 [.f] (by kernel_rfl) (cj h0 cj0)
theorem tmc_1 (a b o : List Int) (s t : Bool) (c : Int) (i k m n : Nat) (res : SV) (T' : Tab cE) (n' : Nat) (h0 : decide (IntKind.i64.wrap ((i : Int) + (k : Int)) < 6) = true) (h1 : (0 : Int) ≤ IntKind.i64.wrap ((i : Int) + (k : Int)) ∧ IntKind.i64.wrap ((i : Int) + (k : Int)) < ((6 : Nat) : Int)) (h2 : (IntKind.i64.wrap ((i : Int) + (k : Int))).toNat.succ.le (intPre IntKind.u64 (List.drop (0 + 0) (wc o false))).length) (h3 : (0 : Int) ≤ (i : Int) ∧ (i : Int) < ((6 : Nat) : Int)) (h4 : i.succ.le (intPre IntKind.u64 (List.drop (0 + 0) (wc a s))).length) (h5 : (0 : Int) ≤ (k : Int) ∧ (k : Int) < ((6 : Nat) : Int)) (h6 : k.succ.le (intPre IntKind.u64 (List.drop (0 + 0) (wc b t))).length) (hF : Fin cE Tryz.f102 0 res T' n' (inK (tnK (m)) (n)) [.na, .na, .p 0 0, .p 1 0, .p 2 0, .p 3 0, .v (.int .i64 ((i : Int))), .v (.int .u64 (IntKind.u64.wrap ((IntKind.u64.wrap (IntKind.u64.wrap (c + (intPre IntKind.u64 (List.drop (0 + 0) (wc o false))).getD (IntKind.i64.wrap ((i : Int) + (k : Int))).toNat (0 : Int)) + IntKind.u64.wrap ((intPre IntKind.u64 (List.drop (0 + 0) (wc a s))).getD i 0 * (intPre IntKind.u64 (List.drop (0 + 0) (wc b t))).getD k 0))).tdiv 4294967296))), .v (.int .i64 (IntKind.i64.wrap ((k : Int) + 1))), .na, .na, .na, .na, .na, .na, .na, .na, .na, .na, .na, .na, .na, .na, .na, .na, .na, .na, .na, .na, .na, .na, .na, .na, .na, .na, .na, .na, .na, .na, .na, .na, .na, .na, .na, .na, .na, .na, .na] [(0, .box 142 [.v (.int .u64 (a.getD 0 0)), .v (.int .u64 (a.getD 1 0)), .v (.int .u64 (a.getD 2 0)), .v (.int .u64 (a.getD 3 0)), .v (.int .u64 (a.getD 4 0)), .v (.int .u64 (a.getD 5 0)), .v (.bool (s))]), (1, .box 142 [.v (.int .u64 (b.getD 0 0)), .v (.int .u64 (b.getD 1 0)), .v (.int .u64 (b.getD 2 0)), .v (.int .u64 (b.getD 3 0)), .v (.int .u64 (b.getD 4 0)), .v (.int .u64 (b.getD 5 0)), .v (.bool (t))]), (2, .box 142 [.v (.int .u64 (0)), .v (.int .u64 (0)), .v (.int .u64 (0)), .v (.int .u64 (0)), .v (.int .u64 (0)), .v (.int .u64 (0)), .v (.bool (false))]), (3, .box 142 [.v (.int .u64 (((intPre IntKind.u64 (List.drop (0 + 0) (wc o false))).set (IntKind.i64.wrap ((i : Int) + (k : Int))).toNat ((IntKind.u64.wrap (IntKind.u64.wrap (c + (intPre IntKind.u64 (List.drop (0 + 0) (wc o false))).getD (IntKind.i64.wrap ((i : Int) + (k : Int))).toNat (0 : Int)) + IntKind.u64.wrap ((intPre IntKind.u64 (List.drop (0 + 0) (wc a s))).getD i 0 * (intPre IntKind.u64 (List.drop (0 + 0) (wc b t))).getD k 0))).tmod 4294967296)).getD 0 0)), .v (.int .u64 (((intPre IntKind.u64 (List.drop (0 + 0) (wc o false))).set (IntKind.i64.wrap ((i : Int) + (k : Int))).toNat ((IntKind.u64.wrap (IntKind.u64.wrap (c + (intPre IntKind.u64 (List.drop (0 + 0) (wc o false))).getD (IntKind.i64.wrap ((i : Int) + (k : Int))).toNat (0 : Int)) + IntKind.u64.wrap ((intPre IntKind.u64 (List.drop (0 + 0) (wc a s))).getD i 0 * (intPre IntKind.u64 (List.drop (0 + 0) (wc b t))).getD k 0))).tmod 4294967296)).getD 1 0)), .v (.int .u64 (((intPre IntKind.u64 (List.drop (0 + 0) (wc o false))).set (IntKind.i64.wrap ((i : Int) + (k : Int))).toNat ((IntKind.u64.wrap (IntKind.u64.wrap (c + (intPre IntKind.u64 (List.drop (0 + 0) (wc o false))).getD (IntKind.i64.wrap ((i : Int) + (k : Int))).toNat (0 : Int)) + IntKind.u64.wrap ((intPre IntKind.u64 (List.drop (0 + 0) (wc a s))).getD i 0 * (intPre IntKind.u64 (List.drop (0 + 0) (wc b t))).getD k 0))).tmod 4294967296)).getD 2 0)), .v (.int .u64 (((intPre IntKind.u64 (List.drop (0 + 0) (wc o false))).set (IntKind.i64.wrap ((i : Int) + (k : Int))).toNat ((IntKind.u64.wrap (IntKind.u64.wrap (c + (intPre IntKind.u64 (List.drop (0 + 0) (wc o false))).getD (IntKind.i64.wrap ((i : Int) + (k : Int))).toNat (0 : Int)) + IntKind.u64.wrap ((intPre IntKind.u64 (List.drop (0 + 0) (wc a s))).getD i 0 * (intPre IntKind.u64 (List.drop (0 + 0) (wc b t))).getD k 0))).tmod 4294967296)).getD 3 0)), .v (.int .u64 (((intPre IntKind.u64 (List.drop (0 + 0) (wc o false))).set (IntKind.i64.wrap ((i : Int) + (k : Int))).toNat ((IntKind.u64.wrap (IntKind.u64.wrap (c + (intPre IntKind.u64 (List.drop (0 + 0) (wc o false))).getD (IntKind.i64.wrap ((i : Int) + (k : Int))).toNat (0 : Int)) + IntKind.u64.wrap ((intPre IntKind.u64 (List.drop (0 + 0) (wc a s))).getD i 0 * (intPre IntKind.u64 (List.drop (0 + 0) (wc b t))).getD k 0))).tmod 4294967296)).getD 4 0)), .v (.int .u64 (((intPre IntKind.u64 (List.drop (0 + 0) (wc o false))).set (IntKind.i64.wrap ((i : Int) + (k : Int))).toNat ((IntKind.u64.wrap (IntKind.u64.wrap (c + (intPre IntKind.u64 (List.drop (0 + 0) (wc o false))).getD (IntKind.i64.wrap ((i : Int) + (k : Int))).toNat (0 : Int)) + IntKind.u64.wrap ((intPre IntKind.u64 (List.drop (0 + 0) (wc a s))).getD i 0 * (intPre IntKind.u64 (List.drop (0 + 0) (wc b t))).getD k 0))).tmod 4294967296)).getD 5 0)), .v (.bool (false))])] 4) : Fin cE Tryz.f102 0 res T' n' (bodyK (tnK m) n) (ps4 ++ [.v (it i), .v (iu c), .v (it k)] ++ List.replicate 39 .na) (wT a b o s t false) 4 :=
  seg_at (keep := [2, 3, 4, 5, 6, 7, 8]) (ct := ct) ctOk mixed (by decide) 2000 [.t, .x, .x, .x, .l, .x, .l] (by kernel_rfl) (cj h0 (cj h1 (cj h2 (cj h3 (cj h4 (cj h5 (cj h6 (cj h1 (cj h2 cj0))))))))) hF
theorem tmc_2 (a b o : List Int) (s t : Bool) (c : Int) (i k m n : Nat) (res : SV) (T' : Tab cE) (n' : Nat) (h0 : decide (IntKind.i64.wrap ((i : Int) + (k : Int)) < 6) = false) (hF : Fin cE Tryz.f102 0 res T' n' (inK tmK (m)) [.na, .na, .p 0 0, .p 1 0, .p 2 0, .p 3 0, .v (.int .i64 (IntKind.i64.wrap ((i : Int) + 1))), .v (.int .u64 (c)), .v (.int .i64 ((k : Int))), .na, .na, .na, .na, .na, .na, .na, .na, .na, .na, .na, .na, .na, .na, .na, .na, .na, .na, .na, .na, .na, .na, .na, .na, .na, .na, .na, .na, .na, .na, .na, .na, .na, .na, .na, .na, .na, .na, .na] [(0, .box 142 [.v (.int .u64 (a.getD 0 0)), .v (.int .u64 (a.getD 1 0)), .v (.int .u64 (a.getD 2 0)), .v (.int .u64 (a.getD 3 0)), .v (.int .u64 (a.getD 4 0)), .v (.int .u64 (a.getD 5 0)), .v (.bool (s))]), (1, .box 142 [.v (.int .u64 (b.getD 0 0)), .v (.int .u64 (b.getD 1 0)), .v (.int .u64 (b.getD 2 0)), .v (.int .u64 (b.getD 3 0)), .v (.int .u64 (b.getD 4 0)), .v (.int .u64 (b.getD 5 0)), .v (.bool (t))]), (2, .box 142 [.v (.int .u64 (0)), .v (.int .u64 (0)), .v (.int .u64 (0)), .v (.int .u64 (0)), .v (.int .u64 (0)), .v (.int .u64 (0)), .v (.bool (false))]), (3, .box 142 [.v (.int .u64 (o.getD 0 0)), .v (.int .u64 (o.getD 1 0)), .v (.int .u64 (o.getD 2 0)), .v (.int .u64 (o.getD 3 0)), .v (.int .u64 (o.getD 4 0)), .v (.int .u64 (o.getD 5 0)), .v (.bool (false))])] 4) : Fin cE Tryz.f102 0 res T' n' (bodyK (tnK m) n) (ps4 ++ [.v (it i), .v (iu c), .v (it k)] ++ List.replicate 39 .na) (wT a b o s t false) 4 :=
  seg_at (keep := [2, 3, 4, 5, 6, 7, 8]) (ct := ct) ctOk mixed (by decide) 2000 [.f] (by kernel_rfl) (cj h0 cj0) hF
end Go.Proofs.YtpfignfgfhbblaaGreatDoorC
/- Each path of each function: on which conditions it is taken, what it gives. Printed by a program (wip/tools/sxexp2.lean); Lean checks each. -/
namespace Go.Proofs.YtpfignfgfhbblaaGreatDoorC
open Go.Proofs Go.Proofs.YtpfignfgfhbblaaGreatDoorSx
set_option maxRecDepth 100000
set_option linter.unusedVariables false

theorem rbk0_1 (a : List Int) (s : Bool) (sc : Int) (h0 : (a.getD 2 0 != 0) = true) : Does cE 105 [] 0 [.v (wv a s), .v (it sc)] (.v (.tuple #[(.agg #[(.int .i64 (0)), (.int .i64 (0))]), (.int .i64 (32))])) [] 0 :=
  does_path (ct := ct) ctOk mixed (fn := Tryz.f105) rfl (by kernel_rfl) 2000 ([.n 5] ++ rep 0 [.l, .l, .l, .f] ++ [.l, .l, .l, .t]) (by kernel_rfl) (cj (by decide : (0 : Int) ≤ 2 ∧ (2 : Int) < ((6 : Nat) : Int)) (cj h0 cj0))
theorem rbk1_1 (a : List Int) (s : Bool) (sc : Int) (h0 : (a.getD 2 0 != 0) = false) (h1 : (a.getD 3 0 != 0) = true) : Does cE 105 [] 0 [.v (wv a s), .v (it sc)] (.v (.tuple #[(.agg #[(.int .i64 (0)), (.int .i64 (0))]), (.int .i64 (32))])) [] 0 :=
  does_path (ct := ct) ctOk mixed (fn := Tryz.f105) rfl (by kernel_rfl) 2000 ([.n 5] ++ rep 1 [.l, .l, .l, .f] ++ [.l, .l, .l, .t]) (by kernel_rfl) (cj (by decide : (0 : Int) ≤ 2 ∧ (2 : Int) < ((6 : Nat) : Int)) (cj h0 (cj (by decide : (0 : Int) ≤ IntKind.i64.wrap (2 + 1) ∧ IntKind.i64.wrap (2 + 1) < ((6 : Nat) : Int)) (cj h1 cj0))))
theorem rbk2_1 (a : List Int) (s : Bool) (sc : Int) (h0 : (a.getD 2 0 != 0) = false) (h1 : (a.getD 3 0 != 0) = false) (h2 : (a.getD 4 0 != 0) = true) : Does cE 105 [] 0 [.v (wv a s), .v (it sc)] (.v (.tuple #[(.agg #[(.int .i64 (0)), (.int .i64 (0))]), (.int .i64 (32))])) [] 0 :=
  does_path (ct := ct) ctOk mixed (fn := Tryz.f105) rfl (by kernel_rfl) 2000 ([.n 5] ++ rep 2 [.l, .l, .l, .f] ++ [.l, .l, .l, .t]) (by kernel_rfl) (cj (by decide : (0 : Int) ≤ 2 ∧ (2 : Int) < ((6 : Nat) : Int)) (cj h0 (cj (by decide : (0 : Int) ≤ IntKind.i64.wrap (2 + 1) ∧ IntKind.i64.wrap (2 + 1) < ((6 : Nat) : Int)) (cj h1 (cj (by decide : (0 : Int) ≤ IntKind.i64.wrap (IntKind.i64.wrap (2 + 1) + 1) ∧ IntKind.i64.wrap (IntKind.i64.wrap (2 + 1) + 1) < ((6 : Nat) : Int)) (cj h2 cj0))))))
theorem rbk3_1 (a : List Int) (s : Bool) (sc : Int) (h0 : (a.getD 2 0 != 0) = false) (h1 : (a.getD 3 0 != 0) = false) (h2 : (a.getD 4 0 != 0) = false) (h3 : (a.getD 5 0 != 0) = true) : Does cE 105 [] 0 [.v (wv a s), .v (it sc)] (.v (.tuple #[(.agg #[(.int .i64 (0)), (.int .i64 (0))]), (.int .i64 (32))])) [] 0 :=
  does_path (ct := ct) ctOk mixed (fn := Tryz.f105) rfl (by kernel_rfl) 2000 ([.n 5] ++ rep 3 [.l, .l, .l, .f] ++ [.l, .l, .l, .t]) (by kernel_rfl) (cj (by decide : (0 : Int) ≤ 2 ∧ (2 : Int) < ((6 : Nat) : Int)) (cj h0 (cj (by decide : (0 : Int) ≤ IntKind.i64.wrap (2 + 1) ∧ IntKind.i64.wrap (2 + 1) < ((6 : Nat) : Int)) (cj h1 (cj (by decide : (0 : Int) ≤ IntKind.i64.wrap (IntKind.i64.wrap (2 + 1) + 1) ∧ IntKind.i64.wrap (IntKind.i64.wrap (2 + 1) + 1) < ((6 : Nat) : Int)) (cj h2 (cj (by decide : (0 : Int) ≤ IntKind.i64.wrap (IntKind.i64.wrap (IntKind.i64.wrap (2 + 1) + 1) + 1) ∧ IntKind.i64.wrap (IntKind.i64.wrap (IntKind.i64.wrap (2 + 1) + 1) + 1) < ((6 : Nat) : Int)) (cj h3 cj0))))))))
theorem rbk_1 (a : List Int) (s : Bool) (sc : Int) (h0 : (a.getD 2 0 != 0) = false) (h1 : (a.getD 3 0 != 0) = false) (h2 : (a.getD 4 0 != 0) = false) (h3 : (a.getD 5 0 != 0) = false) (h4 : s = true) (h5 : decide (IntKind.u64.wrap (IntKind.u64.wrap (a.getD 1 0 * 4294967296) + a.getD 0 0) ≤ 9223372036854775808) = true) : Does cE 105 [] 0 [.v (wv a s), .v (it sc)] (.v (.tuple #[(.agg #[(.int .i64 (IntKind.i64.wrap (IntKind.u64.wrap (0 - IntKind.u64.wrap (IntKind.u64.wrap (a.getD 1 0 * 4294967296) + a.getD 0 0))))), (.int .i64 (sc))]), (.int .i64 (0))])) [] 0 :=
  does_path (ct := ct) ctOk mixed (fn := Tryz.f105) rfl (by kernel_rfl) 2000 (([.n 5] ++ rep 4 [.l, .l, .l, .f] ++ [.l, .l]) ++ [.l, .l, .t, .t, .t, .t]) (by kernel_rfl) (cj (by decide : (0 : Int) ≤ 2 ∧ (2 : Int) < ((6 : Nat) : Int)) (cj h0 (cj (by decide : (0 : Int) ≤ IntKind.i64.wrap (2 + 1) ∧ IntKind.i64.wrap (2 + 1) < ((6 : Nat) : Int)) (cj h1 (cj (by decide : (0 : Int) ≤ IntKind.i64.wrap (IntKind.i64.wrap (2 + 1) + 1) ∧ IntKind.i64.wrap (IntKind.i64.wrap (2 + 1) + 1) < ((6 : Nat) : Int)) (cj h2 (cj (by decide : (0 : Int) ≤ IntKind.i64.wrap (IntKind.i64.wrap (IntKind.i64.wrap (2 + 1) + 1) + 1) ∧ IntKind.i64.wrap (IntKind.i64.wrap (IntKind.i64.wrap (2 + 1) + 1) + 1) < ((6 : Nat) : Int)) (cj h3 (cj (by decide : (0 : Int) ≤ 1 ∧ (1 : Int) < ((6 : Nat) : Int)) (cj (by decide : (0 : Int) ≤ 0 ∧ (0 : Int) < ((6 : Nat) : Int)) (cj h4 (cj h4 (cj h4 (cj h5 cj0))))))))))))))
theorem rbk_2 (a : List Int) (s : Bool) (sc : Int) (h0 : (a.getD 2 0 != 0) = false) (h1 : (a.getD 3 0 != 0) = false) (h2 : (a.getD 4 0 != 0) = false) (h3 : (a.getD 5 0 != 0) = false) (h4 : s = true) (h5 : decide (IntKind.u64.wrap (IntKind.u64.wrap (a.getD 1 0 * 4294967296) + a.getD 0 0) ≤ 9223372036854775808) = false) (h6 : decide (IntKind.u64.wrap (IntKind.u64.wrap (a.getD 1 0 * 4294967296) + a.getD 0 0) ≥ 9223372036854775808) = true) : Does cE 105 [] 0 [.v (wv a s), .v (it sc)] (.v (.tuple #[(.agg #[(.int .i64 (0)), (.int .i64 (0))]), (.int .i64 (32))])) [] 0 :=
  does_path (ct := ct) ctOk mixed (fn := Tryz.f105) rfl (by kernel_rfl) 2000 (([.n 5] ++ rep 4 [.l, .l, .l, .f] ++ [.l, .l]) ++ [.l, .l, .t, .t, .t, .f, .t]) (by kernel_rfl) (cj (by decide : (0 : Int) ≤ 2 ∧ (2 : Int) < ((6 : Nat) : Int)) (cj h0 (cj (by decide : (0 : Int) ≤ IntKind.i64.wrap (2 + 1) ∧ IntKind.i64.wrap (2 + 1) < ((6 : Nat) : Int)) (cj h1 (cj (by decide : (0 : Int) ≤ IntKind.i64.wrap (IntKind.i64.wrap (2 + 1) + 1) ∧ IntKind.i64.wrap (IntKind.i64.wrap (2 + 1) + 1) < ((6 : Nat) : Int)) (cj h2 (cj (by decide : (0 : Int) ≤ IntKind.i64.wrap (IntKind.i64.wrap (IntKind.i64.wrap (2 + 1) + 1) + 1) ∧ IntKind.i64.wrap (IntKind.i64.wrap (IntKind.i64.wrap (2 + 1) + 1) + 1) < ((6 : Nat) : Int)) (cj h3 (cj (by decide : (0 : Int) ≤ 1 ∧ (1 : Int) < ((6 : Nat) : Int)) (cj (by decide : (0 : Int) ≤ 0 ∧ (0 : Int) < ((6 : Nat) : Int)) (cj h4 (cj h4 (cj h4 (cj h5 (cj h6 cj0)))))))))))))))
theorem rbk_4 (a : List Int) (s : Bool) (sc : Int) (h0 : (a.getD 2 0 != 0) = false) (h1 : (a.getD 3 0 != 0) = false) (h2 : (a.getD 4 0 != 0) = false) (h3 : (a.getD 5 0 != 0) = false) (h4 : s = false) (h5 : decide (IntKind.u64.wrap (IntKind.u64.wrap (a.getD 1 0 * 4294967296) + a.getD 0 0) ≥ 9223372036854775808) = true) : Does cE 105 [] 0 [.v (wv a s), .v (it sc)] (.v (.tuple #[(.agg #[(.int .i64 (0)), (.int .i64 (0))]), (.int .i64 (32))])) [] 0 :=
  does_path (ct := ct) ctOk mixed (fn := Tryz.f105) rfl (by kernel_rfl) 2000 (([.n 5] ++ rep 4 [.l, .l, .l, .f] ++ [.l, .l]) ++ [.l, .l, .f, .f, .f, .l, .t]) (by kernel_rfl) (cj (by decide : (0 : Int) ≤ 2 ∧ (2 : Int) < ((6 : Nat) : Int)) (cj h0 (cj (by decide : (0 : Int) ≤ IntKind.i64.wrap (2 + 1) ∧ IntKind.i64.wrap (2 + 1) < ((6 : Nat) : Int)) (cj h1 (cj (by decide : (0 : Int) ≤ IntKind.i64.wrap (IntKind.i64.wrap (2 + 1) + 1) ∧ IntKind.i64.wrap (IntKind.i64.wrap (2 + 1) + 1) < ((6 : Nat) : Int)) (cj h2 (cj (by decide : (0 : Int) ≤ IntKind.i64.wrap (IntKind.i64.wrap (IntKind.i64.wrap (2 + 1) + 1) + 1) ∧ IntKind.i64.wrap (IntKind.i64.wrap (IntKind.i64.wrap (2 + 1) + 1) + 1) < ((6 : Nat) : Int)) (cj h3 (cj (by decide : (0 : Int) ≤ 1 ∧ (1 : Int) < ((6 : Nat) : Int)) (cj (by decide : (0 : Int) ≤ 0 ∧ (0 : Int) < ((6 : Nat) : Int)) (cj h4 (cj h4 (cj h4 (cj h5 cj0))))))))))))))
theorem rbk_5 (a : List Int) (s : Bool) (sc : Int) (h0 : (a.getD 2 0 != 0) = false) (h1 : (a.getD 3 0 != 0) = false) (h2 : (a.getD 4 0 != 0) = false) (h3 : (a.getD 5 0 != 0) = false) (h4 : s = false) (h5 : decide (IntKind.u64.wrap (IntKind.u64.wrap (a.getD 1 0 * 4294967296) + a.getD 0 0) ≥ 9223372036854775808) = false) : Does cE 105 [] 0 [.v (wv a s), .v (it sc)] (.v (.tuple #[(.agg #[(.int .i64 (IntKind.i64.wrap (IntKind.u64.wrap (IntKind.u64.wrap (a.getD 1 0 * 4294967296) + a.getD 0 0)))), (.int .i64 (sc))]), (.int .i64 (0))])) [] 0 :=
  does_path (ct := ct) ctOk mixed (fn := Tryz.f105) rfl (by kernel_rfl) 2000 (([.n 5] ++ rep 4 [.l, .l, .l, .f] ++ [.l, .l]) ++ [.l, .l, .f, .f, .f, .l, .f]) (by kernel_rfl) (cj (by decide : (0 : Int) ≤ 2 ∧ (2 : Int) < ((6 : Nat) : Int)) (cj h0 (cj (by decide : (0 : Int) ≤ IntKind.i64.wrap (2 + 1) ∧ IntKind.i64.wrap (2 + 1) < ((6 : Nat) : Int)) (cj h1 (cj (by decide : (0 : Int) ≤ IntKind.i64.wrap (IntKind.i64.wrap (2 + 1) + 1) ∧ IntKind.i64.wrap (IntKind.i64.wrap (2 + 1) + 1) < ((6 : Nat) : Int)) (cj h2 (cj (by decide : (0 : Int) ≤ IntKind.i64.wrap (IntKind.i64.wrap (IntKind.i64.wrap (2 + 1) + 1) + 1) ∧ IntKind.i64.wrap (IntKind.i64.wrap (IntKind.i64.wrap (2 + 1) + 1) + 1) < ((6 : Nat) : Int)) (cj h3 (cj (by decide : (0 : Int) ≤ 1 ∧ (1 : Int) < ((6 : Nat) : Int)) (cj (by decide : (0 : Int) ≤ 0 ∧ (0 : Int) < ((6 : Nat) : Int)) (cj h4 (cj h4 (cj h4 (cj h5 cj0))))))))))))))
theorem zer0_1 (a : List Int) (s : Bool) (h0 : (a.getD 0 0 != 0) = true) : Does cE 104 [] 0 [.v (wv a s)] (.v (.bool (false))) [] 0 :=
  does_path (ct := ct) ctOk mixed (fn := Tryz.f104) rfl (by kernel_rfl) 2000 ([.n 7] ++ rep 0 [.l, .l, .l, .f] ++ [.l, .l, .l, .t]) (by kernel_rfl) (cj (by decide : (0 : Int) ≤ 0 ∧ (0 : Int) < ((6 : Nat) : Int)) (cj h0 cj0))
theorem zer1_1 (a : List Int) (s : Bool) (h0 : (a.getD 0 0 != 0) = false) (h1 : (a.getD 1 0 != 0) = true) : Does cE 104 [] 0 [.v (wv a s)] (.v (.bool (false))) [] 0 :=
  does_path (ct := ct) ctOk mixed (fn := Tryz.f104) rfl (by kernel_rfl) 2000 ([.n 7] ++ rep 1 [.l, .l, .l, .f] ++ [.l, .l, .l, .t]) (by kernel_rfl) (cj (by decide : (0 : Int) ≤ 0 ∧ (0 : Int) < ((6 : Nat) : Int)) (cj h0 (cj (by decide : (0 : Int) ≤ IntKind.i64.wrap (0 + 1) ∧ IntKind.i64.wrap (0 + 1) < ((6 : Nat) : Int)) (cj h1 cj0))))
theorem zer2_1 (a : List Int) (s : Bool) (h0 : (a.getD 0 0 != 0) = false) (h1 : (a.getD 1 0 != 0) = false) (h2 : (a.getD 2 0 != 0) = true) : Does cE 104 [] 0 [.v (wv a s)] (.v (.bool (false))) [] 0 :=
  does_path (ct := ct) ctOk mixed (fn := Tryz.f104) rfl (by kernel_rfl) 2000 ([.n 7] ++ rep 2 [.l, .l, .l, .f] ++ [.l, .l, .l, .t]) (by kernel_rfl) (cj (by decide : (0 : Int) ≤ 0 ∧ (0 : Int) < ((6 : Nat) : Int)) (cj h0 (cj (by decide : (0 : Int) ≤ IntKind.i64.wrap (0 + 1) ∧ IntKind.i64.wrap (0 + 1) < ((6 : Nat) : Int)) (cj h1 (cj (by decide : (0 : Int) ≤ IntKind.i64.wrap (IntKind.i64.wrap (0 + 1) + 1) ∧ IntKind.i64.wrap (IntKind.i64.wrap (0 + 1) + 1) < ((6 : Nat) : Int)) (cj h2 cj0))))))
theorem zer3_1 (a : List Int) (s : Bool) (h0 : (a.getD 0 0 != 0) = false) (h1 : (a.getD 1 0 != 0) = false) (h2 : (a.getD 2 0 != 0) = false) (h3 : (a.getD 3 0 != 0) = true) : Does cE 104 [] 0 [.v (wv a s)] (.v (.bool (false))) [] 0 :=
  does_path (ct := ct) ctOk mixed (fn := Tryz.f104) rfl (by kernel_rfl) 2000 ([.n 7] ++ rep 3 [.l, .l, .l, .f] ++ [.l, .l, .l, .t]) (by kernel_rfl) (cj (by decide : (0 : Int) ≤ 0 ∧ (0 : Int) < ((6 : Nat) : Int)) (cj h0 (cj (by decide : (0 : Int) ≤ IntKind.i64.wrap (0 + 1) ∧ IntKind.i64.wrap (0 + 1) < ((6 : Nat) : Int)) (cj h1 (cj (by decide : (0 : Int) ≤ IntKind.i64.wrap (IntKind.i64.wrap (0 + 1) + 1) ∧ IntKind.i64.wrap (IntKind.i64.wrap (0 + 1) + 1) < ((6 : Nat) : Int)) (cj h2 (cj (by decide : (0 : Int) ≤ IntKind.i64.wrap (IntKind.i64.wrap (IntKind.i64.wrap (0 + 1) + 1) + 1) ∧ IntKind.i64.wrap (IntKind.i64.wrap (IntKind.i64.wrap (0 + 1) + 1) + 1) < ((6 : Nat) : Int)) (cj h3 cj0))))))))
theorem zer4_1 (a : List Int) (s : Bool) (h0 : (a.getD 0 0 != 0) = false) (h1 : (a.getD 1 0 != 0) = false) (h2 : (a.getD 2 0 != 0) = false) (h3 : (a.getD 3 0 != 0) = false) (h4 : (a.getD 4 0 != 0) = true) : Does cE 104 [] 0 [.v (wv a s)] (.v (.bool (false))) [] 0 :=
  does_path (ct := ct) ctOk mixed (fn := Tryz.f104) rfl (by kernel_rfl) 2000 ([.n 7] ++ rep 4 [.l, .l, .l, .f] ++ [.l, .l, .l, .t]) (by kernel_rfl) (cj (by decide : (0 : Int) ≤ 0 ∧ (0 : Int) < ((6 : Nat) : Int)) (cj h0 (cj (by decide : (0 : Int) ≤ IntKind.i64.wrap (0 + 1) ∧ IntKind.i64.wrap (0 + 1) < ((6 : Nat) : Int)) (cj h1 (cj (by decide : (0 : Int) ≤ IntKind.i64.wrap (IntKind.i64.wrap (0 + 1) + 1) ∧ IntKind.i64.wrap (IntKind.i64.wrap (0 + 1) + 1) < ((6 : Nat) : Int)) (cj h2 (cj (by decide : (0 : Int) ≤ IntKind.i64.wrap (IntKind.i64.wrap (IntKind.i64.wrap (0 + 1) + 1) + 1) ∧ IntKind.i64.wrap (IntKind.i64.wrap (IntKind.i64.wrap (0 + 1) + 1) + 1) < ((6 : Nat) : Int)) (cj h3 (cj (by decide : (0 : Int) ≤ IntKind.i64.wrap (IntKind.i64.wrap (IntKind.i64.wrap (IntKind.i64.wrap (0 + 1) + 1) + 1) + 1) ∧ IntKind.i64.wrap (IntKind.i64.wrap (IntKind.i64.wrap (IntKind.i64.wrap (0 + 1) + 1) + 1) + 1) < ((6 : Nat) : Int)) (cj h4 cj0))))))))))
theorem zer5_1 (a : List Int) (s : Bool) (h0 : (a.getD 0 0 != 0) = false) (h1 : (a.getD 1 0 != 0) = false) (h2 : (a.getD 2 0 != 0) = false) (h3 : (a.getD 3 0 != 0) = false) (h4 : (a.getD 4 0 != 0) = false) (h5 : (a.getD 5 0 != 0) = true) : Does cE 104 [] 0 [.v (wv a s)] (.v (.bool (false))) [] 0 :=
  does_path (ct := ct) ctOk mixed (fn := Tryz.f104) rfl (by kernel_rfl) 2000 ([.n 7] ++ rep 5 [.l, .l, .l, .f] ++ [.l, .l, .l, .t]) (by kernel_rfl) (cj (by decide : (0 : Int) ≤ 0 ∧ (0 : Int) < ((6 : Nat) : Int)) (cj h0 (cj (by decide : (0 : Int) ≤ IntKind.i64.wrap (0 + 1) ∧ IntKind.i64.wrap (0 + 1) < ((6 : Nat) : Int)) (cj h1 (cj (by decide : (0 : Int) ≤ IntKind.i64.wrap (IntKind.i64.wrap (0 + 1) + 1) ∧ IntKind.i64.wrap (IntKind.i64.wrap (0 + 1) + 1) < ((6 : Nat) : Int)) (cj h2 (cj (by decide : (0 : Int) ≤ IntKind.i64.wrap (IntKind.i64.wrap (IntKind.i64.wrap (0 + 1) + 1) + 1) ∧ IntKind.i64.wrap (IntKind.i64.wrap (IntKind.i64.wrap (0 + 1) + 1) + 1) < ((6 : Nat) : Int)) (cj h3 (cj (by decide : (0 : Int) ≤ IntKind.i64.wrap (IntKind.i64.wrap (IntKind.i64.wrap (IntKind.i64.wrap (0 + 1) + 1) + 1) + 1) ∧ IntKind.i64.wrap (IntKind.i64.wrap (IntKind.i64.wrap (IntKind.i64.wrap (0 + 1) + 1) + 1) + 1) < ((6 : Nat) : Int)) (cj h4 (cj (by decide : (0 : Int) ≤ IntKind.i64.wrap (IntKind.i64.wrap (IntKind.i64.wrap (IntKind.i64.wrap (IntKind.i64.wrap (0 + 1) + 1) + 1) + 1) + 1) ∧ IntKind.i64.wrap (IntKind.i64.wrap (IntKind.i64.wrap (IntKind.i64.wrap (IntKind.i64.wrap (0 + 1) + 1) + 1) + 1) + 1) < ((6 : Nat) : Int)) (cj h5 cj0))))))))))))
theorem zer_1 (a : List Int) (s : Bool) (h0 : (a.getD 0 0 != 0) = false) (h1 : (a.getD 1 0 != 0) = false) (h2 : (a.getD 2 0 != 0) = false) (h3 : (a.getD 3 0 != 0) = false) (h4 : (a.getD 4 0 != 0) = false) (h5 : (a.getD 5 0 != 0) = false) : Does cE 104 [] 0 [.v (wv a s)] (.v (.bool (true))) [] 0 :=
  does_path (ct := ct) ctOk mixed (fn := Tryz.f104) rfl (by kernel_rfl) 2000 ([.n 7] ++ rep 6 [.l, .l, .l, .f] ++ [.l, .l]) (by kernel_rfl) (cj (by decide : (0 : Int) ≤ 0 ∧ (0 : Int) < ((6 : Nat) : Int)) (cj h0 (cj (by decide : (0 : Int) ≤ IntKind.i64.wrap (0 + 1) ∧ IntKind.i64.wrap (0 + 1) < ((6 : Nat) : Int)) (cj h1 (cj (by decide : (0 : Int) ≤ IntKind.i64.wrap (IntKind.i64.wrap (0 + 1) + 1) ∧ IntKind.i64.wrap (IntKind.i64.wrap (0 + 1) + 1) < ((6 : Nat) : Int)) (cj h2 (cj (by decide : (0 : Int) ≤ IntKind.i64.wrap (IntKind.i64.wrap (IntKind.i64.wrap (0 + 1) + 1) + 1) ∧ IntKind.i64.wrap (IntKind.i64.wrap (IntKind.i64.wrap (0 + 1) + 1) + 1) < ((6 : Nat) : Int)) (cj h3 (cj (by decide : (0 : Int) ≤ IntKind.i64.wrap (IntKind.i64.wrap (IntKind.i64.wrap (IntKind.i64.wrap (0 + 1) + 1) + 1) + 1) ∧ IntKind.i64.wrap (IntKind.i64.wrap (IntKind.i64.wrap (IntKind.i64.wrap (0 + 1) + 1) + 1) + 1) < ((6 : Nat) : Int)) (cj h4 (cj (by decide : (0 : Int) ≤ IntKind.i64.wrap (IntKind.i64.wrap (IntKind.i64.wrap (IntKind.i64.wrap (IntKind.i64.wrap (0 + 1) + 1) + 1) + 1) + 1) ∧ IntKind.i64.wrap (IntKind.i64.wrap (IntKind.i64.wrap (IntKind.i64.wrap (IntKind.i64.wrap (0 + 1) + 1) + 1) + 1) + 1) < ((6 : Nat) : Int)) (cj h5 cj0))))))))))))
theorem or2a_1 (x y : Int) (h0 : (0 : Int) ≤ 0 ∧ (0 : Int) < ↑[x, y].length) (h1 : (Int.toNat 0).succ.le [x, y].length) (h2 : ([x, y].getD (Int.toNat 0) 0 != 0) = true) : Does cE 138 [(0, .ro 3 [x, y] false)] 1 [.o 0] (.v (.int .i64 ([x, y].getD (Int.toNat 0) 0))) [(0, .ro 3 ([x, y]) false)] 1 :=
  does_path (ct := ct) ctOk mixed (fn := Tryz.f138) rfl (by kernel_rfl) 2000 [.n 3, .l, .l, .t] (by kernel_rfl) (cj h0 (cj h1 (cj h2 cj0)))
theorem or2b_1 (x y : Int) (h0 : (0 : Int) ≤ 0 ∧ (0 : Int) < ↑[x, y].length) (h1 : (Int.toNat 0).succ.le [x, y].length) (h2 : ([x, y].getD (Int.toNat 0) 0 != 0) = false) (h3 : (0 : Int) ≤ IntKind.i64.wrap (0 + 1) ∧ IntKind.i64.wrap (0 + 1) < ↑[x, y].length) (h4 : (IntKind.i64.wrap (0 + 1)).toNat.succ.le [x, y].length) (h5 : ([x, y].getD (IntKind.i64.wrap (0 + 1)).toNat 0 != 0) = true) : Does cE 138 [(0, .ro 3 [x, y] false)] 1 [.o 0] (.v (.int .i64 ([x, y].getD (IntKind.i64.wrap (0 + 1)).toNat (0 : Int)))) [(0, .ro 3 ([x, y]) false)] 1 :=
  does_path (ct := ct) ctOk mixed (fn := Tryz.f138) rfl (by kernel_rfl) 2000 [.n 3, .l, .l, .f, .l, .l, .t] (by kernel_rfl) (cj h0 (cj h1 (cj h2 (cj h3 (cj h4 (cj h5 cj0))))))
theorem or2c_1 (x y : Int) (h0 : (0 : Int) ≤ 0 ∧ (0 : Int) < ↑[x, y].length) (h1 : (Int.toNat 0).succ.le [x, y].length) (h2 : ([x, y].getD (Int.toNat 0) 0 != 0) = false) (h3 : (0 : Int) ≤ IntKind.i64.wrap (0 + 1) ∧ IntKind.i64.wrap (0 + 1) < ↑[x, y].length) (h4 : (IntKind.i64.wrap (0 + 1)).toNat.succ.le [x, y].length) (h5 : ([x, y].getD (IntKind.i64.wrap (0 + 1)).toNat 0 != 0) = false) : Does cE 138 [(0, .ro 3 [x, y] false)] 1 [.o 0] (.v (.int .i64 (0))) [(0, .ro 3 ([x, y]) false)] 1 :=
  does_path (ct := ct) ctOk mixed (fn := Tryz.f138) rfl (by kernel_rfl) 2000 [.n 3, .l, .l, .f, .l, .l, .f, .l, .l] (by kernel_rfl) (cj h0 (cj h1 (cj h2 (cj h3 (cj h4 (cj h5 cj0))))))
end Go.Proofs.YtpfignfgfhbblaaGreatDoorC
/- Numbers in six parts of 32 bits: what the reference's product, order, and test for zero come to. -/
namespace Go.Proofs.YtpfignfgfhbblaaGreatDoorC
open Go.Proofs Go.Proofs.YtpfignfgfhbblaaGreatDoorSx
set_option maxRecDepth 100000
set_option linter.unusedVariables false
theorem val_set : ∀ {l : List Int} {i : Nat} {v : Int}, i < l.length → val (l.set i v) = val l + 4294967296 ^ i * (v - l.getD i 0)
  | [], i, v, h => by simp at h
  | x :: l, 0, v, h => by
    simp [val]
    omega
  | x :: l, i + 1, v, h => by
    have ih := val_set (l := l) (i := i) (v := v) (by simpa using h)
    simp only [List.set_cons_succ, val, List.getD_cons_succ]
    rw [ih, Int.pow_succ]
    grind
theorem V_split (l : List Int) (k : Nat) (h : k ≤ l.length) : ∃ r, val l = V l k + 4294967296 ^ k * r := by
  refine ⟨val (l.drop k), ?_⟩
  have := val_app (l.take k) (l.drop k)
  rw [List.take_append_drop, List.length_take, Nat.min_eq_left h] at this
  exact this
theorem prod_bound {x y : Int} (hx : 0 ≤ x ∧ x < 4294967296) (hy : 0 ≤ y ∧ y < 4294967296) : 0 ≤ x * y ∧ x * y ≤ 18446744065119617025 := by
  refine ⟨Int.mul_nonneg hx.1 hy.1, ?_⟩
  have h1 : x * y ≤ 4294967295 * y := Int.mul_le_mul_of_nonneg_right (by omega) hy.1
  omega
abbrev tmS (i : Int) : List SV := ps4 ++ [.v (it i)] ++ List.replicate 41 .na
abbrev tnS (i c k : Int) : List SV := ps4 ++ [.v (it i), .v (iu c), .v (it k)] ++ List.replicate 39 .na
theorem tm_in {a b : List Int} (ha : Dig a) (hb : Dig b) (s t : Bool) {res : SV} {T' : Tab cE} {n' : Nat} (m i : Nat) (hi : i < 6) (o0 : List Int)
    (hend : ∀ o c, Dig o → val o + 4294967296 ^ 6 * c = val o0 + 4294967296 ^ i * (a.getD i 0 * V b (6 - i)) → Fin cE Tryz.f102 0 res T' n' (inK tmK m) (tmS (i + 1 : Nat)) (wT a b o s t false) 4) :
    ∀ (r k : Nat) (o : List Int) (c : Int), i + k + r = 6 → Dig o → 0 ≤ c ∧ c < 4294967296 → val o + 4294967296 ^ (i + k) * c = val o0 + 4294967296 ^ i * (a.getD i 0 * V b k) → ∀ n,
      Fin cE Tryz.f102 0 res T' n' (inK (tnK m) (n + r + 1)) (tnS i c k) (wT a b o s t false) 4
  | 0, k, o, c, hr, ho, hc, hv, n => by
    refine fin_round ?_
    have w1 : IntKind.i64.wrap ((i : Int) + (k : Int)) = ((i + k : Nat) : Int) := by rw [wrap64 (by omega) (by omega)]; rfl
    have h := tmc_2 a b o s t c i k m n res T' n' (by rw [w1]; simp; omega)
    rw [step64 (by omega)] at h
    have e6 : i + k = 6 := by omega
    rw [e6, show k = 6 - i by omega] at hv
    exact h (fin_weak (hend o c ho hv) (by repeat (first | exact trivial | refine ⟨.inr rfl, ?_⟩ | refine ⟨.inl rfl, ?_⟩)))
  | r + 1, k, o, c, hr, ho, hc, hv, n => by
    refine fin_round ?_
    have w1 : IntKind.i64.wrap ((i : Int) + (k : Int)) = ((i + k : Nat) : Int) := by rw [wrap64 (by omega) (by omega)]; rfl
    have h := tmc_1 a b o s t c i k m (n + (r + 1)) res T' n'
    rw [w1, pre_wc ha.len, pre_wc hb.len, pre_wc ho.len, step64 (by omega), Int.toNat_natCast] at h
    have ra := rng_get ha.rng i
    have rb := rng_get hb.rng k
    have ro := rng_get ho.rng (i + k)
    have vb := V_succ (l := b) (i := k) (by rw [hb.len]; omega)
    have hvs := fun v => val_set (l := o) (i := i + k) (v := v) (by rw [ho.len]; omega)
    generalize hx : a.getD i 0 = x at h ra hend hv
    generalize b.getD k 0 = y at h rb vb
    generalize o.getD (i + k) 0 = z at h ro hvs
    have hp := prod_bound ra rb
    have vb' : V b (k + 1) = V b k + 4294967296 ^ k * y := vb
    rw [wrU (x := x * y) (by omega) (by omega), wrU (x := c + z) (by omega) (by omega), wrU (x := c + z + x * y) (by omega) (by omega), Int.tdiv_eq_ediv_of_nonneg (a := c + z + x * y) (by omega), Int.tmod_eq_emod_of_nonneg (a := c + z + x * y) (by omega), wrU (x := (c + z + x * y) / 4294967296) (by omega) (by omega)] at h
    refine h (by simp; omega) ⟨by omega, by omega⟩ (lt6 ho (by omega)) ⟨by omega, by omega⟩ (lt6 ha hi) ⟨by omega, by omega⟩ (lt6 hb (by omega)) ?_
    refine tm_in ha hb s t m i hi o0 (by rw [hx]; exact hend) r (k + 1) _ _ (by omega) ⟨by simp [ho.len], rng_set ho.rng (by omega)⟩ (by omega) ?_ n
    rw [hvs, hx, vb', show i + (k + 1) = i + k + 1 by omega, Int.pow_succ]
    have hdm := Int.emod_add_mul_ediv (c + z + x * y) 4294967296
    generalize (c + z + x * y) % 4294967296 = u at hdm
    generalize (c + z + x * y) / 4294967296 = v at hdm
    rw [Int.pow_add] at hv ⊢
    generalize (4294967296 : Int) ^ i = P at hv ⊢
    generalize (4294967296 : Int) ^ k = Q at hv ⊢
    grind
theorem tm_loop {a b : List Int} (ha : Dig a) (hb : Dig b) (s t : Bool) : ∀ (r i : Nat) (o : List Int) (q : Int), i + r = 6 → Dig o → val o + 4294967296 ^ 6 * q = V a i * val b → val a * val b < big192 → ∀ m,
    Fin cE Tryz.f102 0 (.v (W (val a * val b) false)) [] 0 (inK tmK (m + r + 1)) (tmS i) (wT a b o s t false) 4
  | 0, i, o, q, hi, ho, hv, hlt, m => by
    refine fin_round ?_
    have h6 : i = 6 := by omega
    subst h6
    have h := tmb_2 a b o s t 6 m (by decide)
    rw [ha.V6] at hv
    have hr := val_rng ho.rng
    rw [ho.len, big_pow] at hr
    rw [big_pow] at hv
    have hpos : 0 ≤ val a * val b := Int.mul_nonneg (val_rng ha.rng).1 (val_rng hb.rng).1
    generalize val a * val b = p at hv hlt hpos
    have e : p = val o := by unfold big192 at *; omega
    rw [e, W, ← ho.eq]
    exact h
  | r + 1, i, o, q, hi, ho, hv, hlt, m => by
    refine fin_round ?_
    have hi6 : i < 6 := by omega
    refine tmb_1 a b o s t i (m + (r + 1)) _ _ _ (by simp; omega) ?_
    refine fin_loop (0 + (6 - i) + 1) ?_
    refine tm_in ha hb s t (m + (r + 1)) i hi6 o (fun o' c ho' hv' => ?_) (6 - i) 0 o 0 (by omega) ho (by omega) (by simp [V, val]) 0
    obtain ⟨rest, hrest⟩ := V_split b (6 - i) (by rw [hb.len]; omega)
    have va := V_succ (l := a) (i := i) (by rw [ha.len]; omega)
    refine tm_loop ha hb s t r (i + 1) o' (q + c + a.getD i 0 * rest) (by omega) ho' ?_ hlt m
    rw [va]
    have hpp : (4294967296 : Int) ^ 6 = 4294967296 ^ i * 4294967296 ^ (6 - i) := by rw [← Int.pow_add]; congr 1; omega
    rw [hpp] at hv hv' ⊢
    generalize (4294967296 : Int) ^ i = P at hv hv' hrest ⊢
    generalize (4294967296 : Int) ^ (6 - i) = Q at hv hv' hrest ⊢
    generalize a.getD i 0 = x at hv' ⊢
    generalize V b (6 - i) = vb at hv' hrest
    generalize V a i = va at hv
    generalize val b = B at hv hrest
    grind
theorem times_does {a b : List Int} (ha : Dig a) (hb : Dig b) (s t : Bool) (h : val a * val b < big192) : Does cE 102 [] 0 [.v (wv a s), .v (wv b t)] (.v (W (val a * val b) false)) [] 0 := by
  refine does_of_fin (fn := Tryz.f102) (c := bd Tryz.f102) rfl (by kernel_rfl) rfl ?_
  refine tma_1 a b s t _ _ _ ?_
  refine fin_loop (0 + 6 + 1) ?_
  exact tm_loop ha hb s t 6 0 [0, 0, 0, 0, 0, 0] 0 (by omega) dig0 (by simp [V, val]) h 0
/-! ### Order -/
theorem val6 {a : List Int} (h : Dig a) : val a = a.getD 0 0 + 4294967296 * (a.getD 1 0 + 4294967296 * (a.getD 2 0 + 4294967296 * (a.getD 3 0 + 4294967296 * (a.getD 4 0 + 4294967296 * a.getD 5 0)))) := by
  match a, h with
  | [x0, x1, x2, x3, x4, x5], _ => simp [val]
theorem zero_does {a : List Int} (ha : Dig a) (s : Bool) : Does cE 104 [] 0 [.v (wv a s)] (.v (.bool (decide (val a = 0)))) [] 0 := by
  have va := val6 ha
  have a0 := rng_get ha.rng 0
  have a1 := rng_get ha.rng 1
  have a2 := rng_get ha.rng 2
  have a3 := rng_get ha.rng 3
  have a4 := rng_get ha.rng 4
  have a5 := rng_get ha.rng 5
  by_cases h : val a = 0
  · have e : decide (val a = 0) = true := by simpa using h
    rw [e]
    exact zer_1 a s (bne_eq_false_iff_eq.2 (by omega)) (bne_eq_false_iff_eq.2 (by omega)) (bne_eq_false_iff_eq.2 (by omega)) (bne_eq_false_iff_eq.2 (by omega)) (bne_eq_false_iff_eq.2 (by omega)) (bne_eq_false_iff_eq.2 (by omega))
  · have e : decide (val a = 0) = false := by simpa using h
    rw [e]
    by_cases h0 : a.getD 0 0 = 0
    · by_cases h1 : a.getD 1 0 = 0
      · by_cases h2 : a.getD 2 0 = 0
        · by_cases h3 : a.getD 3 0 = 0
          · by_cases h4 : a.getD 4 0 = 0
            · exact zer5_1 a s (bne_eq_false_iff_eq.2 h0) (bne_eq_false_iff_eq.2 h1) (bne_eq_false_iff_eq.2 h2) (bne_eq_false_iff_eq.2 h3) (bne_eq_false_iff_eq.2 h4) (bne_iff_ne.2 (by omega))
            · exact zer4_1 a s (bne_eq_false_iff_eq.2 h0) (bne_eq_false_iff_eq.2 h1) (bne_eq_false_iff_eq.2 h2) (bne_eq_false_iff_eq.2 h3) (bne_iff_ne.2 h4)
          · exact zer3_1 a s (bne_eq_false_iff_eq.2 h0) (bne_eq_false_iff_eq.2 h1) (bne_eq_false_iff_eq.2 h2) (bne_iff_ne.2 h3)
        · exact zer2_1 a s (bne_eq_false_iff_eq.2 h0) (bne_eq_false_iff_eq.2 h1) (bne_iff_ne.2 h2)
      · exact zer1_1 a s (bne_eq_false_iff_eq.2 h0) (bne_iff_ne.2 h1)
    · exact zer0_1 a s (bne_iff_ne.2 h0)
end Go.Proofs.YtpfignfgfhbblaaGreatDoorC
/- Each path of each function: on which conditions it is taken, what it gives. Printed by a program (wip/tools/sxexp2.lean); Lean checks each. -/
namespace Go.Proofs.YtpfignfgfhbblaaGreatDoorC
open Go.Proofs Go.Proofs.YtpfignfgfhbblaaGreatDoorSx
set_option maxRecDepth 100000
set_option linter.unusedVariables false

theorem sca_1 (l : List Int) (res : SV) (T' : Tab cE) (n' : Nat) (hF : Fin cE Tryz.f155 1 res T' n' scK1 [.na, .na, .na, .na, .na, .o 0, .v (.int .i64 ((l.length : Int))), .v (.int .i64 (0)), .na, .na, .na, .na, .na, .na, .na, .na, .na, .na] [(0, .ro 3 (l) false)] 1) : Fin cE Tryz.f155 1 res T' n' [.code (bd Tryz.f155)] (argsS [.o 0] Tryz.f155.ntmps) [(0, .ro 3 l false)] 1 :=
  seg_at (keep := [5, 6, 7]) (ct := ct) ctOk mixed (by decide) 2000 [] (by kernel_rfl) cj0 hF
theorem scb_1 (l : List Int) (i m : Nat) (h0 : decide ((i : Int) < (l.length : Int)) = true) (h1 : (0 : Int) ≤ (i : Int) ∧ (i : Int) < (l.length : Int)) (h2 : i < l.length) (h3 : decide (l.getD i 0 < 0) = true) : Fin cE Tryz.f155 1 (.v (.bool (false))) [(0, .ro 3 (l) false)] 1 (bodyK scK1 m) ([.na, .na, .na, .na, .na, .o 0, .v (it l.length), .v (it i)] ++ List.replicate 10 .na) [(0, .ro 3 l false)] 1 :=
  seg_fin (keep := [5, 6, 7]) (ct := ct) ctOk mixed (by decide) 2000 [.t, .t, .t, .t, .l] (by kernel_rfl) (cj h0 (cj h1 (cj h2 (cj h3 (cj h3 (cj h3 cj0))))))
theorem scb_2 (l : List Int) (i m : Nat) (h0 : decide ((i : Int) < (l.length : Int)) = true) (h1 : (0 : Int) ≤ (i : Int) ∧ (i : Int) < (l.length : Int)) (h2 : i < l.length) (h3 : decide (l.getD i 0 < 0) = false) (h4 : decide (l.getD i 0 > 6) = true) : Fin cE Tryz.f155 1 (.v (.bool (false))) [(0, .ro 3 (l) false)] 1 (bodyK scK1 m) ([.na, .na, .na, .na, .na, .o 0, .v (it l.length), .v (it i)] ++ List.replicate 10 .na) [(0, .ro 3 l false)] 1 :=
  seg_fin (keep := [5, 6, 7]) (ct := ct) ctOk mixed (by decide) 2000 [.t, .f, .f, .f, .t] (by kernel_rfl) (cj h0 (cj h1 (cj h2 (cj h3 (cj h3 (cj h3 (cj h4 cj0)))))))
theorem scb_3 (l : List Int) (i m : Nat) (res : SV) (T' : Tab cE) (n' : Nat) (h0 : decide ((i : Int) < (l.length : Int)) = true) (h1 : (0 : Int) ≤ (i : Int) ∧ (i : Int) < (l.length : Int)) (h2 : i < l.length) (h3 : decide (l.getD i 0 < 0) = false) (h4 : decide (l.getD i 0 > 6) = false) (hF : Fin cE Tryz.f155 1 res T' n' (inK scK1 (m)) [.na, .na, .na, .na, .na, .o 0, .v (.int .i64 ((l.length : Int))), .v (.int .i64 (IntKind.i64.wrap ((i : Int) + 1))), .na, .na, .na, .na, .na, .na, .na, .na, .na, .na] [(0, .ro 3 (l) false)] 1) : Fin cE Tryz.f155 1 res T' n' (bodyK scK1 m) ([.na, .na, .na, .na, .na, .o 0, .v (it l.length), .v (it i)] ++ List.replicate 10 .na) [(0, .ro 3 l false)] 1 :=
  seg_at (keep := [5, 6, 7]) (ct := ct) ctOk mixed (by decide) 2000 [.t, .f, .f, .f, .f] (by kernel_rfl) (cj h0 (cj h1 (cj h2 (cj h3 (cj h3 (cj h3 (cj h4 cj0))))))) hF
theorem scb_4 (l : List Int) (i m : Nat) (h0 : decide ((i : Int) < (l.length : Int)) = false) : Fin cE Tryz.f155 1 (.v (.bool (true))) [(0, .ro 3 (l) false)] 1 (bodyK scK1 m) ([.na, .na, .na, .na, .na, .o 0, .v (it l.length), .v (it i)] ++ List.replicate 10 .na) [(0, .ro 3 l false)] 1 :=
  seg_fin (keep := [5, 6, 7]) (ct := ct) ctOk mixed (by decide) 2000 [.f] (by kernel_rfl) (cj h0 cj0)
end Go.Proofs.YtpfignfgfhbblaaGreatDoorC
/- Each path of each function: on which conditions it is taken, what it gives. Printed by a program (wip/tools/sxexp2.lean); Lean checks each. -/
namespace Go.Proofs.YtpfignfgfhbblaaGreatDoorC
open Go.Proofs Go.Proofs.YtpfignfgfhbblaaGreatDoorSx
set_option maxRecDepth 100000
set_option linter.unusedVariables false

end Go.Proofs.YtpfignfgfhbblaaGreatDoorC
/- What the reference's functions come to: parts, rounded, of, Power, scaled, sum, back. -/
namespace Go.Proofs.YtpfignfgfhbblaaGreatDoorC
open Go.Proofs Go.Proofs.YtpfignfgfhbblaaGreatDoorSx
set_option maxRecDepth 100000
set_option linter.unusedVariables false
theorem val_W (n : Int) (h0 : 0 ≤ n) (h1 : n < big192) : val (dg 6 n) = n := val_dg 6 n h0 (by rw [big_pow]; exact h1)
theorem W_plus {x y : Int} (hx : 0 ≤ x) (hy : 0 ≤ y) (h : x + y < big192) (s t : Bool) : Does cE 101 [] 0 [.v (W x s), .v (W y t)] (.v (W (x + y) false)) [] 0 := by
  have h1 := plus_does (dg_dig x) (dg_dig y) s t
  rw [val_W x hx (by omega), val_W y hy (by omega)] at h1
  exact h1 h
theorem W_times {x y : Int} (hx : 0 ≤ x ∧ x < big192) (hy : 0 ≤ y ∧ y < big192) (h : x * y < big192) (s t : Bool) : Does cE 102 [] 0 [.v (W x s), .v (W y t)] (.v (W (x * y) false)) [] 0 := by
  have h1 := times_does (dg_dig x) (dg_dig y) s t
  rw [val_W x hx.1 hx.2, val_W y hy.1 hy.2] at h1
  exact h1 h
/-! ### Bits -/
/-! ### Parts -/
end Go.Proofs.YtpfignfgfhbblaaGreatDoorC
/- What the reference's functions come to, all on numbers with a sign. -/
namespace Go.Proofs.YtpfignfgfhbblaaGreatDoorC
open Go.Proofs Go.Proofs.YtpfignfgfhbblaaGreatDoorSx
set_option maxRecDepth 100000
set_option linter.unusedVariables false
abbrev I64 (n : Int) : Prop := -9223372036854775808 ≤ n ∧ n ≤ 9223372036854775807
def ab (n : Int) : Int := (n.natAbs : Int)
theorem ab_spec (n : Int) : (n < 0 ∧ ab n = -n) ∨ (0 ≤ n ∧ ab n = n) := by unfold ab; omega
abbrev ng (n : Int) : Bool := decide (n < 0)
/-! ### Numbers of 64 bits -/
theorem dg_small {n : Int} (h0 : 0 ≤ n) (h1 : n < 18446744073709551616) : dg 6 n = [n % 4294967296, n / 4294967296, 0, 0, 0, 0] := by
  simp only [dg]
  have e1 : n / 4294967296 % 4294967296 = n / 4294967296 := by omega
  have e2 : n / 4294967296 / 4294967296 = 0 := by omega
  rw [e1, e2]
  rfl
theorem wrap_abs {n : Int} (hn : I64 n) (h : n < 0) : IntKind.u64.wrap (0 - IntKind.u64.wrap n) = ab n := by
  have ha := ab_spec n
  rw [wrapU, wrapU]
  omega
theorem wrap_pos {n : Int} (hn : I64 n) (h : ¬ n < 0) : IntKind.u64.wrap n = ab n := by
  have ha := ab_spec n
  rw [wrapU]
  omega
theorem rof_does {n : Int} (hn : I64 n) : Does cE 103 [] 0 [.v (it n)] (.v (W (ab n) (ng n))) [] 0 := by
  have ha := ab_spec n
  have hs := dg_small (n := ab n) (by omega) (by omega)
  unfold W
  rw [hs]
  by_cases h : n < 0
  · have h1 := rof_1 n (by simpa using h)
    rw [wrap_abs hn h, Int.tmod_eq_emod_of_nonneg (by omega), Int.tdiv_eq_ediv_of_nonneg (by omega), wrU (x := ab n / 4294967296) (by omega) (by omega)] at h1
    exact h1
  · have h1 := rof_2 n (by simpa using h)
    rw [wrap_pos hn h, Int.tmod_eq_emod_of_nonneg (by omega), Int.tdiv_eq_ediv_of_nonneg (by omega), wrU (x := ab n / 4294967296) (by omega) (by omega)] at h1
    exact h1
/-- A sum, with signs. -/
def addM (x : Int) (s : Bool) (y : Int) (t : Bool) : Int × Bool := if s = t then (x + y, s) else if x < y then (y - x, t) else (x - y, s)
/-! ### Back -/
def fits (x : Int) (s : Bool) : Prop := x ≤ (if s then 9223372036854775808 else 9223372036854775807)
instance (x : Int) (s : Bool) : Decidable (fits x s) := by unfold fits; infer_instance
abbrev sg (x : Int) (s : Bool) : Int := if s then -x else x
/-- Units and scale, and how it ended. -/
def fitP (x : Int) (s : Bool) (sc : Int) : Int × Int × Int := if fits x s then (sg x s, sc, 0) else (0, 0, 32)
abbrev ans (p : Int × Int × Int) : Value := .tuple #[dc p.1 p.2.1, it p.2.2]
theorem dg_get {x : Int} (h0 : 0 ≤ x) (h1 : x < big192) : x = (dg 6 x).getD 0 0 + 4294967296 * ((dg 6 x).getD 1 0 + 4294967296 * ((dg 6 x).getD 2 0 + 4294967296 * ((dg 6 x).getD 3 0 + 4294967296 * ((dg 6 x).getD 4 0 + 4294967296 * (dg 6 x).getD 5 0)))) := by
  have := val6 (dg_dig x)
  rw [val_W x h0 h1] at this
  exact this
theorem rback_does {x : Int} (h0 : 0 ≤ x) (h1 : x < big192) (s : Bool) (sc : Int) : Does cE 105 [] 0 [.v (W x s), .v (it sc)] (.v (ans (fitP x s sc))) [] 0 := by
  have hv := dg_get h0 h1
  have a0 := rng_get (dg_rng 6 x) 0
  have a1 := rng_get (dg_rng 6 x) 1
  have a2 := rng_get (dg_rng 6 x) 2
  have a3 := rng_get (dg_rng 6 x) 3
  have a4 := rng_get (dg_rng 6 x) 4
  have a5 := rng_get (dg_rng 6 x) 5
  have big : ∀ (P : Value → Prop), (18446744073709551616 ≤ x → P (.tuple #[dc 0 0, it 32])) → 18446744073709551616 ≤ x → P (ans (fitP x s sc)) := by
    intro P hP hx
    have : ¬ fits x s := by unfold fits; cases s <;> simp <;> omega
    unfold fitP
    rw [if_neg this]
    exact hP hx
  by_cases h2 : (dg 6 x).getD 2 0 = 0
  · by_cases h3 : (dg 6 x).getD 3 0 = 0
    · by_cases h4 : (dg 6 x).getD 4 0 = 0
      · by_cases h5 : (dg 6 x).getD 5 0 = 0
        · have w : IntKind.u64.wrap (IntKind.u64.wrap ((dg 6 x).getD 1 0 * 4294967296) + (dg 6 x).getD 0 0) = x := by
            rw [wrU (x := (dg 6 x).getD 1 0 * 4294967296) (by omega) (by omega), wrU (by omega) (by omega)]
            omega
          have hx : x < 18446744073709551616 := by omega
          unfold fitP
          cases s with
          | true =>
            by_cases hle : x ≤ 9223372036854775808
            · have h := rbk_1 (dg 6 x) true sc (by rw [h2]; rfl) (by rw [h3]; rfl) (by rw [h4]; rfl) (by rw [h5]; rfl) rfl
              rw [w] at h
              have e : IntKind.i64.wrap (IntKind.u64.wrap (0 - x)) = -x := by rw [wrapU, IntKind.wrap_i64]; omega
              rw [e] at h
              rw [if_pos (by unfold fits; simpa using hle)]
              exact h (by simpa using hle)
            · have h := rbk_2 (dg 6 x) true sc (by rw [h2]; rfl) (by rw [h3]; rfl) (by rw [h4]; rfl) (by rw [h5]; rfl) rfl
              rw [w] at h
              rw [if_neg (by unfold fits; simpa using hle)]
              exact h (by simpa using hle) (by simp; omega)
          | false =>
            by_cases hle : x ≤ 9223372036854775807
            · have h := rbk_5 (dg 6 x) false sc (by rw [h2]; rfl) (by rw [h3]; rfl) (by rw [h4]; rfl) (by rw [h5]; rfl) rfl
              rw [w, wrap64 (by omega) (by omega)] at h
              rw [if_pos (by unfold fits; simpa using hle)]
              exact h (by simp; omega)
            · have h := rbk_4 (dg 6 x) false sc (by rw [h2]; rfl) (by rw [h3]; rfl) (by rw [h4]; rfl) (by rw [h5]; rfl) rfl
              rw [w] at h
              rw [if_neg (by unfold fits; simpa using hle)]
              exact h (by simp; omega)
        · exact big (fun v => Does cE 105 [] 0 [.v (W x s), .v (it sc)] (.v v) [] 0) (fun _ => rbk3_1 (dg 6 x) s sc (by rw [h2]; rfl) (by rw [h3]; rfl) (by rw [h4]; rfl) (bne_iff_ne.2 h5)) (by omega)
      · exact big (fun v => Does cE 105 [] 0 [.v (W x s), .v (it sc)] (.v v) [] 0) (fun _ => rbk2_1 (dg 6 x) s sc (by rw [h2]; rfl) (by rw [h3]; rfl) (bne_iff_ne.2 h4)) (by omega)
    · exact big (fun v => Does cE 105 [] 0 [.v (W x s), .v (it sc)] (.v v) [] 0) (fun _ => rbk1_1 (dg 6 x) s sc (by rw [h2]; rfl) (bne_iff_ne.2 h3)) (by omega)
  · exact big (fun v => Does cE 105 [] 0 [.v (W x s), .v (it sc)] (.v v) [] 0) (fun _ => rbk0_1 (dg 6 x) s sc (bne_iff_ne.2 h2)) (by omega)
end Go.Proofs.YtpfignfgfhbblaaGreatDoorC
/- Each path of each function: on which conditions it is taken, what it gives. Printed by a program (wip/tools/sxexp2.lean); Lean checks each. -/
namespace Go.Proofs.YtpfignfgfhbblaaGreatDoorC
open Go.Proofs Go.Proofs.YtpfignfgfhbblaaGreatDoorSx
set_option maxRecDepth 100000
set_option linter.unusedVariables false

theorem mul64_1 (x y : Int) : Does cE 137 [] 0 [.v (iu x), .v (iu y)] (.v (.tuple #[(.int .u64 (IntKind.u64.wrap (IntKind.u64.wrap (IntKind.u64.wrap (x.fdiv (2 ^ 32) * y.fdiv (2 ^ 32)) + (IntKind.u64.wrap (IntKind.u64.wrap (x.fdiv (2 ^ 32) * IntKind.u64.wrap ↑(BitVec.ofInt 64 y &&& BitVec.ofInt 64 4294967295).toNat) + (IntKind.u64.wrap (IntKind.u64.wrap ↑(BitVec.ofInt 64 x &&& BitVec.ofInt 64 4294967295).toNat * IntKind.u64.wrap ↑(BitVec.ofInt 64 y &&& BitVec.ofInt 64 4294967295).toNat)).fdiv (2 ^ 32))).fdiv (2 ^ 32)) + (IntKind.u64.wrap (IntKind.u64.wrap ↑(BitVec.ofInt 64 (IntKind.u64.wrap (IntKind.u64.wrap (x.fdiv (2 ^ 32) * IntKind.u64.wrap ↑(BitVec.ofInt 64 y &&& BitVec.ofInt 64 4294967295).toNat) + (IntKind.u64.wrap (IntKind.u64.wrap ↑(BitVec.ofInt 64 x &&& BitVec.ofInt 64 4294967295).toNat * IntKind.u64.wrap ↑(BitVec.ofInt 64 y &&& BitVec.ofInt 64 4294967295).toNat)).fdiv (2 ^ 32))) &&& BitVec.ofInt 64 4294967295).toNat + IntKind.u64.wrap (IntKind.u64.wrap ↑(BitVec.ofInt 64 x &&& BitVec.ofInt 64 4294967295).toNat * y.fdiv (2 ^ 32)))).fdiv (2 ^ 32)))), (.int .u64 (IntKind.u64.wrap (x * y)))])) [] 0 :=
  does_path (ct := ct) ctOk mixed (fn := Tryz.f137) rfl (by kernel_rfl) 2000 [.l, .l, .l, .l, .l] (by kernel_rfl) cj0
end Go.Proofs.YtpfignfgfhbblaaGreatDoorC
/- What the program's functions on 128 bits come to. -/
namespace Go.Proofs.YtpfignfgfhbblaaGreatDoorC
open Go.Proofs Go.Proofs.YtpfignfgfhbblaaGreatDoorSx
set_option maxRecDepth 100000
set_option linter.unusedVariables false
def big128 : Int := 340282366920938463463374607431768211456
abbrev Bv (n : Int) (s : Bool) : Value := bg (n / 18446744073709551616) (n % 18446744073709551616) s
abbrev U64 (n : Int) : Prop := 0 ≤ n ∧ n < 18446744073709551616
/-! ### Carries -/
theorem inPlace {g : Nat} {l : List Value} {v : Value} (h : pureRun cE.P (callFunc g l.toArray) = some (.value v)) : Does cE g [] 0 (l.map .v) (.v v) [] 0 := by
  intro S w μ vs hm hs
  have e : vs = l := by
    have : ∀ (l vs : List Value), Slots (fun k => k < 0) μ (l.map .v) vs → vs = l := by
      intro l
      induction l with
      | nil => intro vs h; exact h.nilr
      | cons a l ih =>
        intro vs h
        obtain ⟨u, r, h1, h2, h3⟩ := h.consr
        rw [h1, rel_v.1 h2, ih r h3]
    exact this l vs hs
  subst e
  exact .inl ⟨v, pureRun_run h w, rel_v.2 rfl, rfl, rfl⟩
theorem add64_does {x y : Int} (hx : U64 x) (hy : U64 y) : Does cE 181 [] 0 [.v (iu x), .v (iu y), .v (iu 0)] (.v (.tuple #[iu ((x + y) % 18446744073709551616), iu ((x + y) / 18446744073709551616)])) [] 0 := by
  have h := inPlace (g := 181) (l := [iu x, iu y, iu 0]) (v := .tuple #[iu (Int.ofNat ((x.toNat + y.toNat + 0) % 18446744073709551616)), iu (Int.ofNat ((x.toNat + y.toNat + 0) / 18446744073709551616))]) (by kernel_rfl)
  have e1 : Int.ofNat ((x.toNat + y.toNat + 0) % 18446744073709551616) = (x + y) % 18446744073709551616 := by simp; omega
  have e2 : Int.ofNat ((x.toNat + y.toNat + 0) / 18446744073709551616) = (x + y) / 18446744073709551616 := by simp; omega
  rw [e1, e2] at h
  exact h
theorem sub64_does {x y : Int} (hx : U64 x) (hy : U64 y) : Does cE 183 [] 0 [.v (iu x), .v (iu y), .v (iu 0)] (.v (.tuple #[iu ((x - y) % 18446744073709551616), iu (if x < y then 1 else 0)])) [] 0 := by
  have h := inPlace (g := 183) (l := [iu x, iu y, iu 0]) (v := .tuple #[iu (Int.ofNat ((x.toNat + 18446744073709551616 - y.toNat - 0) % 18446744073709551616)), iu (Int.ofNat (if x.toNat < y.toNat + 0 then 1 else 0))]) (by kernel_rfl)
  have e1 : Int.ofNat ((x.toNat + 18446744073709551616 - y.toNat - 0) % 18446744073709551616) = (x - y) % 18446744073709551616 := by simp; omega
  have e2 : Int.ofNat (if x.toNat < y.toNat + 0 then 1 else 0) = if x < y then 1 else 0 := by
    by_cases hlt : x < y
    · rw [if_pos hlt, if_pos (by omega)]; rfl
    · rw [if_neg hlt, if_neg (by omega)]; rfl
  rw [e1, e2] at h
  exact h
theorem low32 (z : Int) (h0 : 0 ≤ z) : IntKind.u64.wrap ↑(BitVec.ofInt 64 z &&& BitVec.ofInt 64 4294967295).toNat = z % 4294967296 := by
  rw [BitVec.toNat_and, BitVec.toNat_ofInt, BitVec.toNat_ofInt]
  have e : ((4294967295 : Int) % ((2 ^ 64 : Nat) : Int)).toNat = 2 ^ 32 - 1 := by decide
  rw [e, Nat.and_two_pow_sub_one_eq_mod, wrapU]
  have : (2 : Nat) ^ 32 = 4294967296 := by decide
  rw [this]
  omega
theorem wrap_nn (z : Int) : 0 ≤ IntKind.u64.wrap z := by rw [wrapU]; omega
theorem fdiv32 (z : Int) : z.fdiv (2 ^ 32) = z / 4294967296 := by
  rw [Int.fdiv_eq_ediv_of_nonneg _ (by decide)]
  rfl
theorem mul64_does {x y : Int} (hx : U64 x) (hy : U64 y) : Does cE 137 [] 0 [.v (iu x), .v (iu y)] (.v (.tuple #[iu (x * y / 18446744073709551616), iu (x * y % 18446744073709551616)])) [] 0 := by
  have h := mul64_1 x y
  have ha := Go.mul64_arith x y hx.1 hx.2 hy.1 hy.2
  simp only [fdiv32] at h
  rw [low32 x hx.1, low32 y hy.1, low32 _ (wrap_nn _)] at h
  simp only [wrapU] at h
  rw [ha] at h
  exact h
end Go.Proofs.YtpfignfgfhbblaaGreatDoorC
/- What the program's functions on 128 bits come to: of, times, compare, plus, by, back, up, scales. -/
namespace Go.Proofs.YtpfignfgfhbblaaGreatDoorC
open Go.Proofs Go.Proofs.YtpfignfgfhbblaaGreatDoorSx
set_option maxRecDepth 100000
set_option linter.unusedVariables false
theorem pof_does {n : Int} (hn : I64 n) : Does cE 106 [] 0 [.v (it n)] (.v (Bv (ab n) (ng n))) [] 0 := by
  have ha := ab_spec n
  have e1 : ab n / 18446744073709551616 = 0 := by omega
  have e2 : ab n % 18446744073709551616 = ab n := by omega
  unfold Bv
  rw [e1, e2]
  by_cases h : n < 0
  · have h1 := of_1 n (by simpa using h)
    have d : ng n = true := by simpa [ng] using h
    rw [wrap_abs hn h] at h1
    rw [d]
    exact h1
  · have h1 := of_2 n (by simpa using h)
    have d : ng n = false := by simpa [ng] using h
    rw [wrap_pos hn h] at h1
    rw [d]
    exact h1
theorem Bv_range {n : Int} (h0 : 0 ≤ n) (h1 : n < big128) : U64 (n / 18446744073709551616) ∧ U64 (n % 18446744073709551616) := by
  unfold big128 at h1
  unfold U64
  omega
theorem ptimes_does {x n : Int} (hx : 0 ≤ x) (hn : U64 n) (h : x * n < big128) (hxb : x < big128) (s : Bool) : Does cE 150 [] 0 [.v (Bv x s), .v (iu n)] (.v (Bv (x * n) s)) [] 0 := by
  obtain ⟨r1, r2⟩ := Bv_range hx hxb
  have h1 := times_1 (h := x / 18446744073709551616) (l := x % 18446744073709551616) (n := n) (s := s) (h0 := mul64_does r2 hn)
  have hx0 : x = 18446744073709551616 * (x / 18446744073709551616) + x % 18446744073709551616 := by omega
  unfold Bv
  generalize x / 18446744073709551616 = a at h1 hx0 r1 ⊢
  generalize x % 18446744073709551616 = b at h1 hx0 r2 ⊢
  have hm : x * n = 18446744073709551616 * (a * n) + b * n := by rw [hx0]; grind
  have p1 : 0 ≤ a * n := Int.mul_nonneg r1.1 hn.1
  have p2 : 0 ≤ b * n := Int.mul_nonneg r2.1 hn.1
  rw [hm]
  rw [hm] at h
  generalize a * n = A at h1 h p1
  generalize b * n = B at h1 h p2
  unfold big128 at h
  rw [wrU (x := A) p1 (by omega), wrU (x := B / 18446744073709551616 + A) (by omega) (by omega)] at h1
  have e1 : (18446744073709551616 * A + B) / 18446744073709551616 = B / 18446744073709551616 + A := by omega
  have e2 : (18446744073709551616 * A + B) % 18446744073709551616 = B % 18446744073709551616 := by omega
  rw [e1, e2]
  exact h1
/-! ### Order -/
def cmpI (x y : Int) : Int := if x < y then -1 else if x > y then 1 else 0
theorem cmp64_does (x y : Int) : Does cE 207 [] 0 [.v (iu x), .v (iu y)] (.v (it (cmpI x y))) [] 0 := by
  unfold cmpI
  by_cases h1 : x < y
  · rw [if_pos h1]
    exact cmp64_4 x y (by simp) (by simp) (by simpa using h1)
  · rw [if_neg h1]
    by_cases h2 : x > y
    · rw [if_pos h2]
      exact cmp64_5 x y (by simp) (by simp) (by simpa using h1) (by simpa using h2)
    · rw [if_neg h2]
      exact cmp64_6 x y (by simp) (by simp) (by simpa using h1) (by simpa using h2)
theorem or_does (x y : Int) : Does cE 138 [(0, .ro 3 ([x, y] : List Int) false)] 1 [.o 0] (.v (it (if x = 0 then y else x))) [] 1 := by
  refine Does.nil (T' := [(0, .ro 3 ([x, y] : List Int) false)]) ?_ rfl
  by_cases h1 : x = 0
  · rw [if_pos h1]
    by_cases h2 : y = 0
    · subst h1
      subst h2
      exact or2c_1 0 0 ⟨by decide, by simp⟩ (by simp) (by simp) ⟨by decide, by simp; decide⟩ (by simp; decide) (by rfl)
    · subst h1
      exact or2b_1 0 y ⟨by decide, by simp⟩ (by simp) (by simp) ⟨by decide, by simp; decide⟩ (by simp; decide) (bne_iff_ne.2 h2)
  · rw [if_neg h1]
    exact or2a_1 x y ⟨by decide, by simp⟩ (by simp) (bne_iff_ne.2 h1)
theorem cmp_split {x y : Int} : (if cmpI (x / 18446744073709551616) (y / 18446744073709551616) = 0 then cmpI (x % 18446744073709551616) (y % 18446744073709551616) else cmpI (x / 18446744073709551616) (y / 18446744073709551616)) = cmpI x y := by
  unfold cmpI
  by_cases h1 : x / 18446744073709551616 < y / 18446744073709551616
  · rw [if_pos h1, if_neg (by decide), if_pos (by omega)]
  · by_cases h2 : x / 18446744073709551616 > y / 18446744073709551616
    · rw [if_neg h1, if_pos h2, if_neg (by decide), if_neg (by omega), if_pos (by omega)]
    · rw [if_neg h1, if_neg h2, if_pos rfl]
      by_cases h3 : x < y
      · rw [if_pos h3, if_pos (by omega)]
      · by_cases h4 : x > y
        · rw [if_neg h3, if_pos h4, if_neg (by omega), if_pos (by omega)]
        · rw [if_neg h3, if_neg h4, if_neg (by omega), if_neg (by omega)]
theorem pcompare_does (x y : Int) (s t : Bool) : Does cE 182 [] 0 [.v (Bv x s), .v (Bv y t)] (.v (it (cmpI x y))) [] 0 := by
  rw [← cmp_split]
  exact cmpb_1 (s := s) (t := t) (h0 := cmp64_does _ _) (h1 := cmp64_does _ _) (h2 := or_does _ _)
/-! ### Sums -/
theorem pdiff {x y : Int} (hy : 0 ≤ y) (hle : y ≤ x) (hx : x < big128) (s : Bool) :
    bg (IntKind.u64.wrap (IntKind.u64.wrap (x / 18446744073709551616 - y / 18446744073709551616) - (if x % 18446744073709551616 < y % 18446744073709551616 then 1 else 0))) ((x % 18446744073709551616 - y % 18446744073709551616) % 18446744073709551616) s = Bv (x - y) s := by
  unfold big128 at hx
  have e1 : IntKind.u64.wrap (x / 18446744073709551616 - y / 18446744073709551616) = x / 18446744073709551616 - y / 18446744073709551616 := wrU (by omega) (by omega)
  rw [e1]
  have e2 : (x % 18446744073709551616 - y % 18446744073709551616) % 18446744073709551616 = (x - y) % 18446744073709551616 := by omega
  rw [e2]
  by_cases h : x % 18446744073709551616 < y % 18446744073709551616
  · rw [if_pos h, wrU (by omega) (by omega)]
    have e3 : x / 18446744073709551616 - y / 18446744073709551616 - 1 = (x - y) / 18446744073709551616 := by omega
    rw [e3]
  · rw [if_neg h, wrU (by omega) (by omega)]
    have e3 : x / 18446744073709551616 - y / 18446744073709551616 - 0 = (x - y) / 18446744073709551616 := by omega
    rw [e3]
theorem pplus_does {x y : Int} (hx : 0 ≤ x) (hy : 0 ≤ y) (h : x + y < big128) (s t : Bool) : Does cE 151 [] 0 [.v (Bv x s), .v (Bv y t)] (.v (Bv (addM x s y t).1 (addM x s y t).2)) [] 0 := by
  obtain ⟨a1, a2⟩ := Bv_range hx (by omega)
  obtain ⟨b1, b2⟩ := Bv_range hy (by omega)
  unfold addM
  by_cases hs : s = t
  · rw [if_pos hs]
    subst hs
    have h1 := plus_1 (h0 := (by simp : (s == s) = true)) (h1 := add64_does a2 b2) (h := x / 18446744073709551616) (g := y / 18446744073709551616)
    unfold big128 at h
    have e1 : IntKind.u64.wrap (x / 18446744073709551616 + y / 18446744073709551616) = x / 18446744073709551616 + y / 18446744073709551616 := wrU (by omega) (by omega)
    rw [e1, wrU (by omega) (by omega)] at h1
    have e2 : x / 18446744073709551616 + y / 18446744073709551616 + (x % 18446744073709551616 + y % 18446744073709551616) / 18446744073709551616 = (x + y) / 18446744073709551616 := by omega
    have e3 : (x % 18446744073709551616 + y % 18446744073709551616) % 18446744073709551616 = (x + y) % 18446744073709551616 := by omega
    rw [e2, e3] at h1
    exact h1
  · rw [if_neg hs]
    have hc := pcompare_does x y s t
    unfold cmpI at hc
    by_cases hlt : x < y
    · rw [if_pos hlt]
      rw [if_pos hlt] at hc
      have h1 := plus_2 (h0 := (by simpa using hs : (s == t) = false)) (h1 := hc) (h2 := by decide) (h3 := sub64_does b2 a2)
      have e := pdiff (x := y) (y := x) hx (by omega) (by omega) t
      unfold bg at e
      rw [e] at h1
      exact h1
    · rw [if_neg hlt]
      rw [if_neg hlt] at hc
      have h1 := plus_3 (h0 := (by simpa using hs : (s == t) = false)) (h1 := hc) (h2 := by split <;> decide) (h3 := sub64_does a2 b2)
      have e := pdiff (x := x) (y := y) hy (by omega) (by omega) s
      unfold bg at e
      rw [e] at h1
      exact h1
/-! ### Back, up, scales -/
theorem pback_does {x : Int} (h0 : 0 ≤ x) (h1 : x < big128) (s : Bool) (sc : Int) : Does cE 152 [] 0 [.v (Bv x s), .v (it sc)] (.v (ans (fitP x s sc))) [] 0 := by
  unfold big128 at h1
  by_cases hh : x / 18446744073709551616 = 0
  · have e2 : x % 18446744073709551616 = x := by omega
    unfold Bv fitP
    rw [hh, e2]
    cases s with
    | true =>
      by_cases hle : x ≤ 9223372036854775808
      · have h := back_2 0 x sc true rfl rfl (by simpa using hle)
        have e : IntKind.i64.wrap (IntKind.u64.wrap (0 - x)) = -x := by rw [wrapU, IntKind.wrap_i64]; omega
        rw [e] at h
        rw [if_pos (by unfold fits; simpa using hle)]
        exact h
      · have h := back_5 0 x sc true rfl rfl (by simpa using hle) rfl
        rw [if_neg (by unfold fits; simpa using hle)]
        exact h
    | false =>
      by_cases hle : x ≤ 9223372036854775807
      · have h := back_6 0 x sc false rfl rfl rfl (by simp; omega)
        rw [wrap64 (by omega) (by omega)] at h
        rw [if_pos (by unfold fits; simpa using hle)]
        exact h
      · have h := back_7 0 x sc false rfl rfl rfl (by simp; omega)
        rw [if_neg (by unfold fits; simpa using hle)]
        exact h
  · have h := back_1 (x / 18446744073709551616) (x % 18446744073709551616) sc s (bne_iff_ne.2 hh)
    have : ¬ fits x s := by unfold fits; cases s <;> simp <;> omega
    unfold fitP
    rw [if_neg this]
    exact h
abbrev inS (x : Int) : Bool := decide (0 ≤ x ∧ x ≤ 6)
theorem sc_loop (l : List Int) (hl : l.length < 100) : ∀ (r i : Nat), i + r = l.length → ∀ m, Fin cE Tryz.f155 1 (.v (.bool ((l.drop i).all inS))) [(0, .ro 3 l false)] 1 (inK scK1 (m + r + 1)) ([.na, .na, .na, .na, .na, .o 0, .v (it l.length), .v (it i)] ++ List.replicate 10 .na) [(0, .ro 3 l false)] 1
  | 0, i, hi, m => by
    refine fin_round ?_
    rw [List.drop_of_length_le (by omega)]
    exact scb_4 l i m (by simp; omega)
  | r + 1, i, hi, m => by
    refine fin_round ?_
    have hlt : i < l.length := by omega
    have hd : l.drop i = l.getD i 0 :: l.drop (i + 1) := by
      rw [List.drop_eq_getElem_cons hlt]
      congr 1
      simp [List.getD, hlt]
    rw [hd, List.all_cons]
    by_cases h1 : l.getD i 0 < 0
    · have e : inS (l.getD i 0) = false := decide_eq_false (by omega)
      rw [e]
      exact scb_1 l i (m + (r + 1)) (by simp; omega) ⟨by omega, by omega⟩ hlt (by simpa using h1)
    · by_cases h2 : l.getD i 0 > 6
      · have e : inS (l.getD i 0) = false := decide_eq_false (by omega)
        rw [e]
        exact scb_2 l i (m + (r + 1)) (by simp; omega) ⟨by omega, by omega⟩ hlt (by simpa using h1) (by simpa using h2)
      · have e : inS (l.getD i 0) = true := decide_eq_true (by omega)
        rw [e, Bool.true_and]
        refine scb_3 l i (m + (r + 1)) _ _ _ (by simp; omega) ⟨by omega, by omega⟩ hlt (by simpa using h1) (by simpa using h2) ?_
        rw [step64 (by omega)]
        exact sc_loop l hl r (i + 1) (by omega) m
theorem scales_does (l : List Int) (hl : l.length < 100) : Does cE 155 [(0, .ro 3 l false)] 1 [.o 0] (.v (.bool (l.all inS))) [] 1 := by
  refine Does.nil (T' := [(0, .ro 3 l false)]) ?_ rfl
  refine does_of_fin (fn := Tryz.f155) (c := bd Tryz.f155) rfl (by kernel_rfl) rfl ?_
  refine sca_1 l _ _ _ ?_
  refine fin_loop (0 + l.length + 1) ?_
  exact sc_loop l hl l.length 0 (by omega) 0
abbrev sc6 (x : Int) : Prop := 0 ≤ x ∧ x ≤ 6
end Go.Proofs.YtpfignfgfhbblaaGreatDoorC
/- The reference's Right of decimals, told. -/
namespace Go.Proofs.YtpfignfgfhbblaaGreatDoorC
open Go.Proofs Go.Proofs.YtpfignfgfhbblaaGreatDoorSx
set_option maxRecDepth 100000
theorem rright_does (u x : Int) : Does cE 111 [] 0 [.v (dc u x)] (.v (.bool (decide (sc6 x)))) [] 0 := by
  by_cases h : x ≥ 0
  · have e : decide (sc6 x) = decide (x ≤ 6) := by rw [decide_eq_decide]; omega
    rw [e]
    exact rrt_1 u x (by simpa using h)
  · have e : decide (sc6 x) = false := decide_eq_false (by omega)
    rw [e]
    exact rrt_2 u x (by simpa using h)
end Go.Proofs.YtpfignfgfhbblaaGreatDoorC
/- Each path of each function: on which conditions it is taken, what it gives. Printed by a program (wip/tools/sxexp2.lean); Lean checks each. -/
namespace Go.Proofs.YtpfignfgfhbblaaGreatDoorC
open Go.Proofs Go.Proofs.YtpfignfgfhbblaaGreatDoorSx
set_option maxRecDepth 100000
set_option linter.unusedVariables false

noncomputable def rpK : List It := stackAt [1, 1, 1, 1, 1, 1, 0, 0] (bd Tryz.f55) [] []
noncomputable def dgK : List It := stackAt [1, 1, 0, 0] (bd Tryz.f112) [] []

theorem prn_1 (u sc : Int) (b0 : Bool) (h0 : Does cE 97 [] 0 [.v (.agg #[(.int .i64 (u)), (.int .i64 (sc))])] (.v (.bool (b0))) [] 0) (h1 : (!b0) = true) : Does cE 50 [] 0 [.v (dc u sc)] (.v (.string ((ByteArray.mk #[])))) [] 0 :=
  does_path (ct := ct) ctOk mixed (fn := Tryz.f50) rfl (by kernel_rfl) 2000 [.c (.v (.bool (b0))) [] 0, .t] (by kernel_rfl) (cj h0 (cj h1 cj0))
theorem prn_2 (u sc : Int) (b0 : Bool) (i1 : Int) (i2 : Int) (b3 : Bool) (s4 : ByteArray) (s5 : ByteArray) (h0 : Does cE 97 [] 0 [.v (.agg #[(.int .i64 (u)), (.int .i64 (sc))])] (.v (.bool (b0))) [] 0) (h1 : (!b0) = false) (h2 : Does cE 106 [] 0 [.v (.int .i64 (u))] (.v (.agg #[(.int .u64 (i1)), (.int .u64 (i2)), (.bool (b3))])) [] 0) (h3 : Does cE 107 [] 0 [.v (.int .u64 (i2)), .v (.int .i64 (10))] (.v (.string (s4))) [] 0) (h4 : Does cE 108 [] 0 [.v (.string ((ByteArray.mk #[48]))), .v (.int .i64 (if IntKind.i64.wrap (IntKind.i64.wrap (sc + 1) - (s4.size : Int)) > 0 then IntKind.i64.wrap (IntKind.i64.wrap (sc + 1) - (s4.size : Int)) else 0))] (.v (.string (s5))) [] 0) (h5 : s5.size + s4.size ≤ 9223372036854775807) (h6 : decide (sc > 0) = true) (h7 : (0 : Int) ≤ 0 ∧ (0 : Int) ≤ IntKind.i64.wrap ((((s5 ++ s4).size : Nat) : Int) - sc) ∧ IntKind.i64.wrap ((((s5 ++ s4).size : Nat) : Int) - sc) ≤ (((s5 ++ s4).size : Nat) : Int)) (h8 : ((s5 ++ s4).extract (Int.toNat 0) (IntKind.i64.wrap ((((s5 ++ s4).size : Nat) : Int) - sc)).toNat).size + (ByteArray.mk #[46]).size ≤ 9223372036854775807) (h9 : (0 : Int) ≤ IntKind.i64.wrap ((((s5 ++ s4).size : Nat) : Int) - sc) ∧ IntKind.i64.wrap ((((s5 ++ s4).size : Nat) : Int) - sc) ≤ (((s5 ++ s4).size : Nat) : Int) ∧ (((s5 ++ s4).size : Nat) : Int) ≤ (((s5 ++ s4).size : Nat) : Int)) (h10 : ((s5 ++ s4).extract (Int.toNat 0) (IntKind.i64.wrap ((((s5 ++ s4).size : Nat) : Int) - sc)).toNat ++ (ByteArray.mk #[46])).size + ((s5 ++ s4).extract (IntKind.i64.wrap ((((s5 ++ s4).size : Nat) : Int) - sc)).toNat ((((s5 ++ s4).size : Nat) : Int)).toNat).size ≤ 9223372036854775807) (h11 : b3 = true) (h12 : (ByteArray.mk #[45]).size + ((s5 ++ s4).extract (Int.toNat 0) (IntKind.i64.wrap ((((s5 ++ s4).size : Nat) : Int) - sc)).toNat ++ (ByteArray.mk #[46]) ++ (s5 ++ s4).extract (IntKind.i64.wrap ((((s5 ++ s4).size : Nat) : Int) - sc)).toNat ((((s5 ++ s4).size : Nat) : Int)).toNat).size ≤ 9223372036854775807) : Does cE 50 [] 0 [.v (dc u sc)] (.v (.string ((ByteArray.mk #[45]) ++ ((s5 ++ s4).extract (Int.toNat 0) (IntKind.i64.wrap ((((s5 ++ s4).size : Nat) : Int) - sc)).toNat ++ (ByteArray.mk #[46]) ++ (s5 ++ s4).extract (IntKind.i64.wrap ((((s5 ++ s4).size : Nat) : Int) - sc)).toNat ((((s5 ++ s4).size : Nat) : Int)).toNat)))) [] 0 :=
  does_path (ct := ct) ctOk mixed (fn := Tryz.f50) rfl (by kernel_rfl) 2000 [.c (.v (.bool (b0))) [] 0, .f, .c (.v (.agg #[(.int .u64 (i1)), (.int .u64 (i2)), (.bool (b3))])) [] 0, .c (.v (.string (s4))) [] 0, .c (.v (.string (s5))) [] 0, .t, .t] (by kernel_rfl) (cj h0 (cj h1 (cj h2 (cj h3 (cj h4 (cj h5 (cj h6 (cj h7 (cj h8 (cj h9 (cj h10 (cj h11 (cj h12 cj0)))))))))))))
theorem prn_3 (u sc : Int) (b0 : Bool) (i1 : Int) (i2 : Int) (b3 : Bool) (s4 : ByteArray) (s5 : ByteArray) (h0 : Does cE 97 [] 0 [.v (.agg #[(.int .i64 (u)), (.int .i64 (sc))])] (.v (.bool (b0))) [] 0) (h1 : (!b0) = false) (h2 : Does cE 106 [] 0 [.v (.int .i64 (u))] (.v (.agg #[(.int .u64 (i1)), (.int .u64 (i2)), (.bool (b3))])) [] 0) (h3 : Does cE 107 [] 0 [.v (.int .u64 (i2)), .v (.int .i64 (10))] (.v (.string (s4))) [] 0) (h4 : Does cE 108 [] 0 [.v (.string ((ByteArray.mk #[48]))), .v (.int .i64 (if IntKind.i64.wrap (IntKind.i64.wrap (sc + 1) - (s4.size : Int)) > 0 then IntKind.i64.wrap (IntKind.i64.wrap (sc + 1) - (s4.size : Int)) else 0))] (.v (.string (s5))) [] 0) (h5 : s5.size + s4.size ≤ 9223372036854775807) (h6 : decide (sc > 0) = true) (h7 : (0 : Int) ≤ 0 ∧ (0 : Int) ≤ IntKind.i64.wrap ((((s5 ++ s4).size : Nat) : Int) - sc) ∧ IntKind.i64.wrap ((((s5 ++ s4).size : Nat) : Int) - sc) ≤ (((s5 ++ s4).size : Nat) : Int)) (h8 : ((s5 ++ s4).extract (Int.toNat 0) (IntKind.i64.wrap ((((s5 ++ s4).size : Nat) : Int) - sc)).toNat).size + (ByteArray.mk #[46]).size ≤ 9223372036854775807) (h9 : (0 : Int) ≤ IntKind.i64.wrap ((((s5 ++ s4).size : Nat) : Int) - sc) ∧ IntKind.i64.wrap ((((s5 ++ s4).size : Nat) : Int) - sc) ≤ (((s5 ++ s4).size : Nat) : Int) ∧ (((s5 ++ s4).size : Nat) : Int) ≤ (((s5 ++ s4).size : Nat) : Int)) (h10 : ((s5 ++ s4).extract (Int.toNat 0) (IntKind.i64.wrap ((((s5 ++ s4).size : Nat) : Int) - sc)).toNat ++ (ByteArray.mk #[46])).size + ((s5 ++ s4).extract (IntKind.i64.wrap ((((s5 ++ s4).size : Nat) : Int) - sc)).toNat ((((s5 ++ s4).size : Nat) : Int)).toNat).size ≤ 9223372036854775807) (h11 : b3 = false) : Does cE 50 [] 0 [.v (dc u sc)] (.v (.string ((s5 ++ s4).extract (Int.toNat 0) (IntKind.i64.wrap ((((s5 ++ s4).size : Nat) : Int) - sc)).toNat ++ (ByteArray.mk #[46]) ++ (s5 ++ s4).extract (IntKind.i64.wrap ((((s5 ++ s4).size : Nat) : Int) - sc)).toNat ((((s5 ++ s4).size : Nat) : Int)).toNat))) [] 0 :=
  does_path (ct := ct) ctOk mixed (fn := Tryz.f50) rfl (by kernel_rfl) 2000 [.c (.v (.bool (b0))) [] 0, .f, .c (.v (.agg #[(.int .u64 (i1)), (.int .u64 (i2)), (.bool (b3))])) [] 0, .c (.v (.string (s4))) [] 0, .c (.v (.string (s5))) [] 0, .t, .f] (by kernel_rfl) (cj h0 (cj h1 (cj h2 (cj h3 (cj h4 (cj h5 (cj h6 (cj h7 (cj h8 (cj h9 (cj h10 (cj h11 cj0))))))))))))
theorem prn_4 (u sc : Int) (b0 : Bool) (i1 : Int) (i2 : Int) (b3 : Bool) (s4 : ByteArray) (s5 : ByteArray) (h0 : Does cE 97 [] 0 [.v (.agg #[(.int .i64 (u)), (.int .i64 (sc))])] (.v (.bool (b0))) [] 0) (h1 : (!b0) = false) (h2 : Does cE 106 [] 0 [.v (.int .i64 (u))] (.v (.agg #[(.int .u64 (i1)), (.int .u64 (i2)), (.bool (b3))])) [] 0) (h3 : Does cE 107 [] 0 [.v (.int .u64 (i2)), .v (.int .i64 (10))] (.v (.string (s4))) [] 0) (h4 : Does cE 108 [] 0 [.v (.string ((ByteArray.mk #[48]))), .v (.int .i64 (if IntKind.i64.wrap (IntKind.i64.wrap (sc + 1) - (s4.size : Int)) > 0 then IntKind.i64.wrap (IntKind.i64.wrap (sc + 1) - (s4.size : Int)) else 0))] (.v (.string (s5))) [] 0) (h5 : s5.size + s4.size ≤ 9223372036854775807) (h6 : decide (sc > 0) = false) (h7 : b3 = true) (h8 : (ByteArray.mk #[45]).size + (s5 ++ s4).size ≤ 9223372036854775807) : Does cE 50 [] 0 [.v (dc u sc)] (.v (.string ((ByteArray.mk #[45]) ++ (s5 ++ s4)))) [] 0 :=
  does_path (ct := ct) ctOk mixed (fn := Tryz.f50) rfl (by kernel_rfl) 2000 [.c (.v (.bool (b0))) [] 0, .f, .c (.v (.agg #[(.int .u64 (i1)), (.int .u64 (i2)), (.bool (b3))])) [] 0, .c (.v (.string (s4))) [] 0, .c (.v (.string (s5))) [] 0, .f, .t] (by kernel_rfl) (cj h0 (cj h1 (cj h2 (cj h3 (cj h4 (cj h5 (cj h6 (cj h7 (cj h8 cj0)))))))))
theorem prn_5 (u sc : Int) (b0 : Bool) (i1 : Int) (i2 : Int) (b3 : Bool) (s4 : ByteArray) (s5 : ByteArray) (h0 : Does cE 97 [] 0 [.v (.agg #[(.int .i64 (u)), (.int .i64 (sc))])] (.v (.bool (b0))) [] 0) (h1 : (!b0) = false) (h2 : Does cE 106 [] 0 [.v (.int .i64 (u))] (.v (.agg #[(.int .u64 (i1)), (.int .u64 (i2)), (.bool (b3))])) [] 0) (h3 : Does cE 107 [] 0 [.v (.int .u64 (i2)), .v (.int .i64 (10))] (.v (.string (s4))) [] 0) (h4 : Does cE 108 [] 0 [.v (.string ((ByteArray.mk #[48]))), .v (.int .i64 (if IntKind.i64.wrap (IntKind.i64.wrap (sc + 1) - (s4.size : Int)) > 0 then IntKind.i64.wrap (IntKind.i64.wrap (sc + 1) - (s4.size : Int)) else 0))] (.v (.string (s5))) [] 0) (h5 : s5.size + s4.size ≤ 9223372036854775807) (h6 : decide (sc > 0) = false) (h7 : b3 = false) : Does cE 50 [] 0 [.v (dc u sc)] (.v (.string (s5 ++ s4))) [] 0 :=
  does_path (ct := ct) ctOk mixed (fn := Tryz.f50) rfl (by kernel_rfl) 2000 [.c (.v (.bool (b0))) [] 0, .f, .c (.v (.agg #[(.int .u64 (i1)), (.int .u64 (i2)), (.bool (b3))])) [] 0, .c (.v (.string (s4))) [] 0, .c (.v (.string (s5))) [] 0, .f, .f] (by kernel_rfl) (cj h0 (cj h1 (cj h2 (cj h3 (cj h4 (cj h5 (cj h6 (cj h7 cj0))))))))
theorem fmtu_1 (n : Int) (s0 : ByteArray) (h0 : Does cE 157 [] 0 [.v (.int .u64 (n)), .v (.int .i64 (10))] (.v (.string (s0))) [] 0) : Does cE 107 [] 0 [.v (iu n), .v (it 10)] (.v (.string (s0))) [] 0 :=
  does_path (ct := ct) ctOk mixed (fn := Tryz.f107) rfl (by kernel_rfl) 2000 [.c (.v (.string (s0))) [] 0] (by kernel_rfl) (cj h0 cj0)
theorem cutp_1 (bs ss : ByteArray) (h0 : decide ((bs.size : Int) ≥ (ss.size : Int)) = true) (h1 : (0 : Int) ≤ 0 ∧ (0 : Int) ≤ (ss.size : Int) ∧ (ss.size : Int) ≤ (bs.size : Int)) (h2 : (!(bs.extract (Int.toNat 0) ((ss.size : Int)).toNat).toList == ss.toList) = true) : Does cE 149 [] 0 [.v (st bs), .v (st ss)] (.v (.tuple #[(.string (bs)), (.bool (false))])) [] 0 :=
  does_path (ct := ct) ctOk mixed (fn := Tryz.f149) rfl (by kernel_rfl) 2000 [.e, .e, .t, .t, .t, .t, .t, .t, .t, .t] (by kernel_rfl) (cj h0 (cj h0 (cj h0 (cj h0 (cj h1 (cj h0 (cj h0 (cj h0 (cj h2 cj0)))))))))
theorem cutp_2 (bs ss : ByteArray) (h0 : decide ((bs.size : Int) ≥ (ss.size : Int)) = true) (h1 : (0 : Int) ≤ 0 ∧ (0 : Int) ≤ (ss.size : Int) ∧ (ss.size : Int) ≤ (bs.size : Int)) (h2 : (!(bs.extract (Int.toNat 0) ((ss.size : Int)).toNat).toList == ss.toList) = false) (h3 : (0 : Int) ≤ (ss.size : Int) ∧ (ss.size : Int) ≤ (bs.size : Int) ∧ (bs.size : Int) ≤ (bs.size : Int)) : Does cE 149 [] 0 [.v (st bs), .v (st ss)] (.v (.tuple #[(.string (bs.extract ((ss.size : Int)).toNat ((bs.size : Int)).toNat)), (.bool (true))])) [] 0 :=
  does_path (ct := ct) ctOk mixed (fn := Tryz.f149) rfl (by kernel_rfl) 2000 [.e, .e, .t, .t, .t, .t, .t, .t, .t, .f] (by kernel_rfl) (cj h0 (cj h0 (cj h0 (cj h0 (cj h1 (cj h0 (cj h0 (cj h0 (cj h2 (cj h3 cj0))))))))))
theorem cutp_3 (bs ss : ByteArray) (h0 : decide ((bs.size : Int) ≥ (ss.size : Int)) = false) : Does cE 149 [] 0 [.v (st bs), .v (st ss)] (.v (.tuple #[(.string (bs)), (.bool (false))])) [] 0 :=
  does_path (ct := ct) ctOk mixed (fn := Tryz.f149) rfl (by kernel_rfl) 2000 [.e, .e, .f, .f, .f, .f, .f, .f, .f, .l] (by kernel_rfl) (cj h0 (cj h0 (cj h0 (cj h0 (cj h0 (cj h0 (cj h0 cj0)))))))
theorem scut_1 (bs ss : ByteArray) (s0 : ByteArray) (s1 : ByteArray) (b2 : Bool) (h0 : Does cE 177 [] 0 [.v (.string (bs)), .v (.string (ss))] (.v (.tuple #[(.string (s0)), (.string (s1)), (.bool (b2))])) [] 0) : Does cE 147 [] 0 [.v (st bs), .v (st ss)] (.v (.tuple #[(.string (s0)), (.string (s1)), (.bool (b2))])) [] 0 :=
  does_path (ct := ct) ctOk mixed (fn := Tryz.f147) rfl (by kernel_rfl) 2000 [.c (.v (.tuple #[(.string (s0)), (.string (s1)), (.bool (b2))])) [] 0] (by kernel_rfl) (cj h0 cj0)
theorem lcut_1 (bs ss : ByteArray) (i0 : Int) (h0 : Does cE 185 [] 0 [.v (.string (bs)), .v (.string (ss))] (.v (.int .i64 (i0))) [] 0) (h1 : decide (i0 ≥ 0) = true) (h2 : (0 : Int) ≤ 0 ∧ (0 : Int) ≤ i0 ∧ i0 ≤ (bs.size : Int)) (h3 : (0 : Int) ≤ IntKind.i64.wrap (i0 + (ss.size : Int)) ∧ IntKind.i64.wrap (i0 + (ss.size : Int)) ≤ (bs.size : Int) ∧ (bs.size : Int) ≤ (bs.size : Int)) : Does cE 177 [] 0 [.v (st bs), .v (st ss)] (.v (.tuple #[(.string (bs.extract (Int.toNat 0) i0.toNat)), (.string (bs.extract (IntKind.i64.wrap (i0 + (ss.size : Int))).toNat ((bs.size : Int)).toNat)), (.bool (true))])) [] 0 :=
  does_path (ct := ct) ctOk mixed (fn := Tryz.f177) rfl (by kernel_rfl) 2000 [.c (.v (.int .i64 (i0))) [] 0, .t] (by kernel_rfl) (cj h0 (cj h1 (cj h2 (cj h3 cj0))))
theorem lcut_2 (bs ss : ByteArray) (i0 : Int) (h0 : Does cE 185 [] 0 [.v (.string (bs)), .v (.string (ss))] (.v (.int .i64 (i0))) [] 0) (h1 : decide (i0 ≥ 0) = false) : Does cE 177 [] 0 [.v (st bs), .v (st ss)] (.v (.tuple #[(.string (bs)), (.string ((ByteArray.mk #[]))), (.bool (false))])) [] 0 :=
  does_path (ct := ct) ctOk mixed (fn := Tryz.f177) rfl (by kernel_rfl) 2000 [.c (.v (.int .i64 (i0))) [] 0, .f] (by kernel_rfl) (cj h0 (cj h1 cj0))
theorem rpa_1 (u sc : Int) (b0 : Bool) (h0 : Does cE 111 [] 0 [.v (.agg #[(.int .i64 (u)), (.int .i64 (sc))])] (.v (.bool (b0))) [] 0) (h1 : (!b0) = true) : Fin cE Tryz.f55 0 (.v (.string ((ByteArray.mk #[])))) [] 0 [.code (bd Tryz.f55)] (argsS [.v (dc u sc)] Tryz.f55.ntmps) [] 0 :=
  seg_fin (keep := [1, 2, 4, 5]) (ct := ct) ctOk mixed (by decide) 2000 [.c (.v (.bool (b0))) [] 0, .t] (by kernel_rfl) (cj h0 (cj h1 cj0))
theorem rpa_2 (u sc : Int) (b0 : Bool) (s1 : ByteArray) (res : SV) (T' : Tab cE) (n' : Nat) (h0 : Does cE 111 [] 0 [.v (.agg #[(.int .i64 (u)), (.int .i64 (sc))])] (.v (.bool (b0))) [] 0) (h1 : (!b0) = false) (h2 : decide (u < 0) = true) (h3 : Does cE 112 [] 0 [.v (.int .u64 (IntKind.u64.wrap (0 - IntKind.u64.wrap u)))] (.v (.string (s1))) [] 0) (hF : Fin cE Tryz.f55 0 res T' n' rpK [.na, .p 0 0, .v (.string ((ByteArray.mk #[]))), .na, .v (.string ((ByteArray.mk #[45]))), .v (.string (s1)), .na, .na, .na, .na, .na, .na, .na, .na, .na, .na, .na, .na, .na, .na, .na, .na, .na, .na, .na, .na, .na, .na, .na, .na, .na, .na, .na, .na, .na, .na, .na, .na, .na, .na, .na, .na, .na, .na, .na, .na, .na, .na, .na, .na] [(0, .box 84 [.v (.int .i64 (u)), .v (.int .i64 (sc))])] 1) : Fin cE Tryz.f55 0 res T' n' [.code (bd Tryz.f55)] (argsS [.v (dc u sc)] Tryz.f55.ntmps) [] 0 :=
  seg_at (keep := [1, 2, 4, 5]) (ct := ct) ctOk mixed (by decide) 2000 [.c (.v (.bool (b0))) [] 0, .f, .t, .c (.v (.string (s1))) [] 0] (by kernel_rfl) (cj h0 (cj h1 (cj h2 (cj h3 cj0)))) hF
theorem rpa_3 (u sc : Int) (b0 : Bool) (s1 : ByteArray) (res : SV) (T' : Tab cE) (n' : Nat) (h0 : Does cE 111 [] 0 [.v (.agg #[(.int .i64 (u)), (.int .i64 (sc))])] (.v (.bool (b0))) [] 0) (h1 : (!b0) = false) (h2 : decide (u < 0) = false) (h3 : Does cE 112 [] 0 [.v (.int .u64 (IntKind.u64.wrap u))] (.v (.string (s1))) [] 0) (hF : Fin cE Tryz.f55 0 res T' n' rpK [.na, .p 0 0, .v (.string ((ByteArray.mk #[]))), .na, .v (.string ((ByteArray.mk #[]))), .v (.string (s1)), .na, .na, .na, .na, .na, .na, .na, .na, .na, .na, .na, .na, .na, .na, .na, .na, .na, .na, .na, .na, .na, .na, .na, .na, .na, .na, .na, .na, .na, .na, .na, .na, .na, .na, .na, .na, .na, .na, .na, .na, .na, .na, .na, .na] [(0, .box 84 [.v (.int .i64 (u)), .v (.int .i64 (sc))])] 1) : Fin cE Tryz.f55 0 res T' n' [.code (bd Tryz.f55)] (argsS [.v (dc u sc)] Tryz.f55.ntmps) [] 0 :=
  seg_at (keep := [1, 2, 4, 5]) (ct := ct) ctOk mixed (by decide) 2000 [.c (.v (.bool (b0))) [] 0, .f, .f, .c (.v (.string (s1))) [] 0] (by kernel_rfl) (cj h0 (cj h1 (cj h2 (cj h3 cj0)))) hF
theorem rpb_1 (u sc : Int) (ss sg : ByteArray) (m : Nat) (res : SV) (T' : Tab cE) (n' : Nat) (h0 : decide ((ss.size : Int) ≤ sc) = true) (h1 : (ByteArray.mk #[48]).size + ss.size ≤ 9223372036854775807) (hF : Fin cE Tryz.f55 0 res T' n' (inK rpK (m)) [.na, .p 0 0, .v (.string (ByteArray.empty)), .na, .v (.string (sg)), .v (.string ((ByteArray.mk #[48]) ++ ss)), .na, .na, .na, .na, .na, .na, .na, .na, .na, .na, .na, .na, .na, .na, .na, .na, .na, .na, .na, .na, .na, .na, .na, .na, .na, .na, .na, .na, .na, .na, .na, .na, .na, .na, .na, .na, .na, .na, .na, .na, .na, .na, .na, .na] [(0, .box 84 [.v (.int .i64 (u)), .v (.int .i64 (sc))])] 1) : Fin cE Tryz.f55 0 res T' n' (bodyK rpK m) ([.na, .p 0 0, .v (st ByteArray.empty), .na, .v (st sg), .v (st ss)] ++ List.replicate 44 .na) [(0, .box 84 [.v (it u), .v (it sc)])] 1 :=
  seg_at (keep := [1, 2, 4, 5]) (ct := ct) ctOk mixed (by decide) 2000 [.t] (by kernel_rfl) (cj h0 (cj h1 cj0)) hF
theorem rpb_2 (u sc : Int) (ss sg : ByteArray) (m : Nat) (h0 : decide ((ss.size : Int) ≤ sc) = false) (h1 : (sc == 0) = true) (h2 : sg.size + ss.size ≤ 9223372036854775807) : Fin cE Tryz.f55 0 (.v (.string (sg ++ ss))) [] 0 (bodyK rpK m) ([.na, .p 0 0, .v (st ByteArray.empty), .na, .v (st sg), .v (st ss)] ++ List.replicate 44 .na) [(0, .box 84 [.v (it u), .v (it sc)])] 1 :=
  seg_fin (keep := [1, 2, 4, 5]) (ct := ct) ctOk mixed (by decide) 2000 [.f, .t] (by kernel_rfl) (cj h0 (cj h1 (cj h2 cj0)))
theorem rpb_3 (u sc : Int) (ss sg : ByteArray) (m : Nat) (h0 : decide ((ss.size : Int) ≤ sc) = false) (h1 : (sc == 0) = false) (h2 : (0 : Int) ≤ 0 ∧ (0 : Int) ≤ IntKind.i64.wrap ((ss.size : Int) - sc) ∧ IntKind.i64.wrap ((ss.size : Int) - sc) ≤ (ss.size : Int)) (h3 : sg.size + (ss.extract (Int.toNat 0) (IntKind.i64.wrap ((ss.size : Int) - sc)).toNat).size ≤ 9223372036854775807) (h4 : (sg ++ ss.extract (Int.toNat 0) (IntKind.i64.wrap ((ss.size : Int) - sc)).toNat).size + (ByteArray.mk #[46]).size ≤ 9223372036854775807) (h5 : (0 : Int) ≤ IntKind.i64.wrap ((ss.size : Int) - sc) ∧ IntKind.i64.wrap ((ss.size : Int) - sc) ≤ (ss.size : Int) ∧ (ss.size : Int) ≤ (ss.size : Int)) (h6 : (sg ++ ss.extract (Int.toNat 0) (IntKind.i64.wrap ((ss.size : Int) - sc)).toNat ++ (ByteArray.mk #[46])).size + (ss.extract (IntKind.i64.wrap ((ss.size : Int) - sc)).toNat ((ss.size : Int)).toNat).size ≤ 9223372036854775807) : Fin cE Tryz.f55 0 (.v (.string (sg ++ ss.extract (Int.toNat 0) (IntKind.i64.wrap ((ss.size : Int) - sc)).toNat ++ (ByteArray.mk #[46]) ++ ss.extract (IntKind.i64.wrap ((ss.size : Int) - sc)).toNat ((ss.size : Int)).toNat))) [] 0 (bodyK rpK m) ([.na, .p 0 0, .v (st ByteArray.empty), .na, .v (st sg), .v (st ss)] ++ List.replicate 44 .na) [(0, .box 84 [.v (it u), .v (it sc)])] 1 :=
  seg_fin (keep := [1, 2, 4, 5]) (ct := ct) ctOk mixed (by decide) 2000 [.f, .f] (by kernel_rfl) (cj h0 (cj h1 (cj h2 (cj h3 (cj h4 (cj h5 (cj h6 cj0)))))))
theorem dga_1 (u : Int) (res : SV) (T' : Tab cE) (n' : Nat) (hF : Fin cE Tryz.f112 0 res T' n' dgK [.v (.int .u64 (u)), .na, .na, .v (.string ((ByteArray.mk #[]))), .na, .na, .na, .na, .na, .na, .na, .na, .na, .na, .na, .na, .na, .na, .na, .na, .na, .na, .na] [] 0) : Fin cE Tryz.f112 0 res T' n' [.code (bd Tryz.f112)] (argsS [.v (iu u)] Tryz.f112.ntmps) [] 0 :=
  seg_at (keep := [0, 3]) (ct := ct) ctOk mixed (by decide) 2000 [] (by kernel_rfl) cj0 hF
theorem dgb_1 (u : Int) (ss : ByteArray) (m : Nat) (res : SV) (T' : Tab cE) (n' : Nat) (h0 : decide (u > 9) = true) (h1 : (bytesOf [IntKind.u8.wrap (IntKind.u64.wrap (48 + u.tmod 10))]).size + ss.size ≤ 9223372036854775807) (hF : Fin cE Tryz.f112 0 res T' n' (inK dgK (m)) [.v (.int .u64 (IntKind.u64.wrap (u.tdiv 10))), .na, .na, .v (.string (bytesOf [IntKind.u8.wrap (IntKind.u64.wrap (48 + u.tmod 10))] ++ ss)), .na, .na, .na, .na, .na, .na, .na, .na, .na, .na, .na, .na, .na, .na, .na, .na, .na, .na, .na] [] 0) : Fin cE Tryz.f112 0 res T' n' (bodyK dgK m) ([.v (iu u), .na, .na, .v (st ss)] ++ List.replicate 19 .na) [] 0 :=
  seg_at (keep := [0, 3]) (ct := ct) ctOk mixed (by decide) 2000 [.t, .l, .l] (by kernel_rfl) (cj h0 (cj h1 cj0)) hF
theorem dgb_2 (u : Int) (ss : ByteArray) (m : Nat) (h0 : decide (u > 9) = false) (h1 : (bytesOf [IntKind.u8.wrap (IntKind.u64.wrap (48 + u))]).size + ss.size ≤ 9223372036854775807) : Fin cE Tryz.f112 0 (.v (.string (bytesOf [IntKind.u8.wrap (IntKind.u64.wrap (48 + u))] ++ ss))) [] 0 (bodyK dgK m) ([.v (iu u), .na, .na, .v (st ss)] ++ List.replicate 19 .na) [] 0 :=
  seg_fin (keep := [0, 3]) (ct := ct) ctOk mixed (by decide) 2000 [.f] (by kernel_rfl) (cj h0 (cj h1 cj0))
end Go.Proofs.YtpfignfgfhbblaaGreatDoorC
/- The text of a decimal and the decimal of a text, in lists of bytes; what is printed is read again, and what is read is printed again. -/
namespace Go.Proofs.YtpfignfgfhbblaaGreatDoorC
open Go.Lib
/-- A decimal's text. -/
def padL (u sc : Int) : List UInt8 := List.replicate (sc.toNat + 1 - (decDigits u.natAbs).length) 48 ++ decDigits u.natAbs
def dotL (s : List UInt8) (sc : Int) : List UInt8 := if sc = 0 then s else s.take (s.length - sc.toNat) ++ 46 :: s.drop (s.length - sc.toNat)
def printL (u sc : Int) : List UInt8 := if 0 ≤ sc ∧ sc ≤ 6 then (if u < 0 then 45 :: dotL (padL u sc) sc else dotL (padL u sc) sc) else []
def isD (c : UInt8) : Bool := decide (48 ≤ c.toNat ∧ c.toNat ≤ 57)
def valD (a : Nat) (l : List UInt8) : Nat := l.foldl (fun n c => 10 * n + (c.toNat - 48)) a
/-- What stands before the first point, what behind it. -/
def spD : List UInt8 → List UInt8 × Option (List UInt8)
  | [] => ([], none)
  | c :: r => if c = 46 then ([], some r) else (c :: (spD r).1, (spD r).2)
def sgn : List UInt8 → Bool
  | c :: _ => c == 45
  | [] => false
def bodyL (s : List UInt8) : List UInt8 := if sgn s then s.drop 1 else s
def parseB (neg : Bool) (w : List UInt8) (p : Option (List UInt8)) : Int × Int × Int :=
  if w = [] ∨ p = some [] ∨ 6 < (p.getD []).length ∨ (1 < w.length ∧ w.head? = some 48) ∨ (w ++ p.getD []).all isD = false then (0, 0, 21)
  else if neg = true ∧ valD 0 (w ++ p.getD []) = 0 then (0, 0, 21)
  else if neg = true then (if valD 0 (w ++ p.getD []) ≤ 9223372036854775808 then (-(valD 0 (w ++ p.getD []) : Int), ((p.getD []).length : Int), 0) else (0, 0, 32))
  else if valD 0 (w ++ p.getD []) < 9223372036854775808 then ((valD 0 (w ++ p.getD []) : Int), ((p.getD []).length : Int), 0) else (0, 0, 32)
def parseL (s : List UInt8) : Int × Int × Int := parseB (sgn s) (spD (bodyL s)).1 (spD (bodyL s)).2

theorem valD_app (a : Nat) (l r : List UInt8) : valD a (l ++ r) = valD (valD a l) r := by simp [valD]
theorem valD_snoc (a : Nat) (l : List UInt8) (c : UInt8) : valD a (l ++ [c]) = 10 * valD a l + (c.toNat - 48) := by simp [valD]
theorem valD_zeros : ∀ k, valD 0 (List.replicate k 48) = 0
  | 0 => rfl
  | k + 1 => by
    rw [List.replicate_succ', valD_snoc, valD_zeros k]
    rfl
theorem ofNat_toNat {d : Nat} (h : d < 10) : (UInt8.ofNat (48 + d)).toNat = 48 + d := by
  rw [UInt8.toNat_ofNat']
  omega
theorem isD_ofNat {d : Nat} (h : d < 10) : isD (UInt8.ofNat (48 + d)) = true := by
  unfold isD
  rw [ofNat_toNat h]
  simp
  omega
theorem dec_small {u : Nat} (h : u < 10) : decDigits u = [UInt8.ofNat (48 + u)] := by rw [decDigits, dif_pos h]
theorem dec_big {u : Nat} (h : ¬ u < 10) : decDigits u = decDigits (u / 10) ++ [UInt8.ofNat (48 + u % 10)] := by rw [decDigits, dif_neg h]
theorem dec_all (u : Nat) : (decDigits u).all isD = true := by
  induction u using Nat.strongRecOn with
  | _ u ih =>
    by_cases h : u < 10
    · rw [dec_small h, List.all_cons, isD_ofNat h]
      rfl
    · rw [dec_big h, List.all_append, ih (u / 10) (by omega), List.all_cons, isD_ofNat (Nat.mod_lt u (by decide : 10 > 0))]
      rfl
theorem dec_val (u : Nat) : valD 0 (decDigits u) = u := by
  induction u using Nat.strongRecOn with
  | _ u ih =>
    by_cases h : u < 10
    · rw [dec_small h]
      simp only [valD, List.foldl_cons, List.foldl_nil, ofNat_toNat h]
      omega
    · rw [dec_big h, valD_snoc, ih (u / 10) (by omega), ofNat_toNat (Nat.mod_lt u (by decide))]
      omega
theorem dec_ne (u : Nat) : decDigits u ≠ [] := by
  intro h
  have := decDigits_length u
  rw [h] at this
  have := nDigits_pos u
  simp at *
  omega
theorem head_app {l r : List UInt8} (h : l ≠ []) : (l ++ r).head? = l.head? := by
  cases l with
  | nil => exact (h rfl).elim
  | cons a l => rfl
theorem dec_head (u : Nat) (h : 10 ≤ u) : (decDigits u).head? ≠ some 48 := by
  induction u using Nat.strongRecOn with
  | _ u ih =>
    rw [dec_big (by omega)]
    have hne := dec_ne (u / 10)
    rw [head_app hne]
    by_cases h2 : u / 10 < 10
    · rw [dec_small h2]
      simp only [List.head?_cons, ne_eq, Option.some.injEq]
      intro e
      have := congrArg UInt8.toNat e
      rw [ofNat_toNat h2] at this
      have e48 : (48 : UInt8).toNat = 48 := rfl
      omega
    · exact ih (u / 10) (by omega) (by omega)
theorem sp_digits : ∀ (w : List UInt8), w.all isD = true → spD w = (w, none)
  | [], _ => rfl
  | c :: r, h => by
    simp only [List.all_cons, Bool.and_eq_true] at h
    have hc : c ≠ 46 := by
      intro e
      subst e
      exact absurd h.1 (by decide)
    rw [spD, if_neg hc, sp_digits r h.2]
theorem sp_dot : ∀ (w p : List UInt8), w.all isD = true → spD (w ++ 46 :: p) = (w, some p)
  | [], p, _ => by simp [spD]
  | c :: r, p, h => by
    simp only [List.all_cons, Bool.and_eq_true] at h
    have hc : c ≠ 46 := by
      intro e
      subst e
      exact absurd h.1 (by decide)
    rw [List.cons_append, spD, if_neg hc, sp_dot r p h.2]
theorem sp_back : ∀ (l : List UInt8), l = (spD l).1 ++ (match (spD l).2 with | none => [] | some p => 46 :: p)
  | [] => rfl
  | c :: r => by
    rw [spD]
    by_cases h : c = 46
    · rw [if_pos h, h]
      rfl
    · rw [if_neg h]
      show c :: r = c :: ((spD r).1 ++ _)
      rw [← sp_back r]
theorem all_rep (k : Nat) : (List.replicate k (48 : UInt8)).all isD = true := by
  rw [List.all_eq_true]
  intro x hx
  rw [(List.mem_replicate.1 hx).2]
  rfl
theorem pad_all (u sc : Int) : (padL u sc).all isD = true := by
  unfold padL
  rw [List.all_append, all_rep, dec_all]
  rfl
theorem pad_val (u sc : Int) : valD 0 (padL u sc) = u.natAbs := by
  unfold padL
  rw [valD_app, valD_zeros, dec_val]
theorem pad_len (u sc : Int) : (padL u sc).length = max (sc.toNat + 1) (decDigits u.natAbs).length := by
  unfold padL
  rw [List.length_append, List.length_replicate]
  omega
theorem sgn_digits {l : List UInt8} (h : l.all isD = true) : sgn l = false := by
  cases l with
  | nil => rfl
  | cons c r =>
    simp only [List.all_cons, Bool.and_eq_true] at h
    have hc : c ≠ 45 := by
      intro e
      subst e
      exact absurd h.1 (by decide)
    simp [sgn, hc]
/-- The two parts of a printed number. -/
theorem dot_parts (u sc : Int) (h0 : 0 ≤ sc) : ∃ w p, spD (dotL (padL u sc) sc) = (w, p) ∧ w ++ p.getD [] = padL u sc ∧ (p.getD []).length = sc.toNat ∧ w.length = (padL u sc).length - sc.toNat ∧ p ≠ some [] ∧ sgn (dotL (padL u sc) sc) = false := by
  have hall := pad_all u sc
  have hl := pad_len u sc
  by_cases hz : sc = 0
  · refine ⟨padL u sc, none, ?_, by simp, by simp [hz], by simp [hz], by simp, ?_⟩
    · unfold dotL
      rw [if_pos hz, sp_digits _ hall]
    · unfold dotL
      rw [if_pos hz, sgn_digits hall]
  · have hp : ((padL u sc).drop ((padL u sc).length - sc.toNat)).length = sc.toNat := by
      rw [List.length_drop]
      omega
    have htd := List.take_append_drop ((padL u sc).length - sc.toNat) (padL u sc)
    have hw : ((padL u sc).take ((padL u sc).length - sc.toNat)).all isD = true := by
      rw [← htd, List.all_append, Bool.and_eq_true] at hall
      exact hall.1
    refine ⟨(padL u sc).take ((padL u sc).length - sc.toNat), some ((padL u sc).drop ((padL u sc).length - sc.toNat)), ?_, by simp, by simpa using hp, by rw [List.length_take]; omega, ?_, ?_⟩
    · unfold dotL
      rw [if_neg hz, sp_dot _ _ hw]
    · intro e
      simp only [Option.some.injEq] at e
      rw [e] at hp
      simp at hp
      omega
    · unfold dotL
      rw [if_neg hz]
      cases hx : (padL u sc).take ((padL u sc).length - sc.toNat) with
      | nil => rfl
      | cons c r =>
        rw [hx] at hw
        exact sgn_digits (l := c :: r) hw
/-- What is printed is read as it was. -/
theorem parse_print (u sc : Int) (h0 : 0 ≤ sc) (h6 : sc ≤ 6) (hu : -9223372036854775808 ≤ u) (hu2 : u < 9223372036854775808) : parseL (printL u sc) = (u, sc, 0) := by
  obtain ⟨w, p, e1, e2, e3, e4, e5, e6⟩ := dot_parts u sc h0
  have hl := pad_len u sc
  have hbody : bodyL (printL u sc) = dotL (padL u sc) sc ∧ sgn (printL u sc) = decide (u < 0) := by
    have hp : printL u sc = if u < 0 then 45 :: dotL (padL u sc) sc else dotL (padL u sc) sc := by
      unfold printL
      rw [if_pos ⟨h0, h6⟩]
    rw [hp]
    unfold bodyL
    by_cases hn : u < 0
    · rw [if_pos hn]
      simp [sgn, hn]
    · rw [if_neg hn, e6]
      simp [hn]
  unfold parseL
  rw [hbody.1, hbody.2, e1]
  simp only
  unfold parseB
  rw [e2, pad_val, pad_all]
  have hw : w ≠ [] := by
    intro e
    rw [e] at e4
    simp at e4
    omega
  have hlead : ¬ (1 < w.length ∧ w.head? = some 48) := by
    rintro ⟨a1, a2⟩
    have hlen : (decDigits u.natAbs).length > sc.toNat + 1 := by omega
    have hpad : padL u sc = decDigits u.natAbs := by
      unfold padL
      have : sc.toNat + 1 - (decDigits u.natAbs).length = 0 := by omega
      rw [this]
      rfl
    have hbig : 10 ≤ u.natAbs := by
      by_cases h : u.natAbs < 10
      · rw [dec_small h] at hlen
        simp at hlen
      · omega
    have := dec_head _ hbig
    rw [← hpad, ← e2, head_app hw] at this
    exact this a2
  have hbad : ¬ (w = [] ∨ p = some [] ∨ 6 < (p.getD []).length ∨ (1 < w.length ∧ w.head? = some 48) ∨ true = false) := by
    rintro (h | h | h | h | h)
    · exact hw h
    · exact e5 h
    · rw [e3] at h; omega
    · exact hlead h
    · cases h
  rw [if_neg hbad]
  by_cases hn : u < 0
  · have : ¬ (decide (u < 0) = true ∧ u.natAbs = 0) := by rintro ⟨_, h⟩; omega
    rw [if_neg this, if_pos (by simpa using hn), if_pos (by omega), e3]
    simp only [Prod.mk.injEq, and_true]
    omega
  · have : ¬ (decide (u < 0) = true ∧ u.natAbs = 0) := by rintro ⟨h, _⟩; exact hn (by simpa using h)
    rw [if_neg this, if_neg (by simpa using hn), if_pos (by omega), e3]
    simp only [Prod.mk.injEq, and_true]
    omega
end Go.Proofs.YtpfignfgfhbblaaGreatDoorC
