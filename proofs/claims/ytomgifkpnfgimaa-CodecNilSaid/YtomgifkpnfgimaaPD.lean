import Derived.Test.YtomgifkpnfgimaaPA
/- Each path of each function: on which conditions it is taken, what it gives. Printed by a program (wip/tools/sxexp2.lean); Lean checks each. -/
namespace Go.Proofs.YtomgifkpnfgimaaC
open Go.Proofs Go.Proofs.YtomgifkpnfgimaaSx
set_option maxRecDepth 100000
set_option linter.unusedVariables false
noncomputable def nilK : List It := startK Try.f7 [] [] 0 []

theorem nil0_1  (res : SV) (T' : Tab cE) (n' : Nat) (hF : Fin cE Try.f7 0 res T' n' nilK [.v (.bool (false)), .v (.pointer (none)), .v (.int .i64 (0)), .na, .na, .na, .na, .na, .na, .na, .na, .na, .na, .na, .na, .na, .na, .na, .na, .na, .na, .na, .na, .na, .na, .na, .na, .na, .na, .na, .na, .na, .na, .na, .na] [] 0) : Fin cE Try.f7 0 res T' n' [.code (bd Try.f7)] (argsS [] Try.f7.ntmps) [] 0 :=
  seg_at (keep := [0, 1, 2]) (ct := ct) ctOk mixed (by decide) 2000 [] (by kernel_rfl) cj0 hF
theorem e24_1  : Does cE 24 [] 0 [.v (.pointer none)] (.v (.string ((ByteArray.mk #[])))) [] 0 :=
  does_path (ct := ct) ctOk mixed (fn := Try.f24) rfl (by kernel_rfl) 2000 ([.e, .l, .l, .l, .l, .l, .l, .l] ++ [.l]) (by kernel_rfl) cj0
theorem e23_1  : Does cE 23 [] 0 [.v (.pointer none)] (.v (.int .i64 (0))) [] 0 :=
  does_path (ct := ct) ctOk mixed (fn := Try.f23) rfl (by kernel_rfl) 2000 ([.e, .l, .l, .l, .l, .l, .l, .l] ++ [.l]) (by kernel_rfl) cj0
theorem e27_1  : Does cE 27 [] 0 [.v (.pointer none)] (.v (.int .i64 (1))) [] 0 :=
  does_path (ct := ct) ctOk mixed (fn := Try.f27) rfl (by kernel_rfl) 2000 [.l, .l, .l, .l, .l, .l, .l, .l] (by kernel_rfl) cj0
theorem e26_1  : Does cE 26 [] 0 [.v (.pointer none)] (.v (.int .i64 (0))) [] 0 :=
  does_path (ct := ct) ctOk mixed (fn := Try.f26) rfl (by kernel_rfl) 2000 [.l] (by kernel_rfl) cj0
theorem e25_1  : Does cE 25 [] 0 [.v (.pointer none)] (.v (.int .i64 (1))) [] 0 :=
  does_path (ct := ct) ctOk mixed (fn := Try.f25) rfl (by kernel_rfl) 2000 [.e, .l, .l, .l, .l, .l, .l, .l, .l, .l, .l, .l, .l, .l, .l, .l, .l] (by kernel_rfl) cj0
theorem nil1_6 (m : Nat) (i0 : Int) (s1 : ByteArray) (i2 : Int) (i3 : Int) (i4 : Int) (res : SV) (T' : Tab cE) (n' : Nat) (h0 : Does cE 23 [] 0 [.v (.pointer (none))] (.v (.int .i64 (i0))) [] 0) (h1 : (i0 != 0) = false) (h2 : Does cE 24 [] 0 [.v (.pointer (none))] (.v (.string (s1))) [] 0) (h3 : (!s1.toList == (ByteArray.mk #[]).toList) = false) (h4 : Does cE 26 [] 0 [.v (.pointer (none))] (.v (.int .i64 (i2))) [] 0) (h5 : (i2 != 0) = false) (h6 : Does cE 27 [] 0 [.v (.pointer (none))] (.v (.int .i64 (i3))) [] 0) (h7 : (i3 != 1) = false) (h8 : Does cE 25 [] 0 [.v (.pointer (none))] (.v (.int .i64 (i4))) [] 0) (h9 : (i4 != 1) = false) (hF : Fin cE Try.f7 0 res T' n' (inK nilK (m)) [.v (.bool (false)), .p 0 0, .v (.int .i64 (IntKind.i64.wrap (0 + 1))), .na, .na, .na, .na, .na, .na, .na, .na, .na, .na, .na, .na, .na, .na, .na, .na, .na, .na, .na, .na, .na, .na, .na, .na, .na, .na, .na, .na, .na, .na, .na, .na] [(0, .box 50 [.v (.slice (none) (0) (0)), .v (.bool (false)), .v (.int .i64 (0))])] 1) : Fin cE Try.f7 0 res T' n' (bodyK nilK m) ([.v (.bool false), .v (.pointer none), .v (it 0)] ++ List.replicate 32 .na) [] 0 :=
  seg_at (keep := [0, 1, 2]) (ct := ct) ctOk mixed (by decide) 2000 [.l, .c (.v (.int .i64 (i0))) [] 0, .f, .f, .c (.v (.string (s1))) [] 0, .f, .f, .f, .f, .c (.v (.int .i64 (i2))) [] 0, .f, .f, .f, .f, .c (.v (.int .i64 (i3))) [] 0, .f, .e, .f, .f, .f, .f, .c (.v (.int .i64 (i4))) [] 0, .f, .e, .f, .f, .f] (by kernel_rfl) (cj h0 (cj h1 (cj h1 (cj h2 (cj h1 (cj h1 (cj h3 (cj h3 (cj h4 (cj h3 (cj h3 (cj h5 (cj h5 (cj h6 (cj h5 (cj h5 (cj h5 (cj h7 (cj h7 (cj h8 (cj h7 (cj h7 (cj h7 (cj h9 cj0)))))))))))))))))))))))) hF
theorem nil2_1 (m : Nat) (res : SV) (T' : Tab cE) (n' : Nat) (hF : Fin cE Try.f7 0 res T' n' (inK nilK (m)) [.v (.bool (false)), .p 0 0, .v (.int .i64 (IntKind.i64.wrap (1 + 1))), .na, .na, .na, .na, .na, .na, .na, .na, .na, .na, .na, .na, .na, .na, .na, .na, .na, .na, .na, .na, .na, .na, .na, .na, .na, .na, .na, .na, .na, .na, .na, .na] [(0, .box 50 [.v (.slice (none) (0) (0)), .v (.bool (false)), .v (.int .i64 (0))])] 1) : Fin cE Try.f7 0 res T' n' (bodyK nilK m) ([.v (.bool false), .p 0 0, .v (it 1)] ++ List.replicate 32 .na) [(0, .box 50 [.v nilS, .v (.bool false), .v (it 0)])] 1 :=
  seg_at (keep := [0, 1, 2]) (ct := ct) ctOk mixed (by decide) 2000 [.l, .e, .e, .l, .l, .l, .l, .l, .l, .l, .l, .l, .l, .e, .e, .l, .l, .l, .l, .l, .l, .l, .l, .l, .l, .l, .l, .e, .l, .l, .l, .l, .l, .e, .l, .l, .l, .l, .l, .l, .l, .l, .l, .e, .l, .l, .l, .l, .e, .e, .l, .l, .l, .l, .l, .l, .l, .l, .l, .l, .l, .l, .l, .l, .l, .l, .l, .e, .l, .l, .l] (by kernel_rfl) cj0 hF
theorem nil3_1 (m : Nat) (b0 : Bool) (h0 : Does cE 21 [] 0 [] (.v (.bool (b0))) [] 0) : Fin cE Try.f7 0 (.v (.bool (b0))) [] 0 (bodyK nilK m) ([.v (.bool false), .p 0 0, .v (it 2)] ++ List.replicate 32 .na) [(0, .box 50 [.v nilS, .v (.bool false), .v (it 0)])] 1 :=
  seg_fin (keep := [0, 1, 2]) (ct := ct) ctOk mixed (by decide) 2000 [.l, .c (.v (.bool (b0))) [] 0] (by kernel_rfl) (cj h0 cj0)
end Go.Proofs.YtomgifkpnfgimaaC
