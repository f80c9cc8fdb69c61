import Derived.Test.YtnchjdhepakokaaGreatDoorOs05
/- Each path of each function: on which conditions it is taken, what it gives. Printed by a program (wip/tools/sxexp2.lean); Lean checks each. -/
namespace Go.Proofs.YtnchjdhepakokaaGreatDoorC
open Go.Proofs Go.Proofs.YtnchjdhepakokaaGreatDoorSx
set_option maxRecDepth 100000
set_option linter.unusedVariables false
abbrev wv (l : List Int) (s : Bool) : Value := .agg #[iu (l.getD 0 0), iu (l.getD 1 0), iu (l.getD 2 0), iu (l.getD 3 0), iu (l.getD 4 0), iu (l.getD 5 0), .bool s]
abbrev wc (l : List Int) (s : Bool) : List SV := [.v (iu (l.getD 0 0)), .v (iu (l.getD 1 0)), .v (iu (l.getD 2 0)), .v (iu (l.getD 3 0)), .v (iu (l.getD 4 0)), .v (iu (l.getD 5 0)), .v (.bool s)]
abbrev wT (a b o : List Int) (s t u : Bool) : Tab cE := [(0, .box 182 (wc a s)), (1, .box 182 (wc b t)), (2, .box 182 [.v (iu 0), .v (iu 0), .v (iu 0), .v (iu 0), .v (iu 0), .v (iu 0), .v (.bool false)]), (3, .box 182 (wc o u))]
noncomputable def plK : List It := stackAt [1, 1, 1, 0, 1, 0] (bd Tryz.f190) [] []
noncomputable def miK : List It := stackAt [1, 1, 1, 0, 1, 0] (bd Tryz.f241) [] []
noncomputable def leK : List It := stackAt [1, 0, 1, 0] (bd Tryz.f218) [] []
noncomputable def tmK : List It := stackAt [1, 1, 0, 1, 0] (bd Tryz.f191) [] []
noncomputable def tnK (m : Nat) : List It := stackAt [1, 1, 0, 1, 0, 0, 1, 0, 0, 1, 1, 0] (bd Tryz.f191) [m] []
noncomputable def paK : List It := stackAt [1, 1, 1, 0, 1, 0] (bd Tryz.f217) [] []
noncomputable def zeK : List It := stackAt [1, 0, 1, 0] (bd Tryz.f180) [] []
noncomputable def byK : List It := stackAt [1, 1, 0, 1, 0] (bd Tryz.f216) [] []
noncomputable def poK : List It := stackAt [1, 1, 0, 1, 0] (bd Tryz.f146) [] []
noncomputable def scK1 : List It := stackAt [1, 0, 1, 0] (bd Tryz.f173) [] []
noncomputable def orK : List It := stackAt [1, 1, 0, 1, 0] (bd Tryz.f120) [] []
noncomputable def baK : List It := stackAt [1, 0, 1, 0] (bd Tryz.f156) [] []
abbrev ps4 : List SV := [.na, .na, .p 0 0, .p 1 0, .p 2 0, .p 3 0]

theorem pla_1 (a b : List Int) (s t : Bool) (res : SV) (T' : Tab cE) (n' : Nat) (hF : Fin cE Tryz.f190 0 res T' n' plK [.na, .na, .p 0 0, .p 1 0, .p 2 0, .p 3 0, .v (.int .u64 (0)), .v (.int .i64 (0)), .na, .na, .na, .na, .na, .na, .na, .na, .na, .na, .na, .na, .na, .na, .na, .na, .na, .na, .na, .na, .na, .na, .na, .na] [(0, .box 182 [.v (.int .u64 (a.getD 0 0)), .v (.int .u64 (a.getD 1 0)), .v (.int .u64 (a.getD 2 0)), .v (.int .u64 (a.getD 3 0)), .v (.int .u64 (a.getD 4 0)), .v (.int .u64 (a.getD 5 0)), .v (.bool (s))]), (1, .box 182 [.v (.int .u64 (b.getD 0 0)), .v (.int .u64 (b.getD 1 0)), .v (.int .u64 (b.getD 2 0)), .v (.int .u64 (b.getD 3 0)), .v (.int .u64 (b.getD 4 0)), .v (.int .u64 (b.getD 5 0)), .v (.bool (t))]), (2, .box 182 [.v (.int .u64 (0)), .v (.int .u64 (0)), .v (.int .u64 (0)), .v (.int .u64 (0)), .v (.int .u64 (0)), .v (.int .u64 (0)), .v (.bool (false))]), (3, .box 182 [.v (.int .u64 (0)), .v (.int .u64 (0)), .v (.int .u64 (0)), .v (.int .u64 (0)), .v (.int .u64 (0)), .v (.int .u64 (0)), .v (.bool (false))])] 4) : Fin cE Tryz.f190 0 res T' n' [.code (bd Tryz.f190)] (argsS [.v (wv a s), .v (wv b t)] Tryz.f190.ntmps) [] 0 :=
  seg_at (keep := [2, 3, 4, 5, 6, 7]) (ct := ct) ctOk mixed (by decide) 2000 [] (by kernel_rfl) cj0 hF
theorem plb_1 (a b o : List Int) (s t : Bool) (c : Int) (i m : Nat) (res : SV) (T' : Tab cE) (n' : Nat) (h0 : decide ((i : Int) < 6) = true) (h1 : (0 : Int) ≤ (i : Int) ∧ (i : Int) < ((6 : Nat) : Int)) (h2 : i.succ.le (intPre IntKind.u64 (List.drop (0 + 0) (wc a s))).length) (h3 : i.succ.le (intPre IntKind.u64 (List.drop (0 + 0) (wc b t))).length) (h4 : i.succ.le (intPre IntKind.u64 (List.drop (0 + 0) (wc o false))).length) (hF : Fin cE Tryz.f190 0 res T' n' (inK plK (m)) [.na, .na, .p 0 0, .p 1 0, .p 2 0, .p 3 0, .v (.int .u64 (IntKind.u64.wrap ((IntKind.u64.wrap (IntKind.u64.wrap (c + (intPre IntKind.u64 (List.drop (0 + 0) (wc a s))).getD i 0) + (intPre IntKind.u64 (List.drop (0 + 0) (wc b t))).getD i 0)).tdiv 4294967296))), .v (.int .i64 (IntKind.i64.wrap ((i : Int) + 1))), .na, .na, .na, .na, .na, .na, .na, .na, .na, .na, .na, .na, .na, .na, .na, .na, .na, .na, .na, .na, .na, .na, .na, .na] [(0, .box 182 [.v (.int .u64 (a.getD 0 0)), .v (.int .u64 (a.getD 1 0)), .v (.int .u64 (a.getD 2 0)), .v (.int .u64 (a.getD 3 0)), .v (.int .u64 (a.getD 4 0)), .v (.int .u64 (a.getD 5 0)), .v (.bool (s))]), (1, .box 182 [.v (.int .u64 (b.getD 0 0)), .v (.int .u64 (b.getD 1 0)), .v (.int .u64 (b.getD 2 0)), .v (.int .u64 (b.getD 3 0)), .v (.int .u64 (b.getD 4 0)), .v (.int .u64 (b.getD 5 0)), .v (.bool (t))]), (2, .box 182 [.v (.int .u64 (0)), .v (.int .u64 (0)), .v (.int .u64 (0)), .v (.int .u64 (0)), .v (.int .u64 (0)), .v (.int .u64 (0)), .v (.bool (false))]), (3, .box 182 [.v (.int .u64 (((intPre IntKind.u64 (List.drop (0 + 0) (wc o false))).set i ((IntKind.u64.wrap (IntKind.u64.wrap (c + (intPre IntKind.u64 (List.drop (0 + 0) (wc a s))).getD i 0) + (intPre IntKind.u64 (List.drop (0 + 0) (wc b t))).getD i 0)).tmod 4294967296)).getD 0 0)), .v (.int .u64 (((intPre IntKind.u64 (List.drop (0 + 0) (wc o false))).set i ((IntKind.u64.wrap (IntKind.u64.wrap (c + (intPre IntKind.u64 (List.drop (0 + 0) (wc a s))).getD i 0) + (intPre IntKind.u64 (List.drop (0 + 0) (wc b t))).getD i 0)).tmod 4294967296)).getD 1 0)), .v (.int .u64 (((intPre IntKind.u64 (List.drop (0 + 0) (wc o false))).set i ((IntKind.u64.wrap (IntKind.u64.wrap (c + (intPre IntKind.u64 (List.drop (0 + 0) (wc a s))).getD i 0) + (intPre IntKind.u64 (List.drop (0 + 0) (wc b t))).getD i 0)).tmod 4294967296)).getD 2 0)), .v (.int .u64 (((intPre IntKind.u64 (List.drop (0 + 0) (wc o false))).set i ((IntKind.u64.wrap (IntKind.u64.wrap (c + (intPre IntKind.u64 (List.drop (0 + 0) (wc a s))).getD i 0) + (intPre IntKind.u64 (List.drop (0 + 0) (wc b t))).getD i 0)).tmod 4294967296)).getD 3 0)), .v (.int .u64 (((intPre IntKind.u64 (List.drop (0 + 0) (wc o false))).set i ((IntKind.u64.wrap (IntKind.u64.wrap (c + (intPre IntKind.u64 (List.drop (0 + 0) (wc a s))).getD i 0) + (intPre IntKind.u64 (List.drop (0 + 0) (wc b t))).getD i 0)).tmod 4294967296)).getD 4 0)), .v (.int .u64 (((intPre IntKind.u64 (List.drop (0 + 0) (wc o false))).set i ((IntKind.u64.wrap (IntKind.u64.wrap (c + (intPre IntKind.u64 (List.drop (0 + 0) (wc a s))).getD i 0) + (intPre IntKind.u64 (List.drop (0 + 0) (wc b t))).getD i 0)).tmod 4294967296)).getD 5 0)), .v (.bool (false))])] 4) : Fin cE Tryz.f190 0 res T' n' (bodyK plK m) (ps4 ++ [.v (iu c), .v (it i)] ++ List.replicate 24 .na) (wT a b o s t false) 4 :=
  seg_at (keep := [2, 3, 4, 5, 6, 7]) (ct := ct) ctOk mixed (by decide) 2000 [.t, .x, .x, .l, .x, .l] (by kernel_rfl) (cj h0 (cj h1 (cj h2 (cj h1 (cj h3 (cj h1 (cj h4 cj0))))))) hF
theorem plb_2 (a b o : List Int) (s t : Bool) (c : Int) (i m : Nat) (h0 : decide ((i : Int) < 6) = false) : Fin cE Tryz.f190 0 (.v (.agg #[(.int .u64 (o.getD 0 0)), (.int .u64 (o.getD 1 0)), (.int .u64 (o.getD 2 0)), (.int .u64 (o.getD 3 0)), (.int .u64 (o.getD 4 0)), (.int .u64 (o.getD 5 0)), (.bool (false))])) [] 0 (bodyK plK m) (ps4 ++ [.v (iu c), .v (it i)] ++ List.replicate 24 .na) (wT a b o s t false) 4 :=
  seg_fin (keep := [2, 3, 4, 5, 6, 7]) (ct := ct) ctOk mixed (by decide) 2000 [.f] (by kernel_rfl) (cj h0 cj0)
theorem mia_1 (a b : List Int) (s t : Bool) (res : SV) (T' : Tab cE) (n' : Nat) (hF : Fin cE Tryz.f241 0 res T' n' miK [.na, .na, .p 0 0, .p 1 0, .p 2 0, .p 3 0, .v (.int .u64 (0)), .v (.int .i64 (0)), .na, .na, .na, .na, .na, .na, .na, .na, .na, .na, .na, .na, .na, .na, .na, .na, .na, .na, .na, .na, .na, .na, .na, .na, .na, .na, .na] [(0, .box 182 [.v (.int .u64 (a.getD 0 0)), .v (.int .u64 (a.getD 1 0)), .v (.int .u64 (a.getD 2 0)), .v (.int .u64 (a.getD 3 0)), .v (.int .u64 (a.getD 4 0)), .v (.int .u64 (a.getD 5 0)), .v (.bool (s))]), (1, .box 182 [.v (.int .u64 (b.getD 0 0)), .v (.int .u64 (b.getD 1 0)), .v (.int .u64 (b.getD 2 0)), .v (.int .u64 (b.getD 3 0)), .v (.int .u64 (b.getD 4 0)), .v (.int .u64 (b.getD 5 0)), .v (.bool (t))]), (2, .box 182 [.v (.int .u64 (0)), .v (.int .u64 (0)), .v (.int .u64 (0)), .v (.int .u64 (0)), .v (.int .u64 (0)), .v (.int .u64 (0)), .v (.bool (false))]), (3, .box 182 [.v (.int .u64 (0)), .v (.int .u64 (0)), .v (.int .u64 (0)), .v (.int .u64 (0)), .v (.int .u64 (0)), .v (.int .u64 (0)), .v (.bool (false))])] 4) : Fin cE Tryz.f241 0 res T' n' [.code (bd Tryz.f241)] (argsS [.v (wv a s), .v (wv b t)] Tryz.f241.ntmps) [] 0 :=
  seg_at (keep := [2, 3, 4, 5, 6, 7]) (ct := ct) ctOk mixed (by decide) 2000 [] (by kernel_rfl) cj0 hF
theorem mib_1 (a b o : List Int) (s t : Bool) (c : Int) (i m : Nat) (res : SV) (T' : Tab cE) (n' : Nat) (h0 : decide ((i : Int) < 6) = true) (h1 : (0 : Int) ≤ (i : Int) ∧ (i : Int) < ((6 : Nat) : Int)) (h2 : i.succ.le (intPre IntKind.u64 (List.drop (0 + 0) (wc a s))).length) (h3 : i.succ.le (intPre IntKind.u64 (List.drop (0 + 0) (wc b t))).length) (h4 : i.succ.le (intPre IntKind.u64 (List.drop (0 + 0) (wc o false))).length) (hF : Fin cE Tryz.f241 0 res T' n' (inK miK (m)) [.na, .na, .p 0 0, .p 1 0, .p 2 0, .p 3 0, .v (.int .u64 (IntKind.u64.wrap (1 - IntKind.u64.wrap ((IntKind.u64.wrap (IntKind.u64.wrap (IntKind.u64.wrap ((intPre IntKind.u64 (List.drop (0 + 0) (wc a s))).getD i 0 + 4294967296) - (intPre IntKind.u64 (List.drop (0 + 0) (wc b t))).getD i 0) - c)).tdiv 4294967296)))), .v (.int .i64 (IntKind.i64.wrap ((i : Int) + 1))), .na, .na, .na, .na, .na, .na, .na, .na, .na, .na, .na, .na, .na, .na, .na, .na, .na, .na, .na, .na, .na, .na, .na, .na, .na, .na, .na] [(0, .box 182 [.v (.int .u64 (a.getD 0 0)), .v (.int .u64 (a.getD 1 0)), .v (.int .u64 (a.getD 2 0)), .v (.int .u64 (a.getD 3 0)), .v (.int .u64 (a.getD 4 0)), .v (.int .u64 (a.getD 5 0)), .v (.bool (s))]), (1, .box 182 [.v (.int .u64 (b.getD 0 0)), .v (.int .u64 (b.getD 1 0)), .v (.int .u64 (b.getD 2 0)), .v (.int .u64 (b.getD 3 0)), .v (.int .u64 (b.getD 4 0)), .v (.int .u64 (b.getD 5 0)), .v (.bool (t))]), (2, .box 182 [.v (.int .u64 (0)), .v (.int .u64 (0)), .v (.int .u64 (0)), .v (.int .u64 (0)), .v (.int .u64 (0)), .v (.int .u64 (0)), .v (.bool (false))]), (3, .box 182 [.v (.int .u64 (((intPre IntKind.u64 (List.drop (0 + 0) (wc o false))).set i ((IntKind.u64.wrap (IntKind.u64.wrap (IntKind.u64.wrap ((intPre IntKind.u64 (List.drop (0 + 0) (wc a s))).getD i 0 + 4294967296) - (intPre IntKind.u64 (List.drop (0 + 0) (wc b t))).getD i 0) - c)).tmod 4294967296)).getD 0 0)), .v (.int .u64 (((intPre IntKind.u64 (List.drop (0 + 0) (wc o false))).set i ((IntKind.u64.wrap (IntKind.u64.wrap (IntKind.u64.wrap ((intPre IntKind.u64 (List.drop (0 + 0) (wc a s))).getD i 0 + 4294967296) - (intPre IntKind.u64 (List.drop (0 + 0) (wc b t))).getD i 0) - c)).tmod 4294967296)).getD 1 0)), .v (.int .u64 (((intPre IntKind.u64 (List.drop (0 + 0) (wc o false))).set i ((IntKind.u64.wrap (IntKind.u64.wrap (IntKind.u64.wrap ((intPre IntKind.u64 (List.drop (0 + 0) (wc a s))).getD i 0 + 4294967296) - (intPre IntKind.u64 (List.drop (0 + 0) (wc b t))).getD i 0) - c)).tmod 4294967296)).getD 2 0)), .v (.int .u64 (((intPre IntKind.u64 (List.drop (0 + 0) (wc o false))).set i ((IntKind.u64.wrap (IntKind.u64.wrap (IntKind.u64.wrap ((intPre IntKind.u64 (List.drop (0 + 0) (wc a s))).getD i 0 + 4294967296) - (intPre IntKind.u64 (List.drop (0 + 0) (wc b t))).getD i 0) - c)).tmod 4294967296)).getD 3 0)), .v (.int .u64 (((intPre IntKind.u64 (List.drop (0 + 0) (wc o false))).set i ((IntKind.u64.wrap (IntKind.u64.wrap (IntKind.u64.wrap ((intPre IntKind.u64 (List.drop (0 + 0) (wc a s))).getD i 0 + 4294967296) - (intPre IntKind.u64 (List.drop (0 + 0) (wc b t))).getD i 0) - c)).tmod 4294967296)).getD 4 0)), .v (.int .u64 (((intPre IntKind.u64 (List.drop (0 + 0) (wc o false))).set i ((IntKind.u64.wrap (IntKind.u64.wrap (IntKind.u64.wrap ((intPre IntKind.u64 (List.drop (0 + 0) (wc a s))).getD i 0 + 4294967296) - (intPre IntKind.u64 (List.drop (0 + 0) (wc b t))).getD i 0) - c)).tmod 4294967296)).getD 5 0)), .v (.bool (false))])] 4) : Fin cE Tryz.f241 0 res T' n' (bodyK miK m) (ps4 ++ [.v (iu c), .v (it i)] ++ List.replicate 27 .na) (wT a b o s t false) 4 :=
  seg_at (keep := [2, 3, 4, 5, 6, 7]) (ct := ct) ctOk mixed (by decide) 2000 [.t, .x, .x, .l, .x, .l] (by kernel_rfl) (cj h0 (cj h1 (cj h2 (cj h1 (cj h3 (cj h1 (cj h4 cj0))))))) hF
theorem mib_2 (a b o : List Int) (s t : Bool) (c : Int) (i m : Nat) (h0 : decide ((i : Int) < 6) = false) : Fin cE Tryz.f241 0 (.v (.agg #[(.int .u64 (o.getD 0 0)), (.int .u64 (o.getD 1 0)), (.int .u64 (o.getD 2 0)), (.int .u64 (o.getD 3 0)), (.int .u64 (o.getD 4 0)), (.int .u64 (o.getD 5 0)), (.bool (false))])) [] 0 (bodyK miK m) (ps4 ++ [.v (iu c), .v (it i)] ++ List.replicate 27 .na) (wT a b o s t false) 4 :=
  seg_fin (keep := [2, 3, 4, 5, 6, 7]) (ct := ct) ctOk mixed (by decide) 2000 [.f] (by kernel_rfl) (cj h0 cj0)
theorem lea_1 (a b : List Int) (s t : Bool) (res : SV) (T' : Tab cE) (n' : Nat) (hF : Fin cE Tryz.f218 0 res T' n' leK [.na, .na, .p 0 0, .p 1 0, .na, .v (.int .i64 (5)), .na, .na, .na, .na, .na, .na, .na, .na, .na, .na, .na, .na, .na, .na, .na, .na, .na, .na, .na, .na, .na, .na] [(0, .box 182 [.v (.int .u64 (a.getD 0 0)), .v (.int .u64 (a.getD 1 0)), .v (.int .u64 (a.getD 2 0)), .v (.int .u64 (a.getD 3 0)), .v (.int .u64 (a.getD 4 0)), .v (.int .u64 (a.getD 5 0)), .v (.bool (s))]), (1, .box 182 [.v (.int .u64 (b.getD 0 0)), .v (.int .u64 (b.getD 1 0)), .v (.int .u64 (b.getD 2 0)), .v (.int .u64 (b.getD 3 0)), .v (.int .u64 (b.getD 4 0)), .v (.int .u64 (b.getD 5 0)), .v (.bool (t))])] 2) : Fin cE Tryz.f218 0 res T' n' [.code (bd Tryz.f218)] (argsS [.v (wv a s), .v (wv b t)] Tryz.f218.ntmps) [] 0 :=
  seg_at (keep := [2, 3, 5]) (ct := ct) ctOk mixed (by decide) 2000 [] (by kernel_rfl) cj0 hF
theorem leb_1 (a b : List Int) (s t : Bool) (i m : Nat) (h0 : (0 : Int) ≤ (i : Int) ∧ (i : Int) < ((6 : Nat) : Int)) (h1 : i.succ.le (intPre IntKind.u64 (List.drop (0 + 0) (wc a s))).length) (h2 : i.succ.le (intPre IntKind.u64 (List.drop (0 + 0) (wc b t))).length) (h3 : ((intPre IntKind.u64 (List.drop (0 + 0) (wc a s))).getD i 0 != (intPre IntKind.u64 (List.drop (0 + 0) (wc b t))).getD i 0) = true) : Fin cE Tryz.f218 0 (.v (.bool (decide ((intPre IntKind.u64 (List.drop (0 + 0) (wc a s))).getD i 0 < (intPre IntKind.u64 (List.drop (0 + 0) (wc b t))).getD i 0)))) [] 0 (bodyK leK m) ([.na, .na, .p 0 0, .p 1 0, .na, .v (it i)] ++ List.replicate 22 .na) [(0, .box 182 (wc a s)), (1, .box 182 (wc b t))] 2 :=
  seg_fin (keep := [2, 3, 5]) (ct := ct) ctOk mixed (by decide) 2000 [.l, .x, .x, .t, .x, .x] (by kernel_rfl) (cj h0 (cj h1 (cj h0 (cj h2 (cj h3 (cj h0 (cj h1 (cj h0 (cj h2 cj0)))))))))
theorem leb_2 (a b : List Int) (s t : Bool) (i m : Nat) (res : SV) (T' : Tab cE) (n' : Nat) (h0 : (0 : Int) ≤ (i : Int) ∧ (i : Int) < ((6 : Nat) : Int)) (h1 : i.succ.le (intPre IntKind.u64 (List.drop (0 + 0) (wc a s))).length) (h2 : i.succ.le (intPre IntKind.u64 (List.drop (0 + 0) (wc b t))).length) (h3 : ((intPre IntKind.u64 (List.drop (0 + 0) (wc a s))).getD i 0 != (intPre IntKind.u64 (List.drop (0 + 0) (wc b t))).getD i 0) = false) (hF : Fin cE Tryz.f218 0 res T' n' (inK leK (m)) [.na, .na, .p 0 0, .p 1 0, .na, .v (.int .i64 (IntKind.i64.wrap ((i : Int) - 1))), .na, .na, .na, .na, .na, .na, .na, .na, .na, .na, .na, .na, .na, .na, .na, .na, .na, .na, .na, .na, .na, .na] [(0, .box 182 [.v (.int .u64 (a.getD 0 0)), .v (.int .u64 (a.getD 1 0)), .v (.int .u64 (a.getD 2 0)), .v (.int .u64 (a.getD 3 0)), .v (.int .u64 (a.getD 4 0)), .v (.int .u64 (a.getD 5 0)), .v (.bool (s))]), (1, .box 182 [.v (.int .u64 (b.getD 0 0)), .v (.int .u64 (b.getD 1 0)), .v (.int .u64 (b.getD 2 0)), .v (.int .u64 (b.getD 3 0)), .v (.int .u64 (b.getD 4 0)), .v (.int .u64 (b.getD 5 0)), .v (.bool (t))])] 2) : Fin cE Tryz.f218 0 res T' n' (bodyK leK m) ([.na, .na, .p 0 0, .p 1 0, .na, .v (it i)] ++ List.replicate 22 .na) [(0, .box 182 (wc a s)), (1, .box 182 (wc b t))] 2 :=
  seg_at (keep := [2, 3, 5]) (ct := ct) ctOk mixed (by decide) 2000 [.l, .x, .x, .f] (by kernel_rfl) (cj h0 (cj h1 (cj h0 (cj h2 (cj h3 cj0))))) hF
theorem lec_1 (a b : List Int) (s t : Bool) (m : Nat) : Fin cE Tryz.f218 0 (.v (.bool (false))) [] 0 (bodyK leK m) ([.na, .na, .p 0 0, .p 1 0, .na, .v (it (-1))] ++ List.replicate 22 .na) [(0, .box 182 (wc a s)), (1, .box 182 (wc b t))] 2 :=
  seg_fin (keep := [2, 3, 5]) (ct := ct) ctOk mixed (by decide) 2000 [.l] (by kernel_rfl) cj0
end Go.Proofs.YtnchjdhepakokaaGreatDoorC
/- Numbers in six parts of 32 bits: what the reference's sum and difference of such numbers come to. -/
namespace Go.Proofs.YtnchjdhepakokaaGreatDoorC
open Go.Proofs Go.Proofs.YtnchjdhepakokaaGreatDoorSx
set_option maxRecDepth 100000
set_option linter.unusedVariables false
theorem wrapU (x : Int) : IntKind.u64.wrap x = x % 18446744073709551616 := by simp [IntKind.wrap, IntKind.bits, IntKind.signed]
theorem wrU {x : Int} (h0 : 0 ≤ x) (h1 : x < 18446744073709551616) : IntKind.u64.wrap x = x := by rw [wrapU]; omega
theorem wrap64 {n : Int} (h0 : -9223372036854775808 ≤ n) (h1 : n ≤ 9223372036854775807) : IntKind.i64.wrap n = n := by
  rw [IntKind.wrap_i64]
  omega
theorem step64 {i : Nat} (h : i < 9223372036854775807) : IntKind.i64.wrap ((i : Int) + 1) = ((i + 1 : Nat) : Int) := by rw [wrap64 (by omega) (by omega)]; rfl
def val : List Int → Int
  | [] => 0
  | x :: l => x + 4294967296 * val l
def dg : Nat → Int → List Int
  | 0, _ => []
  | k + 1, n => n % 4294967296 :: dg k (n / 4294967296)
def Rng (l : List Int) : Prop := ∀ x ∈ l, 0 ≤ x ∧ x < 4294967296
structure Dig (l : List Int) : Prop where
  len : l.length = 6
  rng : Rng l
theorem lt6 {a : List Int} (h : Dig a) {i : Nat} (hi : i < 6) : i.succ.le a.length := by rw [h.len]; exact hi
def V (l : List Int) (i : Nat) : Int := val (l.take i)
theorem val_app : ∀ (l r : List Int), val (l ++ r) = val l + 4294967296 ^ l.length * val r
  | [], r => by simp [val]
  | x :: l, r => by
    have ih := val_app l r
    simp only [List.cons_append, val, List.length_cons]
    rw [ih, Int.pow_succ]
    grind
theorem V_succ {l : List Int} {i : Nat} (h : i < l.length) : V l (i + 1) = V l i + 4294967296 ^ i * l.getD i 0 := by
  unfold V
  rw [List.take_add_one, List.getElem?_eq_getElem h, Option.toList_some, val_app]
  simp [val, List.getD, h, Nat.min_eq_left (Nat.le_of_lt h)]
theorem V_set {l : List Int} {i : Nat} {v : Int} (h : i < l.length) : V (l.set i v) (i + 1) = V l i + 4294967296 ^ i * v := by
  rw [V_succ (by simpa using h)]
  unfold V
  rw [List.take_set_of_le (Nat.le_refl i)]
  simp [List.getD, h]
theorem rng_set {l : List Int} {i : Nat} {v : Int} (h : Rng l) (hv : 0 ≤ v ∧ v < 4294967296) : Rng (l.set i v) := by
  intro x hx
  rcases List.mem_or_eq_of_mem_set hx with hx | rfl
  · exact h x hx
  · exact hv
theorem rng_get {l : List Int} (h : Rng l) (i : Nat) : 0 ≤ l.getD i 0 ∧ l.getD i 0 < 4294967296 := by
  by_cases hi : i < l.length
  · exact h _ (by simp [List.getD, hi])
  · simp [List.getD, List.getElem?_eq_none (Nat.le_of_not_lt hi)]
theorem val_rng : ∀ {l : List Int}, Rng l → 0 ≤ val l ∧ val l < 4294967296 ^ l.length
  | [], _ => by simp [val]
  | x :: l, h => by
    have ih := val_rng (l := l) fun y hy => h y (List.mem_cons_of_mem _ hy)
    have hx := h x List.mem_cons_self
    simp only [val, List.length_cons, Int.pow_succ]
    generalize (4294967296 : Int) ^ l.length = P at ih ⊢
    omega
theorem dg_val : ∀ {l : List Int}, Rng l → dg l.length (val l) = l
  | [], _ => rfl
  | x :: l, h => by
    have hx := h x List.mem_cons_self
    have ih := dg_val (l := l) fun y hy => h y (List.mem_cons_of_mem _ hy)
    simp only [val, List.length_cons, dg]
    have e1 : (x + 4294967296 * val l) % 4294967296 = x := by omega
    have e2 : (x + 4294967296 * val l) / 4294967296 = val l := by omega
    rw [e1, e2, ih]
theorem dg_len (k : Nat) : ∀ n, (dg k n).length = k := by
  induction k with
  | zero => intro n; rfl
  | succ k ih => intro n; simp [dg, ih]
theorem dg_rng (k : Nat) : ∀ n, Rng (dg k n) := by
  induction k with
  | zero => intro n x hx; simp [dg] at hx
  | succ k ih =>
    intro n x hx
    simp only [dg, List.mem_cons] at hx
    rcases hx with rfl | hx
    · omega
    · exact ih _ x hx
theorem dg_dig (n : Int) : Dig (dg 6 n) := ⟨dg_len 6 n, dg_rng 6 n⟩
theorem val_dg (k : Nat) : ∀ n : Int, 0 ≤ n → n < 4294967296 ^ k → val (dg k n) = n := by
  induction k with
  | zero => intro n h0 h1; simp [dg, val] at h1 ⊢; omega
  | succ k ih =>
    intro n h0 h1
    simp only [dg, val]
    rw [Int.pow_succ] at h1
    rw [ih (n / 4294967296) (by omega) (by
      generalize (4294967296 : Int) ^ k = P at h1 ⊢
      omega)]
    omega
theorem Dig.eq {l : List Int} (h : Dig l) : l = dg 6 (val l) := by
  have := dg_val h.rng
  rw [h.len] at this
  exact this.symm
theorem Dig.V6 {l : List Int} (h : Dig l) : V l 6 = val l := by
  unfold V
  rw [List.take_of_length_le (by rw [h.len]; exact Nat.le_refl _)]
/-- A wide number. -/
abbrev W (n : Int) (s : Bool) : Value := wv (dg 6 n) s
def big192 : Int := 6277101735386680763835789423207666416102355444464034512896
theorem big_pow : (4294967296 : Int) ^ 6 = big192 := by decide
theorem pre_wc {a : List Int} {s : Bool} (h : a.length = 6) : intPre IntKind.u64 (List.drop (0 + 0) (wc a s)) = a := by
  have e : intPre IntKind.u64 (List.drop (0 + 0) (wc a s)) = [a.getD 0 0, a.getD 1 0, a.getD 2 0, a.getD 3 0, a.getD 4 0, a.getD 5 0] := by rfl
  rw [e]
  match a, h with
  | [x0, x1, x2, x3, x4, x5], _ => rfl
theorem dig0 : Dig [0, 0, 0, 0, 0, 0] := ⟨rfl, fun x hx => by simp at hx; omega⟩
/-! ### Sums -/
abbrev lpS (c : Int) (i n : Nat) : List SV := ps4 ++ [.v (iu c), .v (it i)] ++ List.replicate n .na
theorem pl_loop {a b : List Int} (ha : Dig a) (hb : Dig b) (s t : Bool) : ∀ (r i : Nat) (o : List Int) (c : Int), i + r = 6 → Dig o → 0 ≤ c ∧ c ≤ 1 → V o i + 4294967296 ^ i * c = V a i + V b i → val a + val b < big192 → ∀ m,
    Fin cE Tryz.f190 0 (.v (W (val a + val b) false)) [] 0 (inK plK (m + r + 1)) (lpS c i 24) (wT a b o s t false) 4
  | 0, i, o, c, hi, ho, hc, hv, hlt, m => by
    refine fin_round ?_
    have h6 : i = 6 := by omega
    subst h6
    have h := plb_2 a b o s t c 6 m (by decide)
    rw [ho.V6, ha.V6, hb.V6] at hv
    have hr := val_rng ho.rng
    rw [ho.len, big_pow] at hr
    rw [big_pow] at hv
    have e : val a + val b = val o := by unfold big192 at *; omega
    rw [e, W, ← ho.eq]
    exact h
  | r + 1, i, o, c, hi, ho, hc, hv, hlt, m => by
    refine fin_round ?_
    have hi6 : i < 6 := by omega
    have h := plb_1 a b o s t c i (m + (r + 1)) (.v (W (val a + val b) false)) [] 0 (by simp; omega) ⟨by omega, by omega⟩
    rw [pre_wc ha.len, pre_wc hb.len, pre_wc ho.len, step64 (by omega)] at h
    have ra := rng_get ha.rng i
    have rb := rng_get hb.rng i
    have va := V_succ (l := a) (i := i) (by rw [ha.len]; omega)
    have vb := V_succ (l := b) (i := i) (by rw [hb.len]; omega)
    generalize a.getD i 0 = x at h ra va
    generalize b.getD i 0 = y at h rb vb
    rw [wrU (x := c + x) (by omega) (by omega), wrU (x := c + x + y) (by omega) (by omega), Int.tdiv_eq_ediv_of_nonneg (a := c + x + y) (by omega), Int.tmod_eq_emod_of_nonneg (a := c + x + y) (by omega), wrU (x := (c + x + y) / 4294967296) (by omega) (by omega)] at h
    refine h (lt6 ha hi6) (lt6 hb hi6) (lt6 ho hi6) ?_
    have hset := V_set (l := o) (i := i) (v := (c + x + y) % 4294967296) (by rw [ho.len]; omega)
    refine pl_loop ha hb s t r (i + 1) (o.set i ((c + x + y) % 4294967296)) ((c + x + y) / 4294967296) (by omega) ⟨by simp [ho.len], rng_set ho.rng (by omega)⟩ (by omega) ?_ hlt m
    rw [hset, va, vb, Int.pow_succ]
    have hdm := Int.emod_add_mul_ediv (c + x + y) 4294967296
    generalize (c + x + y) % 4294967296 = u at hdm
    generalize (c + x + y) / 4294967296 = v at hdm
    generalize (4294967296 : Int) ^ i = P at hv
    grind
theorem plus_does {a b : List Int} (ha : Dig a) (hb : Dig b) (s t : Bool) (h : val a + val b < big192) : Does cE 190 [] 0 [.v (wv a s), .v (wv b t)] (.v (W (val a + val b) false)) [] 0 := by
  refine does_of_fin (fn := Tryz.f190) (c := bd Tryz.f190) rfl (by kernel_rfl) rfl ?_
  refine pla_1 a b s t _ _ _ ?_
  refine fin_loop (0 + 6 + 1) ?_
  have := pl_loop ha hb s t 6 0 [0, 0, 0, 0, 0, 0] 0 (by omega) dig0 (by omega) (by simp [V, val]) h 0
  exact this
/-! ### Differences -/
theorem mi_loop {a b : List Int} (ha : Dig a) (hb : Dig b) (s t : Bool) : ∀ (r i : Nat) (o : List Int) (c : Int), i + r = 6 → Dig o → 0 ≤ c ∧ c ≤ 1 → V o i + V b i = V a i + 4294967296 ^ i * c → val b ≤ val a → ∀ m,
    Fin cE Tryz.f241 0 (.v (W (val a - val b) false)) [] 0 (inK miK (m + r + 1)) (lpS c i 27) (wT a b o s t false) 4
  | 0, i, o, c, hi, ho, hc, hv, hlt, m => by
    refine fin_round ?_
    have h6 : i = 6 := by omega
    subst h6
    have h := mib_2 a b o s t c 6 m (by decide)
    rw [ho.V6, ha.V6, hb.V6] at hv
    have hr := val_rng ho.rng
    rw [ho.len, big_pow] at hr
    rw [big_pow] at hv
    have e : val a - val b = val o := by unfold big192 at *; omega
    rw [e, W, ← ho.eq]
    exact h
  | r + 1, i, o, c, hi, ho, hc, hv, hlt, m => by
    refine fin_round ?_
    have hi6 : i < 6 := by omega
    have h := mib_1 a b o s t c i (m + (r + 1)) (.v (W (val a - val b) false)) [] 0 (by simp; omega) ⟨by omega, by omega⟩
    rw [pre_wc ha.len, pre_wc hb.len, pre_wc ho.len, step64 (by omega)] at h
    have ra := rng_get ha.rng i
    have rb := rng_get hb.rng i
    have va := V_succ (l := a) (i := i) (by rw [ha.len]; omega)
    have vb := V_succ (l := b) (i := i) (by rw [hb.len]; omega)
    generalize a.getD i 0 = x at h ra va
    generalize b.getD i 0 = y at h rb vb
    rw [wrU (x := x + 4294967296) (by omega) (by omega), wrU (x := x + 4294967296 - y) (by omega) (by omega), wrU (x := x + 4294967296 - y - c) (by omega) (by omega), Int.tdiv_eq_ediv_of_nonneg (a := x + 4294967296 - y - c) (by omega), Int.tmod_eq_emod_of_nonneg (a := x + 4294967296 - y - c) (by omega),
      wrU (x := (x + 4294967296 - y - c) / 4294967296) (by omega) (by omega), wrU (x := 1 - (x + 4294967296 - y - c) / 4294967296) (by omega) (by omega)] at h
    refine h (lt6 ha hi6) (lt6 hb hi6) (lt6 ho hi6) ?_
    have hset := V_set (l := o) (i := i) (v := (x + 4294967296 - y - c) % 4294967296) (by rw [ho.len]; omega)
    refine mi_loop ha hb s t r (i + 1) (o.set i ((x + 4294967296 - y - c) % 4294967296)) (1 - (x + 4294967296 - y - c) / 4294967296) (by omega) ⟨by simp [ho.len], rng_set ho.rng (by omega)⟩ (by omega) ?_ hlt m
    rw [hset, va, vb, Int.pow_succ]
    have hdm := Int.emod_add_mul_ediv (x + 4294967296 - y - c) 4294967296
    generalize (x + 4294967296 - y - c) % 4294967296 = u at hdm
    generalize (x + 4294967296 - y - c) / 4294967296 = v at hdm
    generalize (4294967296 : Int) ^ i = P at hv
    grind
theorem minus_does {a b : List Int} (ha : Dig a) (hb : Dig b) (s t : Bool) (h : val b ≤ val a) : Does cE 241 [] 0 [.v (wv a s), .v (wv b t)] (.v (W (val a - val b) false)) [] 0 := by
  refine does_of_fin (fn := Tryz.f241) (c := bd Tryz.f241) rfl (by kernel_rfl) rfl ?_
  refine mia_1 a b s t _ _ _ ?_
  refine fin_loop (0 + 6 + 1) ?_
  exact mi_loop ha hb s t 6 0 [0, 0, 0, 0, 0, 0] 0 (by omega) dig0 (by omega) (by simp [V, val]) h 0
end Go.Proofs.YtnchjdhepakokaaGreatDoorC
/- Each path of each function: on which conditions it is taken, what it gives. Printed by a program (wip/tools/sxexp2.lean); Lean checks each. -/
namespace Go.Proofs.YtnchjdhepakokaaGreatDoorC
open Go.Proofs Go.Proofs.YtnchjdhepakokaaGreatDoorSx
set_option maxRecDepth 100000
set_option linter.unusedVariables false

theorem tma_1 (a b : List Int) (s t : Bool) (res : SV) (T' : Tab cE) (n' : Nat) (hF : Fin cE Tryz.f191 0 res T' n' tmK [.na, .na, .p 0 0, .p 1 0, .p 2 0, .p 3 0, .v (.int .i64 (0)), .na, .na, .na, .na, .na, .na, .na, .na, .na, .na, .na, .na, .na, .na, .na, .na, .na, .na, .na, .na, .na, .na, .na, .na, .na, .na, .na, .na, .na, .na, .na, .na, .na, .na, .na, .na, .na, .na, .na, .na, .na] [(0, .box 182 [.v (.int .u64 (a.getD 0 0)), .v (.int .u64 (a.getD 1 0)), .v (.int .u64 (a.getD 2 0)), .v (.int .u64 (a.getD 3 0)), .v (.int .u64 (a.getD 4 0)), .v (.int .u64 (a.getD 5 0)), .v (.bool (s))]), (1, .box 182 [.v (.int .u64 (b.getD 0 0)), .v (.int .u64 (b.getD 1 0)), .v (.int .u64 (b.getD 2 0)), .v (.int .u64 (b.getD 3 0)), .v (.int .u64 (b.getD 4 0)), .v (.int .u64 (b.getD 5 0)), .v (.bool (t))]), (2, .box 182 [.v (.int .u64 (0)), .v (.int .u64 (0)), .v (.int .u64 (0)), .v (.int .u64 (0)), .v (.int .u64 (0)), .v (.int .u64 (0)), .v (.bool (false))]), (3, .box 182 [.v (.int .u64 (0)), .v (.int .u64 (0)), .v (.int .u64 (0)), .v (.int .u64 (0)), .v (.int .u64 (0)), .v (.int .u64 (0)), .v (.bool (false))])] 4) : Fin cE Tryz.f191 0 res T' n' [.code (bd Tryz.f191)] (argsS [.v (wv a s), .v (wv b t)] Tryz.f191.ntmps) [] 0 :=
  seg_at (keep := [2, 3, 4, 5, 6]) (ct := ct) ctOk mixed (by decide) 2000 [] (by kernel_rfl) cj0 hF
theorem tmb_1 (a b o : List Int) (s t : Bool) (i m : Nat) (res : SV) (T' : Tab cE) (n' : Nat) (h0 : decide ((i : Int) < 6) = true) (hF : Fin cE Tryz.f191 0 res T' n' (tnK (m)) [.na, .na, .p 0 0, .p 1 0, .p 2 0, .p 3 0, .v (.int .i64 ((i : Int))), .v (.int .u64 (0)), .v (.int .i64 (0)), .na, .na, .na, .na, .na, .na, .na, .na, .na, .na, .na, .na, .na, .na, .na, .na, .na, .na, .na, .na, .na, .na, .na, .na, .na, .na, .na, .na, .na, .na, .na, .na, .na, .na, .na, .na, .na, .na, .na] [(0, .box 182 [.v (.int .u64 (a.getD 0 0)), .v (.int .u64 (a.getD 1 0)), .v (.int .u64 (a.getD 2 0)), .v (.int .u64 (a.getD 3 0)), .v (.int .u64 (a.getD 4 0)), .v (.int .u64 (a.getD 5 0)), .v (.bool (s))]), (1, .box 182 [.v (.int .u64 (b.getD 0 0)), .v (.int .u64 (b.getD 1 0)), .v (.int .u64 (b.getD 2 0)), .v (.int .u64 (b.getD 3 0)), .v (.int .u64 (b.getD 4 0)), .v (.int .u64 (b.getD 5 0)), .v (.bool (t))]), (2, .box 182 [.v (.int .u64 (0)), .v (.int .u64 (0)), .v (.int .u64 (0)), .v (.int .u64 (0)), .v (.int .u64 (0)), .v (.int .u64 (0)), .v (.bool (false))]), (3, .box 182 [.v (.int .u64 (o.getD 0 0)), .v (.int .u64 (o.getD 1 0)), .v (.int .u64 (o.getD 2 0)), .v (.int .u64 (o.getD 3 0)), .v (.int .u64 (o.getD 4 0)), .v (.int .u64 (o.getD 5 0)), .v (.bool (false))])] 4) : Fin cE Tryz.f191 0 res T' n' (bodyK tmK m) (ps4 ++ [.v (it i)] ++ List.replicate 41 .na) (wT a b o s t false) 4 :=
  seg_at (keep := [2, 3, 4, 5, 6, 7, 8]) (ct := ct) ctOk mixed (by decide) 2000 [.t] (by kernel_rfl) (cj h0 cj0) hF
theorem tmb_2 (a b o : List Int) (s t : Bool) (i m : Nat) (h0 : decide ((i : Int) < 6) = false) : Fin cE Tryz.f191 0 (.v (.agg #[(.int .u64 (o.getD 0 0)), (.int .u64 (o.getD 1 0)), (.int .u64 (o.getD 2 0)), (.int .u64 (o.getD 3 0)), (.int .u64 (o.getD 4 0)), (.int .u64 (o.getD 5 0)), (.bool (false))])) [] 0 (bodyK tmK m) (ps4 ++ [.v (it i)] ++ List.replicate 41 .na) (wT a b o s t false) 4 :=
  seg_fin (keep := [2, 3, 4, 5, 6, 7, 8]) (ct := ct) ctOk mixed (by decide) 2000 [.f] (by kernel_rfl) (cj h0 cj0)
theorem tmc_1 (a b o : List Int) (s t : Bool) (c : Int) (i k m n : Nat) (res : SV) (T' : Tab cE) (n' : Nat) (h0 : decide (IntKind.i64.wrap ((i : Int) + (k : Int)) < 6) = true) (h1 : (0 : Int) ≤ IntKind.i64.wrap ((i : Int) + (k : Int)) ∧ IntKind.i64.wrap ((i : Int) + (k : Int)) < ((6 : Nat) : Int)) (h2 : (IntKind.i64.wrap ((i : Int) + (k : Int))).toNat.succ.le (intPre IntKind.u64 (List.drop (0 + 0) (wc o false))).length) (h3 : (0 : Int) ≤ (i : Int) ∧ (i : Int) < ((6 : Nat) : Int)) (h4 : i.succ.le (intPre IntKind.u64 (List.drop (0 + 0) (wc a s))).length) (h5 : (0 : Int) ≤ (k : Int) ∧ (k : Int) < ((6 : Nat) : Int)) (h6 : k.succ.le (intPre IntKind.u64 (List.drop (0 + 0) (wc b t))).length) (hF : Fin cE Tryz.f191 0 res T' n' (inK (tnK (m)) (n)) [.na, .na, .p 0 0, .p 1 0, .p 2 0, .p 3 0, .v (.int .i64 ((i : Int))), .v (.int .u64 (IntKind.u64.wrap ((IntKind.u64.wrap (IntKind.u64.wrap (c + (intPre IntKind.u64 (List.drop (0 + 0) (wc o false))).getD (IntKind.i64.wrap ((i : Int) + (k : Int))).toNat (0 : Int)) + IntKind.u64.wrap ((intPre IntKind.u64 (List.drop (0 + 0) (wc a s))).getD i 0 * (intPre IntKind.u64 (List.drop (0 + 0) (wc b t))).getD k 0))).tdiv 4294967296))), .v (.int .i64 (IntKind.i64.wrap ((k : Int) + 1))), .na, .na, .na, .na, .na, .na, .na, .na, .na, .na, .na, .na, .na, .na, .na, .na, .na, .na, .na, .na, .na, .na, .na, .na, .na, .na, .na, .na, .na, .na, .na, .na, .na, .na, .na, .na, .na, .na, .na] [(0, .box 182 [.v (.int .u64 (a.getD 0 0)), .v (.int .u64 (a.getD 1 0)), .v (.int .u64 (a.getD 2 0)), .v (.int .u64 (a.getD 3 0)), .v (.int .u64 (a.getD 4 0)), .v (.int .u64 (a.getD 5 0)), .v (.bool (s))]), (1, .box 182 [.v (.int .u64 (b.getD 0 0)), .v (.int .u64 (b.getD 1 0)), .v (.int .u64 (b.getD 2 0)), .v (.int .u64 (b.getD 3 0)), .v (.int .u64 (b.getD 4 0)), .v (.int .u64 (b.getD 5 0)), .v (.bool (t))]), (2, .box 182 [.v (.int .u64 (0)), .v (.int .u64 (0)), .v (.int .u64 (0)), .v (.int .u64 (0)), .v (.int .u64 (0)), .v (.int .u64 (0)), .v (.bool (false))]), (3, .box 182 [.v (.int .u64 (((intPre IntKind.u64 (List.drop (0 + 0) (wc o false))).set (IntKind.i64.wrap ((i : Int) + (k : Int))).toNat ((IntKind.u64.wrap (IntKind.u64.wrap (c + (intPre IntKind.u64 (List.drop (0 + 0) (wc o false))).getD (IntKind.i64.wrap ((i : Int) + (k : Int))).toNat (0 : Int)) + IntKind.u64.wrap ((intPre IntKind.u64 (List.drop (0 + 0) (wc a s))).getD i 0 * (intPre IntKind.u64 (List.drop (0 + 0) (wc b t))).getD k 0))).tmod 4294967296)).getD 0 0)), .v (.int .u64 (((intPre IntKind.u64 (List.drop (0 + 0) (wc o false))).set (IntKind.i64.wrap ((i : Int) + (k : Int))).toNat ((IntKind.u64.wrap (IntKind.u64.wrap (c + (intPre IntKind.u64 (List.drop (0 + 0) (wc o false))).getD (IntKind.i64.wrap ((i : Int) + (k : Int))).toNat (0 : Int)) + IntKind.u64.wrap ((intPre IntKind.u64 (List.drop (0 + 0) (wc a s))).getD i 0 * (intPre IntKind.u64 (List.drop (0 + 0) (wc b t))).getD k 0))).tmod 4294967296)).getD 1 0)), .v (.int .u64 (((intPre IntKind.u64 (List.drop (0 + 0) (wc o false))).set (IntKind.i64.wrap ((i : Int) + (k : Int))).toNat ((IntKind.u64.wrap (IntKind.u64.wrap (c + (intPre IntKind.u64 (List.drop (0 + 0) (wc o false))).getD (IntKind.i64.wrap ((i : Int) + (k : Int))).toNat (0 : Int)) + IntKind.u64.wrap ((intPre IntKind.u64 (List.drop (0 + 0) (wc a s))).getD i 0 * (intPre IntKind.u64 (List.drop (0 + 0) (wc b t))).getD k 0))).tmod 4294967296)).getD 2 0)), .v (.int .u64 (((intPre IntKind.u64 (List.drop (0 + 0) (wc o false))).set (IntKind.i64.wrap ((i : Int) + (k : Int))).toNat ((IntKind.u64.wrap (IntKind.u64.wrap (c + (intPre IntKind.u64 (List.drop (0 + 0) (wc o false))).getD (IntKind.i64.wrap ((i : Int) + (k : Int))).toNat (0 : Int)) + IntKind.u64.wrap ((intPre IntKind.u64 (List.drop (0 + 0) (wc a s))).getD i 0 * (intPre IntKind.u64 (List.drop (0 + 0) (wc b t))).getD k 0))).tmod 4294967296)).getD 3 0)), .v (.int .u64 (((intPre IntKind.u64 (List.drop (0 + 0) (wc o false))).set (IntKind.i64.wrap ((i : Int) + (k : Int))).toNat ((IntKind.u64.wrap (IntKind.u64.wrap (c + (intPre IntKind.u64 (List.drop (0 + 0) (wc o false))).getD (IntKind.i64.wrap ((i : Int) + (k : Int))).toNat (0 : Int)) + IntKind.u64.wrap ((intPre IntKind.u64 (List.drop (0 + 0) (wc a s))).getD i 0 * (intPre IntKind.u64 (List.drop (0 + 0) (wc b t))).getD k 0))).tmod 4294967296)).getD 4 0)), .v (.int .u64 (((intPre IntKind.u64 (List.drop (0 + 0) (wc o false))).set (IntKind.i64.wrap ((i : Int) + (k : Int))).toNat ((IntKind.u64.wrap (IntKind.u64.wrap (c + (intPre IntKind.u64 (List.drop (0 + 0) (wc o false))).getD (IntKind.i64.wrap ((i : Int) + (k : Int))).toNat (0 : Int)) + IntKind.u64.wrap ((intPre IntKind.u64 (List.drop (0 + 0) (wc a s))).getD i 0 * (intPre IntKind.u64 (List.drop (0 + 0) (wc b t))).getD k 0))).tmod 4294967296)).getD 5 0)), .v (.bool (false))])] 4) : Fin cE Tryz.f191 0 res T' n' (bodyK (tnK m) n) (ps4 ++ [.v (it i), .v (iu c), .v (it k)] ++ List.replicate 39 .na) (wT a b o s t false) 4 :=
  seg_at (keep := [2, 3, 4, 5, 6, 7, 8]) (ct := ct) ctOk mixed (by decide) 2000 [.t, .x, .x, .x, .l, .x, .l] (by kernel_rfl) (cj h0 (cj h1 (cj h2 (cj h3 (cj h4 (cj h5 (cj h6 (cj h1 (cj h2 cj0))))))))) hF
theorem tmc_2 (a b o : List Int) (s t : Bool) (c : Int) (i k m n : Nat) (res : SV) (T' : Tab cE) (n' : Nat) (h0 : decide (IntKind.i64.wrap ((i : Int) + (k : Int)) < 6) = false) (hF : Fin cE Tryz.f191 0 res T' n' (inK tmK (m)) [.na, .na, .p 0 0, .p 1 0, .p 2 0, .p 3 0, .v (.int .i64 (IntKind.i64.wrap ((i : Int) + 1))), .v (.int .u64 (c)), .v (.int .i64 ((k : Int))), .na, .na, .na, .na, .na, .na, .na, .na, .na, .na, .na, .na, .na, .na, .na, .na, .na, .na, .na, .na, .na, .na, .na, .na, .na, .na, .na, .na, .na, .na, .na, .na, .na, .na, .na, .na, .na, .na, .na] [(0, .box 182 [.v (.int .u64 (a.getD 0 0)), .v (.int .u64 (a.getD 1 0)), .v (.int .u64 (a.getD 2 0)), .v (.int .u64 (a.getD 3 0)), .v (.int .u64 (a.getD 4 0)), .v (.int .u64 (a.getD 5 0)), .v (.bool (s))]), (1, .box 182 [.v (.int .u64 (b.getD 0 0)), .v (.int .u64 (b.getD 1 0)), .v (.int .u64 (b.getD 2 0)), .v (.int .u64 (b.getD 3 0)), .v (.int .u64 (b.getD 4 0)), .v (.int .u64 (b.getD 5 0)), .v (.bool (t))]), (2, .box 182 [.v (.int .u64 (0)), .v (.int .u64 (0)), .v (.int .u64 (0)), .v (.int .u64 (0)), .v (.int .u64 (0)), .v (.int .u64 (0)), .v (.bool (false))]), (3, .box 182 [.v (.int .u64 (o.getD 0 0)), .v (.int .u64 (o.getD 1 0)), .v (.int .u64 (o.getD 2 0)), .v (.int .u64 (o.getD 3 0)), .v (.int .u64 (o.getD 4 0)), .v (.int .u64 (o.getD 5 0)), .v (.bool (false))])] 4) : Fin cE Tryz.f191 0 res T' n' (bodyK (tnK m) n) (ps4 ++ [.v (it i), .v (iu c), .v (it k)] ++ List.replicate 39 .na) (wT a b o s t false) 4 :=
  seg_at (keep := [2, 3, 4, 5, 6, 7, 8]) (ct := ct) ctOk mixed (by decide) 2000 [.f] (by kernel_rfl) (cj h0 cj0) hF
end Go.Proofs.YtnchjdhepakokaaGreatDoorC
/- Each path of each function: on which conditions it is taken, what it gives. Printed by a program (wip/tools/sxexp2.lean); Lean checks each. -/
namespace Go.Proofs.YtnchjdhepakokaaGreatDoorC
open Go.Proofs Go.Proofs.YtnchjdhepakokaaGreatDoorSx
set_option maxRecDepth 100000
set_option linter.unusedVariables false
abbrev byT (h l g k : Int) (s t : Bool) (qh ql rh rl : Int) : Tab cE := [(0, .box 199 [.v (iu h), .v (iu l), .v (.bool s)]), (1, .box 199 [.v (iu g), .v (iu k), .v (.bool t)]), (2, .box 199 [.v (iu 0), .v (iu 0), .v (.bool false)]), (3, .box 199 [.v (iu qh), .v (iu ql), .v (.bool false)]), (4, .box 199 [.v (iu rh), .v (iu rl), .v (.bool false)])]
abbrev byS (i : Int) : List SV := [.na, .na, .p 0 0, .p 1 0, .p 2 0, .p 3 0, .p 4 0, .na, .na, .na, .na, .na, .na, .v (it i)] ++ List.replicate 109 .na
abbrev w0 : List SV := [.v (iu 0), .v (iu 0), .v (iu 0), .v (iu 0), .v (iu 0), .v (iu 0), .v (.bool false)]
abbrev paT (a b q r : List Int) (s t : Bool) : Tab cE := [(0, .box 182 (wc a s)), (1, .box 182 (wc b t)), (2, .box 182 w0), (3, .box 182 w0), (4, .box 182 (wc q false)), (5, .box 182 (wc r false))]
abbrev paS (i : Int) : List SV := [.na, .na, .p 0 0, .p 1 0, .p 2 0, .p 3 0, .p 4 0, .p 5 0, .v (it i)] ++ List.replicate 43 .na

theorem byb_1 (h l g k : Int) (s t : Bool) (qh ql rh rl : Int) (i m : Nat) (i0 : Int) (i1 : Int) (i2 : Int) (res : SV) (T' : Tab cE) (n' : Nat) (h0 : decide ((i : Int) < 128) = true) (h1 : decide ((i : Int) ≥ 64) = true) (h2 : decide (IntKind.i64.wrap (127 - (i : Int)) < 0) = false) (h3 : Does cE 230 [] 0 [.v (.agg #[(.int .u64 (IntKind.u64.wrap ↑(BitVec.ofInt 64 (IntKind.u64.wrap (rh * 2 ^ 1)) ||| BitVec.ofInt 64 (rl.fdiv (2 ^ 63))).toNat)), (.int .u64 (IntKind.u64.wrap ↑(BitVec.ofInt 64 (IntKind.u64.wrap (rl * 2 ^ 1)) ||| BitVec.ofInt 64 (IntKind.u64.wrap ↑(BitVec.ofInt 64 (l.fdiv (2 ^ Min.min (IntKind.i64.wrap (127 - (i : Int))).toNat 64)) &&& BitVec.ofInt 64 1).toNat)).toNat)), (.bool (false))]), .v (.agg #[(.int .u64 (g)), (.int .u64 (k)), (.bool (false))])] (.v (.int .i64 (i0))) [] 0) (h4 : decide (i0 ≥ 0) = true) (h5 : Does cE 231 [] 0 [.v (.int .u64 (IntKind.u64.wrap ↑(BitVec.ofInt 64 (IntKind.u64.wrap (rl * 2 ^ 1)) ||| BitVec.ofInt 64 (IntKind.u64.wrap ↑(BitVec.ofInt 64 (l.fdiv (2 ^ Min.min (IntKind.i64.wrap (127 - (i : Int))).toNat 64)) &&& BitVec.ofInt 64 1).toNat)).toNat)), .v (.int .u64 (k)), .v (.int .u64 (0))] (.v (.tuple #[(.int .u64 (i1)), (.int .u64 (i2))])) [] 0) (hF : Fin cE Tryz.f216 0 res T' n' (inK byK (m)) [.na, .na, .p 0 0, .p 1 0, .p 2 0, .p 3 0, .p 4 0, .na, .na, .na, .na, .na, .na, .v (.int .i64 (IntKind.i64.wrap ((i : Int) + 1))), .na, .na, .na, .na, .na, .na, .na, .na, .na, .na, .na, .na, .na, .na, .na, .na, .na, .na, .na, .na, .na, .na, .na, .na, .na, .na, .na, .na, .na, .na, .na, .na, .na, .na, .na, .na, .na, .na, .na, .na, .na, .na, .na, .na, .na, .na, .na, .na, .na, .na, .na, .na, .na, .na, .na, .na, .na, .na, .na, .na, .na, .na, .na, .na, .na, .na, .na, .na, .na, .na, .na, .na, .na, .na, .na, .na, .na, .na, .na, .na, .na, .na, .na, .na, .na, .na, .na, .na, .na, .na, .na, .na, .na, .na, .na, .na, .na, .na, .na, .na, .na, .na, .na, .na, .na, .na, .na, .na, .na] [(0, .box 199 [.v (.int .u64 (h)), .v (.int .u64 (l)), .v (.bool (s))]), (1, .box 199 [.v (.int .u64 (g)), .v (.int .u64 (k)), .v (.bool (false))]), (2, .box 199 [.v (.int .u64 (0)), .v (.int .u64 (0)), .v (.bool (false))]), (3, .box 199 [.v (.int .u64 (IntKind.u64.wrap ↑(BitVec.ofInt 64 (IntKind.u64.wrap (qh * 2 ^ 1)) ||| BitVec.ofInt 64 (ql.fdiv (2 ^ 63))).toNat)), .v (.int .u64 (IntKind.u64.wrap ↑(BitVec.ofInt 64 (IntKind.u64.wrap (ql * 2 ^ 1)) ||| BitVec.ofInt 64 1).toNat)), .v (.bool (false))]), (4, .box 199 [.v (.int .u64 (IntKind.u64.wrap (IntKind.u64.wrap (IntKind.u64.wrap ↑(BitVec.ofInt 64 (IntKind.u64.wrap (rh * 2 ^ 1)) ||| BitVec.ofInt 64 (rl.fdiv (2 ^ 63))).toNat - g) - i2))), .v (.int .u64 (i1)), .v (.bool (false))])] 5) : Fin cE Tryz.f216 0 res T' n' (bodyK byK m) (byS i) (byT h l g k s t qh ql rh rl) 5 :=
  seg_at (keep := [2, 3, 4, 5, 6, 13]) (ct := ct) ctOk mixed (by decide) 2000 [.t, .l, .l, .l, .l, .t, .f, .l, .l, .l, .c (.v (.int .i64 (i0))) [] 0, .t, .c (.v (.tuple #[(.int .u64 (i1)), (.int .u64 (i2))])) [] 0] (by kernel_rfl) (cj h0 (cj h1 (cj h2 (cj h3 (cj h4 (cj h5 cj0)))))) hF
theorem byb_2 (h l g k : Int) (s t : Bool) (qh ql rh rl : Int) (i m : Nat) (i0 : Int) (res : SV) (T' : Tab cE) (n' : Nat) (h0 : decide ((i : Int) < 128) = true) (h1 : decide ((i : Int) ≥ 64) = true) (h2 : decide (IntKind.i64.wrap (127 - (i : Int)) < 0) = false) (h3 : Does cE 230 [] 0 [.v (.agg #[(.int .u64 (IntKind.u64.wrap ↑(BitVec.ofInt 64 (IntKind.u64.wrap (rh * 2 ^ 1)) ||| BitVec.ofInt 64 (rl.fdiv (2 ^ 63))).toNat)), (.int .u64 (IntKind.u64.wrap ↑(BitVec.ofInt 64 (IntKind.u64.wrap (rl * 2 ^ 1)) ||| BitVec.ofInt 64 (IntKind.u64.wrap ↑(BitVec.ofInt 64 (l.fdiv (2 ^ Min.min (IntKind.i64.wrap (127 - (i : Int))).toNat 64)) &&& BitVec.ofInt 64 1).toNat)).toNat)), (.bool (false))]), .v (.agg #[(.int .u64 (g)), (.int .u64 (k)), (.bool (false))])] (.v (.int .i64 (i0))) [] 0) (h4 : decide (i0 ≥ 0) = false) (hF : Fin cE Tryz.f216 0 res T' n' (inK byK (m)) [.na, .na, .p 0 0, .p 1 0, .p 2 0, .p 3 0, .p 4 0, .na, .na, .na, .na, .na, .na, .v (.int .i64 (IntKind.i64.wrap ((i : Int) + 1))), .na, .na, .na, .na, .na, .na, .na, .na, .na, .na, .na, .na, .na, .na, .na, .na, .na, .na, .na, .na, .na, .na, .na, .na, .na, .na, .na, .na, .na, .na, .na, .na, .na, .na, .na, .na, .na, .na, .na, .na, .na, .na, .na, .na, .na, .na, .na, .na, .na, .na, .na, .na, .na, .na, .na, .na, .na, .na, .na, .na, .na, .na, .na, .na, .na, .na, .na, .na, .na, .na, .na, .na, .na, .na, .na, .na, .na, .na, .na, .na, .na, .na, .na, .na, .na, .na, .na, .na, .na, .na, .na, .na, .na, .na, .na, .na, .na, .na, .na, .na, .na, .na, .na, .na, .na, .na, .na, .na, .na] [(0, .box 199 [.v (.int .u64 (h)), .v (.int .u64 (l)), .v (.bool (s))]), (1, .box 199 [.v (.int .u64 (g)), .v (.int .u64 (k)), .v (.bool (false))]), (2, .box 199 [.v (.int .u64 (0)), .v (.int .u64 (0)), .v (.bool (false))]), (3, .box 199 [.v (.int .u64 (IntKind.u64.wrap ↑(BitVec.ofInt 64 (IntKind.u64.wrap (qh * 2 ^ 1)) ||| BitVec.ofInt 64 (ql.fdiv (2 ^ 63))).toNat)), .v (.int .u64 (IntKind.u64.wrap (ql * 2 ^ 1))), .v (.bool (false))]), (4, .box 199 [.v (.int .u64 (IntKind.u64.wrap ↑(BitVec.ofInt 64 (IntKind.u64.wrap (rh * 2 ^ 1)) ||| BitVec.ofInt 64 (rl.fdiv (2 ^ 63))).toNat)), .v (.int .u64 (IntKind.u64.wrap ↑(BitVec.ofInt 64 (IntKind.u64.wrap (rl * 2 ^ 1)) ||| BitVec.ofInt 64 (IntKind.u64.wrap ↑(BitVec.ofInt 64 (l.fdiv (2 ^ Min.min (IntKind.i64.wrap (127 - (i : Int))).toNat 64)) &&& BitVec.ofInt 64 1).toNat)).toNat)), .v (.bool (false))])] 5) : Fin cE Tryz.f216 0 res T' n' (bodyK byK m) (byS i) (byT h l g k s t qh ql rh rl) 5 :=
  seg_at (keep := [2, 3, 4, 5, 6, 13]) (ct := ct) ctOk mixed (by decide) 2000 [.t, .l, .l, .l, .l, .t, .f, .l, .l, .l, .c (.v (.int .i64 (i0))) [] 0, .f] (by kernel_rfl) (cj h0 (cj h1 (cj h2 (cj h3 (cj h4 cj0))))) hF
theorem byb_3 (h l g k : Int) (s t : Bool) (qh ql rh rl : Int) (i m : Nat) (i0 : Int) (i1 : Int) (i2 : Int) (res : SV) (T' : Tab cE) (n' : Nat) (h0 : decide ((i : Int) < 128) = true) (h1 : decide ((i : Int) ≥ 64) = false) (h2 : decide (IntKind.i64.wrap (63 - (i : Int)) < 0) = false) (h3 : Does cE 230 [] 0 [.v (.agg #[(.int .u64 (IntKind.u64.wrap ↑(BitVec.ofInt 64 (IntKind.u64.wrap (rh * 2 ^ 1)) ||| BitVec.ofInt 64 (rl.fdiv (2 ^ 63))).toNat)), (.int .u64 (IntKind.u64.wrap ↑(BitVec.ofInt 64 (IntKind.u64.wrap (rl * 2 ^ 1)) ||| BitVec.ofInt 64 (IntKind.u64.wrap ↑(BitVec.ofInt 64 (h.fdiv (2 ^ Min.min (IntKind.i64.wrap (63 - (i : Int))).toNat 64)) &&& BitVec.ofInt 64 1).toNat)).toNat)), (.bool (false))]), .v (.agg #[(.int .u64 (g)), (.int .u64 (k)), (.bool (false))])] (.v (.int .i64 (i0))) [] 0) (h4 : decide (i0 ≥ 0) = true) (h5 : Does cE 231 [] 0 [.v (.int .u64 (IntKind.u64.wrap ↑(BitVec.ofInt 64 (IntKind.u64.wrap (rl * 2 ^ 1)) ||| BitVec.ofInt 64 (IntKind.u64.wrap ↑(BitVec.ofInt 64 (h.fdiv (2 ^ Min.min (IntKind.i64.wrap (63 - (i : Int))).toNat 64)) &&& BitVec.ofInt 64 1).toNat)).toNat)), .v (.int .u64 (k)), .v (.int .u64 (0))] (.v (.tuple #[(.int .u64 (i1)), (.int .u64 (i2))])) [] 0) (hF : Fin cE Tryz.f216 0 res T' n' (inK byK (m)) [.na, .na, .p 0 0, .p 1 0, .p 2 0, .p 3 0, .p 4 0, .na, .na, .na, .na, .na, .na, .v (.int .i64 (IntKind.i64.wrap ((i : Int) + 1))), .na, .na, .na, .na, .na, .na, .na, .na, .na, .na, .na, .na, .na, .na, .na, .na, .na, .na, .na, .na, .na, .na, .na, .na, .na, .na, .na, .na, .na, .na, .na, .na, .na, .na, .na, .na, .na, .na, .na, .na, .na, .na, .na, .na, .na, .na, .na, .na, .na, .na, .na, .na, .na, .na, .na, .na, .na, .na, .na, .na, .na, .na, .na, .na, .na, .na, .na, .na, .na, .na, .na, .na, .na, .na, .na, .na, .na, .na, .na, .na, .na, .na, .na, .na, .na, .na, .na, .na, .na, .na, .na, .na, .na, .na, .na, .na, .na, .na, .na, .na, .na, .na, .na, .na, .na, .na, .na, .na, .na] [(0, .box 199 [.v (.int .u64 (h)), .v (.int .u64 (l)), .v (.bool (s))]), (1, .box 199 [.v (.int .u64 (g)), .v (.int .u64 (k)), .v (.bool (false))]), (2, .box 199 [.v (.int .u64 (0)), .v (.int .u64 (0)), .v (.bool (false))]), (3, .box 199 [.v (.int .u64 (IntKind.u64.wrap ↑(BitVec.ofInt 64 (IntKind.u64.wrap (qh * 2 ^ 1)) ||| BitVec.ofInt 64 (ql.fdiv (2 ^ 63))).toNat)), .v (.int .u64 (IntKind.u64.wrap ↑(BitVec.ofInt 64 (IntKind.u64.wrap (ql * 2 ^ 1)) ||| BitVec.ofInt 64 1).toNat)), .v (.bool (false))]), (4, .box 199 [.v (.int .u64 (IntKind.u64.wrap (IntKind.u64.wrap (IntKind.u64.wrap ↑(BitVec.ofInt 64 (IntKind.u64.wrap (rh * 2 ^ 1)) ||| BitVec.ofInt 64 (rl.fdiv (2 ^ 63))).toNat - g) - i2))), .v (.int .u64 (i1)), .v (.bool (false))])] 5) : Fin cE Tryz.f216 0 res T' n' (bodyK byK m) (byS i) (byT h l g k s t qh ql rh rl) 5 :=
  seg_at (keep := [2, 3, 4, 5, 6, 13]) (ct := ct) ctOk mixed (by decide) 2000 [.t, .l, .l, .l, .l, .f, .f, .l, .l, .l, .c (.v (.int .i64 (i0))) [] 0, .t, .c (.v (.tuple #[(.int .u64 (i1)), (.int .u64 (i2))])) [] 0] (by kernel_rfl) (cj h0 (cj h1 (cj h2 (cj h3 (cj h4 (cj h5 cj0)))))) hF
theorem byb_4 (h l g k : Int) (s t : Bool) (qh ql rh rl : Int) (i m : Nat) (i0 : Int) (res : SV) (T' : Tab cE) (n' : Nat) (h0 : decide ((i : Int) < 128) = true) (h1 : decide ((i : Int) ≥ 64) = false) (h2 : decide (IntKind.i64.wrap (63 - (i : Int)) < 0) = false) (h3 : Does cE 230 [] 0 [.v (.agg #[(.int .u64 (IntKind.u64.wrap ↑(BitVec.ofInt 64 (IntKind.u64.wrap (rh * 2 ^ 1)) ||| BitVec.ofInt 64 (rl.fdiv (2 ^ 63))).toNat)), (.int .u64 (IntKind.u64.wrap ↑(BitVec.ofInt 64 (IntKind.u64.wrap (rl * 2 ^ 1)) ||| BitVec.ofInt 64 (IntKind.u64.wrap ↑(BitVec.ofInt 64 (h.fdiv (2 ^ Min.min (IntKind.i64.wrap (63 - (i : Int))).toNat 64)) &&& BitVec.ofInt 64 1).toNat)).toNat)), (.bool (false))]), .v (.agg #[(.int .u64 (g)), (.int .u64 (k)), (.bool (false))])] (.v (.int .i64 (i0))) [] 0) (h4 : decide (i0 ≥ 0) = false) (hF : Fin cE Tryz.f216 0 res T' n' (inK byK (m)) [.na, .na, .p 0 0, .p 1 0, .p 2 0, .p 3 0, .p 4 0, .na, .na, .na, .na, .na, .na, .v (.int .i64 (IntKind.i64.wrap ((i : Int) + 1))), .na, .na, .na, .na, .na, .na, .na, .na, .na, .na, .na, .na, .na, .na, .na, .na, .na, .na, .na, .na, .na, .na, .na, .na, .na, .na, .na, .na, .na, .na, .na, .na, .na, .na, .na, .na, .na, .na, .na, .na, .na, .na, .na, .na, .na, .na, .na, .na, .na, .na, .na, .na, .na, .na, .na, .na, .na, .na, .na, .na, .na, .na, .na, .na, .na, .na, .na, .na, .na, .na, .na, .na, .na, .na, .na, .na, .na, .na, .na, .na, .na, .na, .na, .na, .na, .na, .na, .na, .na, .na, .na, .na, .na, .na, .na, .na, .na, .na, .na, .na, .na, .na, .na, .na, .na, .na, .na, .na, .na] [(0, .box 199 [.v (.int .u64 (h)), .v (.int .u64 (l)), .v (.bool (s))]), (1, .box 199 [.v (.int .u64 (g)), .v (.int .u64 (k)), .v (.bool (false))]), (2, .box 199 [.v (.int .u64 (0)), .v (.int .u64 (0)), .v (.bool (false))]), (3, .box 199 [.v (.int .u64 (IntKind.u64.wrap ↑(BitVec.ofInt 64 (IntKind.u64.wrap (qh * 2 ^ 1)) ||| BitVec.ofInt 64 (ql.fdiv (2 ^ 63))).toNat)), .v (.int .u64 (IntKind.u64.wrap (ql * 2 ^ 1))), .v (.bool (false))]), (4, .box 199 [.v (.int .u64 (IntKind.u64.wrap ↑(BitVec.ofInt 64 (IntKind.u64.wrap (rh * 2 ^ 1)) ||| BitVec.ofInt 64 (rl.fdiv (2 ^ 63))).toNat)), .v (.int .u64 (IntKind.u64.wrap ↑(BitVec.ofInt 64 (IntKind.u64.wrap (rl * 2 ^ 1)) ||| BitVec.ofInt 64 (IntKind.u64.wrap ↑(BitVec.ofInt 64 (h.fdiv (2 ^ Min.min (IntKind.i64.wrap (63 - (i : Int))).toNat 64)) &&& BitVec.ofInt 64 1).toNat)).toNat)), .v (.bool (false))])] 5) : Fin cE Tryz.f216 0 res T' n' (bodyK byK m) (byS i) (byT h l g k s t qh ql rh rl) 5 :=
  seg_at (keep := [2, 3, 4, 5, 6, 13]) (ct := ct) ctOk mixed (by decide) 2000 [.t, .l, .l, .l, .l, .f, .f, .l, .l, .l, .c (.v (.int .i64 (i0))) [] 0, .f] (by kernel_rfl) (cj h0 (cj h1 (cj h2 (cj h3 (cj h4 cj0))))) hF
theorem byb_5 (h l g k : Int) (s t : Bool) (qh ql rh rl : Int) (i m : Nat) (i0 : Int) (i1 : Int) (i2 : Int) (b3 : Bool) (h0 : decide ((i : Int) < 128) = false) (h1 : Does cE 230 [] 0 [.v (.agg #[(.int .u64 (IntKind.u64.wrap ↑(BitVec.ofInt 64 (IntKind.u64.wrap (rh * 2 ^ 1)) ||| BitVec.ofInt 64 (rl.fdiv (2 ^ 63))).toNat)), (.int .u64 (IntKind.u64.wrap (rl * 2 ^ 1))), (.bool (false))]), .v (.agg #[(.int .u64 (g)), (.int .u64 (k)), (.bool (t))])] (.v (.int .i64 (i0))) [] 0) (h2 : decide (i0 > 0) = true) (h3 : Does cE 175 [] 0 [.v (.agg #[(.int .u64 (qh)), (.int .u64 (ql)), (.bool (false))]), .v (.agg #[(.int .u64 (0)), (.int .u64 (1)), (.bool (false))])] (.v (.agg #[(.int .u64 (i1)), (.int .u64 (i2)), (.bool (b3))])) [] 0) : Fin cE Tryz.f216 0 (.v (.agg #[(.int .u64 (i1)), (.int .u64 (i2)), (.bool (s))])) [] 0 (bodyK byK m) (byS i) (byT h l g k s t qh ql rh rl) 5 :=
  seg_fin (keep := [2, 3, 4, 5, 6, 13]) (ct := ct) ctOk mixed (by decide) 2000 [.f, .l, .l, .l, .c (.v (.int .i64 (i0))) [] 0, .t, .t, .t, .t, .t, .l, .c (.v (.agg #[(.int .u64 (i1)), (.int .u64 (i2)), (.bool (b3))])) [] 0] (by kernel_rfl) (cj h0 (cj h1 (cj h2 (cj h2 (cj h2 (cj h2 (cj h2 (cj h3 cj0))))))))
theorem byb_6 (h l g k : Int) (s t : Bool) (qh ql rh rl : Int) (i m : Nat) (i0 : Int) (i1 : Int) (i2 : Int) (b3 : Bool) (h0 : decide ((i : Int) < 128) = false) (h1 : Does cE 230 [] 0 [.v (.agg #[(.int .u64 (IntKind.u64.wrap ↑(BitVec.ofInt 64 (IntKind.u64.wrap (rh * 2 ^ 1)) ||| BitVec.ofInt 64 (rl.fdiv (2 ^ 63))).toNat)), (.int .u64 (IntKind.u64.wrap (rl * 2 ^ 1))), (.bool (false))]), .v (.agg #[(.int .u64 (g)), (.int .u64 (k)), (.bool (t))])] (.v (.int .i64 (i0))) [] 0) (h2 : decide (i0 > 0) = false) (h3 : (i0 == 0) = true) (h4 : (IntKind.u64.wrap ↑(BitVec.ofInt 64 ql &&& BitVec.ofInt 64 1).toNat == 1) = true) (h5 : Does cE 175 [] 0 [.v (.agg #[(.int .u64 (qh)), (.int .u64 (ql)), (.bool (false))]), .v (.agg #[(.int .u64 (0)), (.int .u64 (1)), (.bool (false))])] (.v (.agg #[(.int .u64 (i1)), (.int .u64 (i2)), (.bool (b3))])) [] 0) : Fin cE Tryz.f216 0 (.v (.agg #[(.int .u64 (i1)), (.int .u64 (i2)), (.bool (s))])) [] 0 (bodyK byK m) (byS i) (byT h l g k s t qh ql rh rl) 5 :=
  seg_fin (keep := [2, 3, 4, 5, 6, 13]) (ct := ct) ctOk mixed (by decide) 2000 [.f, .l, .l, .l, .c (.v (.int .i64 (i0))) [] 0, .f, .f, .f, .t, .t, .t, .t, .f, .t, .f, .t, .c (.v (.agg #[(.int .u64 (i1)), (.int .u64 (i2)), (.bool (b3))])) [] 0] (by kernel_rfl) (cj h0 (cj h1 (cj h2 (cj h2 (cj h2 (cj h3 (cj h3 (cj h3 (cj h3 (cj h2 (cj h3 (cj h2 (cj h4 (cj h5 cj0))))))))))))))
theorem byb_7 (h l g k : Int) (s t : Bool) (qh ql rh rl : Int) (i m : Nat) (i0 : Int) (h0 : decide ((i : Int) < 128) = false) (h1 : Does cE 230 [] 0 [.v (.agg #[(.int .u64 (IntKind.u64.wrap ↑(BitVec.ofInt 64 (IntKind.u64.wrap (rh * 2 ^ 1)) ||| BitVec.ofInt 64 (rl.fdiv (2 ^ 63))).toNat)), (.int .u64 (IntKind.u64.wrap (rl * 2 ^ 1))), (.bool (false))]), .v (.agg #[(.int .u64 (g)), (.int .u64 (k)), (.bool (t))])] (.v (.int .i64 (i0))) [] 0) (h2 : decide (i0 > 0) = false) (h3 : (i0 == 0) = true) (h4 : (IntKind.u64.wrap ↑(BitVec.ofInt 64 ql &&& BitVec.ofInt 64 1).toNat == 1) = false) : Fin cE Tryz.f216 0 (.v (.agg #[(.int .u64 (qh)), (.int .u64 (ql)), (.bool (s))])) [] 0 (bodyK byK m) (byS i) (byT h l g k s t qh ql rh rl) 5 :=
  seg_fin (keep := [2, 3, 4, 5, 6, 13]) (ct := ct) ctOk mixed (by decide) 2000 [.f, .l, .l, .l, .c (.v (.int .i64 (i0))) [] 0, .f, .f, .f, .t, .t, .t, .t, .f, .t, .f, .f] (by kernel_rfl) (cj h0 (cj h1 (cj h2 (cj h2 (cj h2 (cj h3 (cj h3 (cj h3 (cj h3 (cj h2 (cj h3 (cj h2 (cj h4 cj0)))))))))))))
theorem byb_8 (h l g k : Int) (s t : Bool) (qh ql rh rl : Int) (i m : Nat) (i0 : Int) (h0 : decide ((i : Int) < 128) = false) (h1 : Does cE 230 [] 0 [.v (.agg #[(.int .u64 (IntKind.u64.wrap ↑(BitVec.ofInt 64 (IntKind.u64.wrap (rh * 2 ^ 1)) ||| BitVec.ofInt 64 (rl.fdiv (2 ^ 63))).toNat)), (.int .u64 (IntKind.u64.wrap (rl * 2 ^ 1))), (.bool (false))]), .v (.agg #[(.int .u64 (g)), (.int .u64 (k)), (.bool (t))])] (.v (.int .i64 (i0))) [] 0) (h2 : decide (i0 > 0) = false) (h3 : (i0 == 0) = false) : Fin cE Tryz.f216 0 (.v (.agg #[(.int .u64 (qh)), (.int .u64 (ql)), (.bool (s))])) [] 0 (bodyK byK m) (byS i) (byT h l g k s t qh ql rh rl) 5 :=
  seg_fin (keep := [2, 3, 4, 5, 6, 13]) (ct := ct) ctOk mixed (by decide) 2000 [.f, .l, .l, .l, .c (.v (.int .i64 (i0))) [] 0, .f, .f, .f, .f, .f, .f, .f, .f, .f, .f, .l] (by kernel_rfl) (cj h0 (cj h1 (cj h2 (cj h2 (cj h2 (cj h3 (cj h3 (cj h3 (cj h3 (cj h2 (cj h3 (cj h2 cj0))))))))))))
end Go.Proofs.YtnchjdhepakokaaGreatDoorC
/- Each path of each function: on which conditions it is taken, what it gives. Printed by a program (wip/tools/sxexp2.lean); Lean checks each. -/
namespace Go.Proofs.YtnchjdhepakokaaGreatDoorC
open Go.Proofs Go.Proofs.YtnchjdhepakokaaGreatDoorSx
set_option maxRecDepth 100000
set_option linter.unusedVariables false

theorem rbk0_1 (a : List Int) (s : Bool) (sc : Int) (h0 : (a.getD 2 0 != 0) = true) : Does cE 156 [] 0 [.v (wv a s), .v (it sc)] (.v (.tuple #[(.agg #[(.int .i64 (0)), (.int .i64 (0))]), (.int .i64 (32))])) [] 0 :=
  does_path (ct := ct) ctOk mixed (fn := Tryz.f156) rfl (by kernel_rfl) 2000 ([.n 5] ++ rep 0 [.l, .l, .l, .f] ++ [.l, .l, .l, .t]) (by kernel_rfl) (cj (by decide : (0 : Int) ≤ 2 ∧ (2 : Int) < ((6 : Nat) : Int)) (cj h0 cj0))
theorem rbk1_1 (a : List Int) (s : Bool) (sc : Int) (h0 : (a.getD 2 0 != 0) = false) (h1 : (a.getD 3 0 != 0) = true) : Does cE 156 [] 0 [.v (wv a s), .v (it sc)] (.v (.tuple #[(.agg #[(.int .i64 (0)), (.int .i64 (0))]), (.int .i64 (32))])) [] 0 :=
  does_path (ct := ct) ctOk mixed (fn := Tryz.f156) rfl (by kernel_rfl) 2000 ([.n 5] ++ rep 1 [.l, .l, .l, .f] ++ [.l, .l, .l, .t]) (by kernel_rfl) (cj (by decide : (0 : Int) ≤ 2 ∧ (2 : Int) < ((6 : Nat) : Int)) (cj h0 (cj (by decide : (0 : Int) ≤ IntKind.i64.wrap (2 + 1) ∧ IntKind.i64.wrap (2 + 1) < ((6 : Nat) : Int)) (cj h1 cj0))))
theorem rbk2_1 (a : List Int) (s : Bool) (sc : Int) (h0 : (a.getD 2 0 != 0) = false) (h1 : (a.getD 3 0 != 0) = false) (h2 : (a.getD 4 0 != 0) = true) : Does cE 156 [] 0 [.v (wv a s), .v (it sc)] (.v (.tuple #[(.agg #[(.int .i64 (0)), (.int .i64 (0))]), (.int .i64 (32))])) [] 0 :=
  does_path (ct := ct) ctOk mixed (fn := Tryz.f156) rfl (by kernel_rfl) 2000 ([.n 5] ++ rep 2 [.l, .l, .l, .f] ++ [.l, .l, .l, .t]) (by kernel_rfl) (cj (by decide : (0 : Int) ≤ 2 ∧ (2 : Int) < ((6 : Nat) : Int)) (cj h0 (cj (by decide : (0 : Int) ≤ IntKind.i64.wrap (2 + 1) ∧ IntKind.i64.wrap (2 + 1) < ((6 : Nat) : Int)) (cj h1 (cj (by decide : (0 : Int) ≤ IntKind.i64.wrap (IntKind.i64.wrap (2 + 1) + 1) ∧ IntKind.i64.wrap (IntKind.i64.wrap (2 + 1) + 1) < ((6 : Nat) : Int)) (cj h2 cj0))))))
theorem rbk3_1 (a : List Int) (s : Bool) (sc : Int) (h0 : (a.getD 2 0 != 0) = false) (h1 : (a.getD 3 0 != 0) = false) (h2 : (a.getD 4 0 != 0) = false) (h3 : (a.getD 5 0 != 0) = true) : Does cE 156 [] 0 [.v (wv a s), .v (it sc)] (.v (.tuple #[(.agg #[(.int .i64 (0)), (.int .i64 (0))]), (.int .i64 (32))])) [] 0 :=
  does_path (ct := ct) ctOk mixed (fn := Tryz.f156) rfl (by kernel_rfl) 2000 ([.n 5] ++ rep 3 [.l, .l, .l, .f] ++ [.l, .l, .l, .t]) (by kernel_rfl) (cj (by decide : (0 : Int) ≤ 2 ∧ (2 : Int) < ((6 : Nat) : Int)) (cj h0 (cj (by decide : (0 : Int) ≤ IntKind.i64.wrap (2 + 1) ∧ IntKind.i64.wrap (2 + 1) < ((6 : Nat) : Int)) (cj h1 (cj (by decide : (0 : Int) ≤ IntKind.i64.wrap (IntKind.i64.wrap (2 + 1) + 1) ∧ IntKind.i64.wrap (IntKind.i64.wrap (2 + 1) + 1) < ((6 : Nat) : Int)) (cj h2 (cj (by decide : (0 : Int) ≤ IntKind.i64.wrap (IntKind.i64.wrap (IntKind.i64.wrap (2 + 1) + 1) + 1) ∧ IntKind.i64.wrap (IntKind.i64.wrap (IntKind.i64.wrap (2 + 1) + 1) + 1) < ((6 : Nat) : Int)) (cj h3 cj0))))))))
theorem rbk_1 (a : List Int) (s : Bool) (sc : Int) (h0 : (a.getD 2 0 != 0) = false) (h1 : (a.getD 3 0 != 0) = false) (h2 : (a.getD 4 0 != 0) = false) (h3 : (a.getD 5 0 != 0) = false) (h4 : s = true) (h5 : decide (IntKind.u64.wrap (IntKind.u64.wrap (a.getD 1 0 * 4294967296) + a.getD 0 0) ≤ 9223372036854775808) = true) : Does cE 156 [] 0 [.v (wv a s), .v (it sc)] (.v (.tuple #[(.agg #[(.int .i64 (IntKind.i64.wrap (IntKind.u64.wrap (0 - IntKind.u64.wrap (IntKind.u64.wrap (a.getD 1 0 * 4294967296) + a.getD 0 0))))), (.int .i64 (sc))]), (.int .i64 (0))])) [] 0 :=
  does_path (ct := ct) ctOk mixed (fn := Tryz.f156) rfl (by kernel_rfl) 2000 (([.n 5] ++ rep 4 [.l, .l, .l, .f] ++ [.l, .l]) ++ [.l, .l, .t, .t, .t, .t]) (by kernel_rfl) (cj (by decide : (0 : Int) ≤ 2 ∧ (2 : Int) < ((6 : Nat) : Int)) (cj h0 (cj (by decide : (0 : Int) ≤ IntKind.i64.wrap (2 + 1) ∧ IntKind.i64.wrap (2 + 1) < ((6 : Nat) : Int)) (cj h1 (cj (by decide : (0 : Int) ≤ IntKind.i64.wrap (IntKind.i64.wrap (2 + 1) + 1) ∧ IntKind.i64.wrap (IntKind.i64.wrap (2 + 1) + 1) < ((6 : Nat) : Int)) (cj h2 (cj (by decide : (0 : Int) ≤ IntKind.i64.wrap (IntKind.i64.wrap (IntKind.i64.wrap (2 + 1) + 1) + 1) ∧ IntKind.i64.wrap (IntKind.i64.wrap (IntKind.i64.wrap (2 + 1) + 1) + 1) < ((6 : Nat) : Int)) (cj h3 (cj (by decide : (0 : Int) ≤ 1 ∧ (1 : Int) < ((6 : Nat) : Int)) (cj (by decide : (0 : Int) ≤ 0 ∧ (0 : Int) < ((6 : Nat) : Int)) (cj h4 (cj h4 (cj h4 (cj h5 cj0))))))))))))))
theorem rbk_2 (a : List Int) (s : Bool) (sc : Int) (h0 : (a.getD 2 0 != 0) = false) (h1 : (a.getD 3 0 != 0) = false) (h2 : (a.getD 4 0 != 0) = false) (h3 : (a.getD 5 0 != 0) = false) (h4 : s = true) (h5 : decide (IntKind.u64.wrap (IntKind.u64.wrap (a.getD 1 0 * 4294967296) + a.getD 0 0) ≤ 9223372036854775808) = false) (h6 : decide (IntKind.u64.wrap (IntKind.u64.wrap (a.getD 1 0 * 4294967296) + a.getD 0 0) ≥ 9223372036854775808) = true) : Does cE 156 [] 0 [.v (wv a s), .v (it sc)] (.v (.tuple #[(.agg #[(.int .i64 (0)), (.int .i64 (0))]), (.int .i64 (32))])) [] 0 :=
  does_path (ct := ct) ctOk mixed (fn := Tryz.f156) rfl (by kernel_rfl) 2000 (([.n 5] ++ rep 4 [.l, .l, .l, .f] ++ [.l, .l]) ++ [.l, .l, .t, .t, .t, .f, .t]) (by kernel_rfl) (cj (by decide : (0 : Int) ≤ 2 ∧ (2 : Int) < ((6 : Nat) : Int)) (cj h0 (cj (by decide : (0 : Int) ≤ IntKind.i64.wrap (2 + 1) ∧ IntKind.i64.wrap (2 + 1) < ((6 : Nat) : Int)) (cj h1 (cj (by decide : (0 : Int) ≤ IntKind.i64.wrap (IntKind.i64.wrap (2 + 1) + 1) ∧ IntKind.i64.wrap (IntKind.i64.wrap (2 + 1) + 1) < ((6 : Nat) : Int)) (cj h2 (cj (by decide : (0 : Int) ≤ IntKind.i64.wrap (IntKind.i64.wrap (IntKind.i64.wrap (2 + 1) + 1) + 1) ∧ IntKind.i64.wrap (IntKind.i64.wrap (IntKind.i64.wrap (2 + 1) + 1) + 1) < ((6 : Nat) : Int)) (cj h3 (cj (by decide : (0 : Int) ≤ 1 ∧ (1 : Int) < ((6 : Nat) : Int)) (cj (by decide : (0 : Int) ≤ 0 ∧ (0 : Int) < ((6 : Nat) : Int)) (cj h4 (cj h4 (cj h4 (cj h5 (cj h6 cj0)))))))))))))))
theorem rbk_3 (a : List Int) (s : Bool) (sc : Int) (h0 : (a.getD 2 0 != 0) = false) (h1 : (a.getD 3 0 != 0) = false) (h2 : (a.getD 4 0 != 0) = false) (h3 : (a.getD 5 0 != 0) = false) (h4 : s = true) (h5 : decide (IntKind.u64.wrap (IntKind.u64.wrap (a.getD 1 0 * 4294967296) + a.getD 0 0) ≤ 9223372036854775808) = false) (h6 : decide (IntKind.u64.wrap (IntKind.u64.wrap (a.getD 1 0 * 4294967296) + a.getD 0 0) ≥ 9223372036854775808) = false) : Does cE 156 [] 0 [.v (wv a s), .v (it sc)] (.v (.tuple #[(.agg #[(.int .i64 (IntKind.i64.wrap (IntKind.u64.wrap (IntKind.u64.wrap (a.getD 1 0 * 4294967296) + a.getD 0 0)))), (.int .i64 (sc))]), (.int .i64 (0))])) [] 0 :=
  does_path (ct := ct) ctOk mixed (fn := Tryz.f156) rfl (by kernel_rfl) 2000 (([.n 5] ++ rep 4 [.l, .l, .l, .f] ++ [.l, .l]) ++ [.l, .l, .t, .t, .t, .f, .f]) (by kernel_rfl) (cj (by decide : (0 : Int) ≤ 2 ∧ (2 : Int) < ((6 : Nat) : Int)) (cj h0 (cj (by decide : (0 : Int) ≤ IntKind.i64.wrap (2 + 1) ∧ IntKind.i64.wrap (2 + 1) < ((6 : Nat) : Int)) (cj h1 (cj (by decide : (0 : Int) ≤ IntKind.i64.wrap (IntKind.i64.wrap (2 + 1) + 1) ∧ IntKind.i64.wrap (IntKind.i64.wrap (2 + 1) + 1) < ((6 : Nat) : Int)) (cj h2 (cj (by decide : (0 : Int) ≤ IntKind.i64.wrap (IntKind.i64.wrap (IntKind.i64.wrap (2 + 1) + 1) + 1) ∧ IntKind.i64.wrap (IntKind.i64.wrap (IntKind.i64.wrap (2 + 1) + 1) + 1) < ((6 : Nat) : Int)) (cj h3 (cj (by decide : (0 : Int) ≤ 1 ∧ (1 : Int) < ((6 : Nat) : Int)) (cj (by decide : (0 : Int) ≤ 0 ∧ (0 : Int) < ((6 : Nat) : Int)) (cj h4 (cj h4 (cj h4 (cj h5 (cj h6 cj0)))))))))))))))
theorem rbk_4 (a : List Int) (s : Bool) (sc : Int) (h0 : (a.getD 2 0 != 0) = false) (h1 : (a.getD 3 0 != 0) = false) (h2 : (a.getD 4 0 != 0) = false) (h3 : (a.getD 5 0 != 0) = false) (h4 : s = false) (h5 : decide (IntKind.u64.wrap (IntKind.u64.wrap (a.getD 1 0 * 4294967296) + a.getD 0 0) ≥ 9223372036854775808) = true) : Does cE 156 [] 0 [.v (wv a s), .v (it sc)] (.v (.tuple #[(.agg #[(.int .i64 (0)), (.int .i64 (0))]), (.int .i64 (32))])) [] 0 :=
  does_path (ct := ct) ctOk mixed (fn := Tryz.f156) rfl (by kernel_rfl) 2000 (([.n 5] ++ rep 4 [.l, .l, .l, .f] ++ [.l, .l]) ++ [.l, .l, .f, .f, .f, .l, .t]) (by kernel_rfl) (cj (by decide : (0 : Int) ≤ 2 ∧ (2 : Int) < ((6 : Nat) : Int)) (cj h0 (cj (by decide : (0 : Int) ≤ IntKind.i64.wrap (2 + 1) ∧ IntKind.i64.wrap (2 + 1) < ((6 : Nat) : Int)) (cj h1 (cj (by decide : (0 : Int) ≤ IntKind.i64.wrap (IntKind.i64.wrap (2 + 1) + 1) ∧ IntKind.i64.wrap (IntKind.i64.wrap (2 + 1) + 1) < ((6 : Nat) : Int)) (cj h2 (cj (by decide : (0 : Int) ≤ IntKind.i64.wrap (IntKind.i64.wrap (IntKind.i64.wrap (2 + 1) + 1) + 1) ∧ IntKind.i64.wrap (IntKind.i64.wrap (IntKind.i64.wrap (2 + 1) + 1) + 1) < ((6 : Nat) : Int)) (cj h3 (cj (by decide : (0 : Int) ≤ 1 ∧ (1 : Int) < ((6 : Nat) : Int)) (cj (by decide : (0 : Int) ≤ 0 ∧ (0 : Int) < ((6 : Nat) : Int)) (cj h4 (cj h4 (cj h4 (cj h5 cj0))))))))))))))
theorem rbk_5 (a : List Int) (s : Bool) (sc : Int) (h0 : (a.getD 2 0 != 0) = false) (h1 : (a.getD 3 0 != 0) = false) (h2 : (a.getD 4 0 != 0) = false) (h3 : (a.getD 5 0 != 0) = false) (h4 : s = false) (h5 : decide (IntKind.u64.wrap (IntKind.u64.wrap (a.getD 1 0 * 4294967296) + a.getD 0 0) ≥ 9223372036854775808) = false) : Does cE 156 [] 0 [.v (wv a s), .v (it sc)] (.v (.tuple #[(.agg #[(.int .i64 (IntKind.i64.wrap (IntKind.u64.wrap (IntKind.u64.wrap (a.getD 1 0 * 4294967296) + a.getD 0 0)))), (.int .i64 (sc))]), (.int .i64 (0))])) [] 0 :=
  does_path (ct := ct) ctOk mixed (fn := Tryz.f156) rfl (by kernel_rfl) 2000 (([.n 5] ++ rep 4 [.l, .l, .l, .f] ++ [.l, .l]) ++ [.l, .l, .f, .f, .f, .l, .f]) (by kernel_rfl) (cj (by decide : (0 : Int) ≤ 2 ∧ (2 : Int) < ((6 : Nat) : Int)) (cj h0 (cj (by decide : (0 : Int) ≤ IntKind.i64.wrap (2 + 1) ∧ IntKind.i64.wrap (2 + 1) < ((6 : Nat) : Int)) (cj h1 (cj (by decide : (0 : Int) ≤ IntKind.i64.wrap (IntKind.i64.wrap (2 + 1) + 1) ∧ IntKind.i64.wrap (IntKind.i64.wrap (2 + 1) + 1) < ((6 : Nat) : Int)) (cj h2 (cj (by decide : (0 : Int) ≤ IntKind.i64.wrap (IntKind.i64.wrap (IntKind.i64.wrap (2 + 1) + 1) + 1) ∧ IntKind.i64.wrap (IntKind.i64.wrap (IntKind.i64.wrap (2 + 1) + 1) + 1) < ((6 : Nat) : Int)) (cj h3 (cj (by decide : (0 : Int) ≤ 1 ∧ (1 : Int) < ((6 : Nat) : Int)) (cj (by decide : (0 : Int) ≤ 0 ∧ (0 : Int) < ((6 : Nat) : Int)) (cj h4 (cj h4 (cj h4 (cj h5 cj0))))))))))))))
theorem zer0_1 (a : List Int) (s : Bool) (h0 : (a.getD 0 0 != 0) = true) : Does cE 180 [] 0 [.v (wv a s)] (.v (.bool (false))) [] 0 :=
  does_path (ct := ct) ctOk mixed (fn := Tryz.f180) rfl (by kernel_rfl) 2000 ([.n 7] ++ rep 0 [.l, .l, .l, .f] ++ [.l, .l, .l, .t]) (by kernel_rfl) (cj (by decide : (0 : Int) ≤ 0 ∧ (0 : Int) < ((6 : Nat) : Int)) (cj h0 cj0))
theorem zer1_1 (a : List Int) (s : Bool) (h0 : (a.getD 0 0 != 0) = false) (h1 : (a.getD 1 0 != 0) = true) : Does cE 180 [] 0 [.v (wv a s)] (.v (.bool (false))) [] 0 :=
  does_path (ct := ct) ctOk mixed (fn := Tryz.f180) rfl (by kernel_rfl) 2000 ([.n 7] ++ rep 1 [.l, .l, .l, .f] ++ [.l, .l, .l, .t]) (by kernel_rfl) (cj (by decide : (0 : Int) ≤ 0 ∧ (0 : Int) < ((6 : Nat) : Int)) (cj h0 (cj (by decide : (0 : Int) ≤ IntKind.i64.wrap (0 + 1) ∧ IntKind.i64.wrap (0 + 1) < ((6 : Nat) : Int)) (cj h1 cj0))))
theorem zer2_1 (a : List Int) (s : Bool) (h0 : (a.getD 0 0 != 0) = false) (h1 : (a.getD 1 0 != 0) = false) (h2 : (a.getD 2 0 != 0) = true) : Does cE 180 [] 0 [.v (wv a s)] (.v (.bool (false))) [] 0 :=
  does_path (ct := ct) ctOk mixed (fn := Tryz.f180) rfl (by kernel_rfl) 2000 ([.n 7] ++ rep 2 [.l, .l, .l, .f] ++ [.l, .l, .l, .t]) (by kernel_rfl) (cj (by decide : (0 : Int) ≤ 0 ∧ (0 : Int) < ((6 : Nat) : Int)) (cj h0 (cj (by decide : (0 : Int) ≤ IntKind.i64.wrap (0 + 1) ∧ IntKind.i64.wrap (0 + 1) < ((6 : Nat) : Int)) (cj h1 (cj (by decide : (0 : Int) ≤ IntKind.i64.wrap (IntKind.i64.wrap (0 + 1) + 1) ∧ IntKind.i64.wrap (IntKind.i64.wrap (0 + 1) + 1) < ((6 : Nat) : Int)) (cj h2 cj0))))))
theorem zer3_1 (a : List Int) (s : Bool) (h0 : (a.getD 0 0 != 0) = false) (h1 : (a.getD 1 0 != 0) = false) (h2 : (a.getD 2 0 != 0) = false) (h3 : (a.getD 3 0 != 0) = true) : Does cE 180 [] 0 [.v (wv a s)] (.v (.bool (false))) [] 0 :=
  does_path (ct := ct) ctOk mixed (fn := Tryz.f180) rfl (by kernel_rfl) 2000 ([.n 7] ++ rep 3 [.l, .l, .l, .f] ++ [.l, .l, .l, .t]) (by kernel_rfl) (cj (by decide : (0 : Int) ≤ 0 ∧ (0 : Int) < ((6 : Nat) : Int)) (cj h0 (cj (by decide : (0 : Int) ≤ IntKind.i64.wrap (0 + 1) ∧ IntKind.i64.wrap (0 + 1) < ((6 : Nat) : Int)) (cj h1 (cj (by decide : (0 : Int) ≤ IntKind.i64.wrap (IntKind.i64.wrap (0 + 1) + 1) ∧ IntKind.i64.wrap (IntKind.i64.wrap (0 + 1) + 1) < ((6 : Nat) : Int)) (cj h2 (cj (by decide : (0 : Int) ≤ IntKind.i64.wrap (IntKind.i64.wrap (IntKind.i64.wrap (0 + 1) + 1) + 1) ∧ IntKind.i64.wrap (IntKind.i64.wrap (IntKind.i64.wrap (0 + 1) + 1) + 1) < ((6 : Nat) : Int)) (cj h3 cj0))))))))
theorem zer4_1 (a : List Int) (s : Bool) (h0 : (a.getD 0 0 != 0) = false) (h1 : (a.getD 1 0 != 0) = false) (h2 : (a.getD 2 0 != 0) = false) (h3 : (a.getD 3 0 != 0) = false) (h4 : (a.getD 4 0 != 0) = true) : Does cE 180 [] 0 [.v (wv a s)] (.v (.bool (false))) [] 0 :=
  does_path (ct := ct) ctOk mixed (fn := Tryz.f180) rfl (by kernel_rfl) 2000 ([.n 7] ++ rep 4 [.l, .l, .l, .f] ++ [.l, .l, .l, .t]) (by kernel_rfl) (cj (by decide : (0 : Int) ≤ 0 ∧ (0 : Int) < ((6 : Nat) : Int)) (cj h0 (cj (by decide : (0 : Int) ≤ IntKind.i64.wrap (0 + 1) ∧ IntKind.i64.wrap (0 + 1) < ((6 : Nat) : Int)) (cj h1 (cj (by decide : (0 : Int) ≤ IntKind.i64.wrap (IntKind.i64.wrap (0 + 1) + 1) ∧ IntKind.i64.wrap (IntKind.i64.wrap (0 + 1) + 1) < ((6 : Nat) : Int)) (cj h2 (cj (by decide : (0 : Int) ≤ IntKind.i64.wrap (IntKind.i64.wrap (IntKind.i64.wrap (0 + 1) + 1) + 1) ∧ IntKind.i64.wrap (IntKind.i64.wrap (IntKind.i64.wrap (0 + 1) + 1) + 1) < ((6 : Nat) : Int)) (cj h3 (cj (by decide : (0 : Int) ≤ IntKind.i64.wrap (IntKind.i64.wrap (IntKind.i64.wrap (IntKind.i64.wrap (0 + 1) + 1) + 1) + 1) ∧ IntKind.i64.wrap (IntKind.i64.wrap (IntKind.i64.wrap (IntKind.i64.wrap (0 + 1) + 1) + 1) + 1) < ((6 : Nat) : Int)) (cj h4 cj0))))))))))
theorem zer5_1 (a : List Int) (s : Bool) (h0 : (a.getD 0 0 != 0) = false) (h1 : (a.getD 1 0 != 0) = false) (h2 : (a.getD 2 0 != 0) = false) (h3 : (a.getD 3 0 != 0) = false) (h4 : (a.getD 4 0 != 0) = false) (h5 : (a.getD 5 0 != 0) = true) : Does cE 180 [] 0 [.v (wv a s)] (.v (.bool (false))) [] 0 :=
  does_path (ct := ct) ctOk mixed (fn := Tryz.f180) rfl (by kernel_rfl) 2000 ([.n 7] ++ rep 5 [.l, .l, .l, .f] ++ [.l, .l, .l, .t]) (by kernel_rfl) (cj (by decide : (0 : Int) ≤ 0 ∧ (0 : Int) < ((6 : Nat) : Int)) (cj h0 (cj (by decide : (0 : Int) ≤ IntKind.i64.wrap (0 + 1) ∧ IntKind.i64.wrap (0 + 1) < ((6 : Nat) : Int)) (cj h1 (cj (by decide : (0 : Int) ≤ IntKind.i64.wrap (IntKind.i64.wrap (0 + 1) + 1) ∧ IntKind.i64.wrap (IntKind.i64.wrap (0 + 1) + 1) < ((6 : Nat) : Int)) (cj h2 (cj (by decide : (0 : Int) ≤ IntKind.i64.wrap (IntKind.i64.wrap (IntKind.i64.wrap (0 + 1) + 1) + 1) ∧ IntKind.i64.wrap (IntKind.i64.wrap (IntKind.i64.wrap (0 + 1) + 1) + 1) < ((6 : Nat) : Int)) (cj h3 (cj (by decide : (0 : Int) ≤ IntKind.i64.wrap (IntKind.i64.wrap (IntKind.i64.wrap (IntKind.i64.wrap (0 + 1) + 1) + 1) + 1) ∧ IntKind.i64.wrap (IntKind.i64.wrap (IntKind.i64.wrap (IntKind.i64.wrap (0 + 1) + 1) + 1) + 1) < ((6 : Nat) : Int)) (cj h4 (cj (by decide : (0 : Int) ≤ IntKind.i64.wrap (IntKind.i64.wrap (IntKind.i64.wrap (IntKind.i64.wrap (IntKind.i64.wrap (0 + 1) + 1) + 1) + 1) + 1) ∧ IntKind.i64.wrap (IntKind.i64.wrap (IntKind.i64.wrap (IntKind.i64.wrap (IntKind.i64.wrap (0 + 1) + 1) + 1) + 1) + 1) < ((6 : Nat) : Int)) (cj h5 cj0))))))))))))
theorem zer_1 (a : List Int) (s : Bool) (h0 : (a.getD 0 0 != 0) = false) (h1 : (a.getD 1 0 != 0) = false) (h2 : (a.getD 2 0 != 0) = false) (h3 : (a.getD 3 0 != 0) = false) (h4 : (a.getD 4 0 != 0) = false) (h5 : (a.getD 5 0 != 0) = false) : Does cE 180 [] 0 [.v (wv a s)] (.v (.bool (true))) [] 0 :=
  does_path (ct := ct) ctOk mixed (fn := Tryz.f180) rfl (by kernel_rfl) 2000 ([.n 7] ++ rep 6 [.l, .l, .l, .f] ++ [.l, .l]) (by kernel_rfl) (cj (by decide : (0 : Int) ≤ 0 ∧ (0 : Int) < ((6 : Nat) : Int)) (cj h0 (cj (by decide : (0 : Int) ≤ IntKind.i64.wrap (0 + 1) ∧ IntKind.i64.wrap (0 + 1) < ((6 : Nat) : Int)) (cj h1 (cj (by decide : (0 : Int) ≤ IntKind.i64.wrap (IntKind.i64.wrap (0 + 1) + 1) ∧ IntKind.i64.wrap (IntKind.i64.wrap (0 + 1) + 1) < ((6 : Nat) : Int)) (cj h2 (cj (by decide : (0 : Int) ≤ IntKind.i64.wrap (IntKind.i64.wrap (IntKind.i64.wrap (0 + 1) + 1) + 1) ∧ IntKind.i64.wrap (IntKind.i64.wrap (IntKind.i64.wrap (0 + 1) + 1) + 1) < ((6 : Nat) : Int)) (cj h3 (cj (by decide : (0 : Int) ≤ IntKind.i64.wrap (IntKind.i64.wrap (IntKind.i64.wrap (IntKind.i64.wrap (0 + 1) + 1) + 1) + 1) ∧ IntKind.i64.wrap (IntKind.i64.wrap (IntKind.i64.wrap (IntKind.i64.wrap (0 + 1) + 1) + 1) + 1) < ((6 : Nat) : Int)) (cj h4 (cj (by decide : (0 : Int) ≤ IntKind.i64.wrap (IntKind.i64.wrap (IntKind.i64.wrap (IntKind.i64.wrap (IntKind.i64.wrap (0 + 1) + 1) + 1) + 1) + 1) ∧ IntKind.i64.wrap (IntKind.i64.wrap (IntKind.i64.wrap (IntKind.i64.wrap (IntKind.i64.wrap (0 + 1) + 1) + 1) + 1) + 1) < ((6 : Nat) : Int)) (cj h5 cj0))))))))))))
theorem les0_1 (a b : List Int) (s t : Bool) (h0 : (a.getD 5 0 != b.getD 5 0) = true) : Does cE 218 [] 0 [.v (wv a s), .v (wv b t)] (.v (.bool (decide (a.getD 5 0 < b.getD 5 0)))) [] 0 :=
  does_path (ct := ct) ctOk mixed (fn := Tryz.f218) rfl (by kernel_rfl) 2000 ([.n 7] ++ rep 0 [.l, .l, .l, .l, .f] ++ [.l, .l, .l, .l, .t, .l, .l]) (by kernel_rfl) (cj (by decide : (0 : Int) ≤ 5 ∧ (5 : Int) < ((6 : Nat) : Int)) (cj (by decide : (0 : Int) ≤ 5 ∧ (5 : Int) < ((6 : Nat) : Int)) (cj h0 (cj (by decide : (0 : Int) ≤ 5 ∧ (5 : Int) < ((6 : Nat) : Int)) (cj (by decide : (0 : Int) ≤ 5 ∧ (5 : Int) < ((6 : Nat) : Int)) cj0)))))
theorem les1_1 (a b : List Int) (s t : Bool) (h0 : (a.getD 5 0 != b.getD 5 0) = false) (h1 : (a.getD 4 0 != b.getD 4 0) = true) : Does cE 218 [] 0 [.v (wv a s), .v (wv b t)] (.v (.bool (decide (a.getD 4 0 < b.getD 4 0)))) [] 0 :=
  does_path (ct := ct) ctOk mixed (fn := Tryz.f218) rfl (by kernel_rfl) 2000 ([.n 7] ++ rep 1 [.l, .l, .l, .l, .f] ++ [.l, .l, .l, .l, .t, .l, .l]) (by kernel_rfl) (cj (by decide : (0 : Int) ≤ 5 ∧ (5 : Int) < ((6 : Nat) : Int)) (cj (by decide : (0 : Int) ≤ 5 ∧ (5 : Int) < ((6 : Nat) : Int)) (cj h0 (cj (by decide : (0 : Int) ≤ IntKind.i64.wrap (5 - 1) ∧ IntKind.i64.wrap (5 - 1) < ((6 : Nat) : Int)) (cj (by decide : (0 : Int) ≤ IntKind.i64.wrap (5 - 1) ∧ IntKind.i64.wrap (5 - 1) < ((6 : Nat) : Int)) (cj h1 (cj (by decide : (0 : Int) ≤ IntKind.i64.wrap (5 - 1) ∧ IntKind.i64.wrap (5 - 1) < ((6 : Nat) : Int)) (cj (by decide : (0 : Int) ≤ IntKind.i64.wrap (5 - 1) ∧ IntKind.i64.wrap (5 - 1) < ((6 : Nat) : Int)) cj0))))))))
theorem les2_1 (a b : List Int) (s t : Bool) (h0 : (a.getD 5 0 != b.getD 5 0) = false) (h1 : (a.getD 4 0 != b.getD 4 0) = false) (h2 : (a.getD 3 0 != b.getD 3 0) = true) : Does cE 218 [] 0 [.v (wv a s), .v (wv b t)] (.v (.bool (decide (a.getD 3 0 < b.getD 3 0)))) [] 0 :=
  does_path (ct := ct) ctOk mixed (fn := Tryz.f218) rfl (by kernel_rfl) 2000 ([.n 7] ++ rep 2 [.l, .l, .l, .l, .f] ++ [.l, .l, .l, .l, .t, .l, .l]) (by kernel_rfl) (cj (by decide : (0 : Int) ≤ 5 ∧ (5 : Int) < ((6 : Nat) : Int)) (cj (by decide : (0 : Int) ≤ 5 ∧ (5 : Int) < ((6 : Nat) : Int)) (cj h0 (cj (by decide : (0 : Int) ≤ IntKind.i64.wrap (5 - 1) ∧ IntKind.i64.wrap (5 - 1) < ((6 : Nat) : Int)) (cj (by decide : (0 : Int) ≤ IntKind.i64.wrap (5 - 1) ∧ IntKind.i64.wrap (5 - 1) < ((6 : Nat) : Int)) (cj h1 (cj (by decide : (0 : Int) ≤ IntKind.i64.wrap (IntKind.i64.wrap (5 - 1) - 1) ∧ IntKind.i64.wrap (IntKind.i64.wrap (5 - 1) - 1) < ((6 : Nat) : Int)) (cj (by decide : (0 : Int) ≤ IntKind.i64.wrap (IntKind.i64.wrap (5 - 1) - 1) ∧ IntKind.i64.wrap (IntKind.i64.wrap (5 - 1) - 1) < ((6 : Nat) : Int)) (cj h2 (cj (by decide : (0 : Int) ≤ IntKind.i64.wrap (IntKind.i64.wrap (5 - 1) - 1) ∧ IntKind.i64.wrap (IntKind.i64.wrap (5 - 1) - 1) < ((6 : Nat) : Int)) (cj (by decide : (0 : Int) ≤ IntKind.i64.wrap (IntKind.i64.wrap (5 - 1) - 1) ∧ IntKind.i64.wrap (IntKind.i64.wrap (5 - 1) - 1) < ((6 : Nat) : Int)) cj0)))))))))))
theorem les3_1 (a b : List Int) (s t : Bool) (h0 : (a.getD 5 0 != b.getD 5 0) = false) (h1 : (a.getD 4 0 != b.getD 4 0) = false) (h2 : (a.getD 3 0 != b.getD 3 0) = false) (h3 : (a.getD 2 0 != b.getD 2 0) = true) : Does cE 218 [] 0 [.v (wv a s), .v (wv b t)] (.v (.bool (decide (a.getD 2 0 < b.getD 2 0)))) [] 0 :=
  does_path (ct := ct) ctOk mixed (fn := Tryz.f218) rfl (by kernel_rfl) 2000 ([.n 7] ++ rep 3 [.l, .l, .l, .l, .f] ++ [.l, .l, .l, .l, .t, .l, .l]) (by kernel_rfl) (cj (by decide : (0 : Int) ≤ 5 ∧ (5 : Int) < ((6 : Nat) : Int)) (cj (by decide : (0 : Int) ≤ 5 ∧ (5 : Int) < ((6 : Nat) : Int)) (cj h0 (cj (by decide : (0 : Int) ≤ IntKind.i64.wrap (5 - 1) ∧ IntKind.i64.wrap (5 - 1) < ((6 : Nat) : Int)) (cj (by decide : (0 : Int) ≤ IntKind.i64.wrap (5 - 1) ∧ IntKind.i64.wrap (5 - 1) < ((6 : Nat) : Int)) (cj h1 (cj (by decide : (0 : Int) ≤ IntKind.i64.wrap (IntKind.i64.wrap (5 - 1) - 1) ∧ IntKind.i64.wrap (IntKind.i64.wrap (5 - 1) - 1) < ((6 : Nat) : Int)) (cj (by decide : (0 : Int) ≤ IntKind.i64.wrap (IntKind.i64.wrap (5 - 1) - 1) ∧ IntKind.i64.wrap (IntKind.i64.wrap (5 - 1) - 1) < ((6 : Nat) : Int)) (cj h2 (cj (by decide : (0 : Int) ≤ IntKind.i64.wrap (IntKind.i64.wrap (IntKind.i64.wrap (5 - 1) - 1) - 1) ∧ IntKind.i64.wrap (IntKind.i64.wrap (IntKind.i64.wrap (5 - 1) - 1) - 1) < ((6 : Nat) : Int)) (cj (by decide : (0 : Int) ≤ IntKind.i64.wrap (IntKind.i64.wrap (IntKind.i64.wrap (5 - 1) - 1) - 1) ∧ IntKind.i64.wrap (IntKind.i64.wrap (IntKind.i64.wrap (5 - 1) - 1) - 1) < ((6 : Nat) : Int)) (cj h3 (cj (by decide : (0 : Int) ≤ IntKind.i64.wrap (IntKind.i64.wrap (IntKind.i64.wrap (5 - 1) - 1) - 1) ∧ IntKind.i64.wrap (IntKind.i64.wrap (IntKind.i64.wrap (5 - 1) - 1) - 1) < ((6 : Nat) : Int)) (cj (by decide : (0 : Int) ≤ IntKind.i64.wrap (IntKind.i64.wrap (IntKind.i64.wrap (5 - 1) - 1) - 1) ∧ IntKind.i64.wrap (IntKind.i64.wrap (IntKind.i64.wrap (5 - 1) - 1) - 1) < ((6 : Nat) : Int)) cj0))))))))))))))
theorem les4_1 (a b : List Int) (s t : Bool) (h0 : (a.getD 5 0 != b.getD 5 0) = false) (h1 : (a.getD 4 0 != b.getD 4 0) = false) (h2 : (a.getD 3 0 != b.getD 3 0) = false) (h3 : (a.getD 2 0 != b.getD 2 0) = false) (h4 : (a.getD 1 0 != b.getD 1 0) = true) : Does cE 218 [] 0 [.v (wv a s), .v (wv b t)] (.v (.bool (decide (a.getD 1 0 < b.getD 1 0)))) [] 0 :=
  does_path (ct := ct) ctOk mixed (fn := Tryz.f218) rfl (by kernel_rfl) 2000 ([.n 7] ++ rep 4 [.l, .l, .l, .l, .f] ++ [.l, .l, .l, .l, .t, .l, .l]) (by kernel_rfl) (cj (by decide : (0 : Int) ≤ 5 ∧ (5 : Int) < ((6 : Nat) : Int)) (cj (by decide : (0 : Int) ≤ 5 ∧ (5 : Int) < ((6 : Nat) : Int)) (cj h0 (cj (by decide : (0 : Int) ≤ IntKind.i64.wrap (5 - 1) ∧ IntKind.i64.wrap (5 - 1) < ((6 : Nat) : Int)) (cj (by decide : (0 : Int) ≤ IntKind.i64.wrap (5 - 1) ∧ IntKind.i64.wrap (5 - 1) < ((6 : Nat) : Int)) (cj h1 (cj (by decide : (0 : Int) ≤ IntKind.i64.wrap (IntKind.i64.wrap (5 - 1) - 1) ∧ IntKind.i64.wrap (IntKind.i64.wrap (5 - 1) - 1) < ((6 : Nat) : Int)) (cj (by decide : (0 : Int) ≤ IntKind.i64.wrap (IntKind.i64.wrap (5 - 1) - 1) ∧ IntKind.i64.wrap (IntKind.i64.wrap (5 - 1) - 1) < ((6 : Nat) : Int)) (cj h2 (cj (by decide : (0 : Int) ≤ IntKind.i64.wrap (IntKind.i64.wrap (IntKind.i64.wrap (5 - 1) - 1) - 1) ∧ IntKind.i64.wrap (IntKind.i64.wrap (IntKind.i64.wrap (5 - 1) - 1) - 1) < ((6 : Nat) : Int)) (cj (by decide : (0 : Int) ≤ IntKind.i64.wrap (IntKind.i64.wrap (IntKind.i64.wrap (5 - 1) - 1) - 1) ∧ IntKind.i64.wrap (IntKind.i64.wrap (IntKind.i64.wrap (5 - 1) - 1) - 1) < ((6 : Nat) : Int)) (cj h3 (cj (by decide : (0 : Int) ≤ IntKind.i64.wrap (IntKind.i64.wrap (IntKind.i64.wrap (IntKind.i64.wrap (5 - 1) - 1) - 1) - 1) ∧ IntKind.i64.wrap (IntKind.i64.wrap (IntKind.i64.wrap (IntKind.i64.wrap (5 - 1) - 1) - 1) - 1) < ((6 : Nat) : Int)) (cj (by decide : (0 : Int) ≤ IntKind.i64.wrap (IntKind.i64.wrap (IntKind.i64.wrap (IntKind.i64.wrap (5 - 1) - 1) - 1) - 1) ∧ IntKind.i64.wrap (IntKind.i64.wrap (IntKind.i64.wrap (IntKind.i64.wrap (5 - 1) - 1) - 1) - 1) < ((6 : Nat) : Int)) (cj h4 (cj (by decide : (0 : Int) ≤ IntKind.i64.wrap (IntKind.i64.wrap (IntKind.i64.wrap (IntKind.i64.wrap (5 - 1) - 1) - 1) - 1) ∧ IntKind.i64.wrap (IntKind.i64.wrap (IntKind.i64.wrap (IntKind.i64.wrap (5 - 1) - 1) - 1) - 1) < ((6 : Nat) : Int)) (cj (by decide : (0 : Int) ≤ IntKind.i64.wrap (IntKind.i64.wrap (IntKind.i64.wrap (IntKind.i64.wrap (5 - 1) - 1) - 1) - 1) ∧ IntKind.i64.wrap (IntKind.i64.wrap (IntKind.i64.wrap (IntKind.i64.wrap (5 - 1) - 1) - 1) - 1) < ((6 : Nat) : Int)) cj0)))))))))))))))))
theorem les5_1 (a b : List Int) (s t : Bool) (h0 : (a.getD 5 0 != b.getD 5 0) = false) (h1 : (a.getD 4 0 != b.getD 4 0) = false) (h2 : (a.getD 3 0 != b.getD 3 0) = false) (h3 : (a.getD 2 0 != b.getD 2 0) = false) (h4 : (a.getD 1 0 != b.getD 1 0) = false) (h5 : (a.getD 0 0 != b.getD 0 0) = true) : Does cE 218 [] 0 [.v (wv a s), .v (wv b t)] (.v (.bool (decide (a.getD 0 0 < b.getD 0 0)))) [] 0 :=
  does_path (ct := ct) ctOk mixed (fn := Tryz.f218) rfl (by kernel_rfl) 2000 ([.n 7] ++ rep 5 [.l, .l, .l, .l, .f] ++ [.l, .l, .l, .l, .t, .l, .l]) (by kernel_rfl) (cj (by decide : (0 : Int) ≤ 5 ∧ (5 : Int) < ((6 : Nat) : Int)) (cj (by decide : (0 : Int) ≤ 5 ∧ (5 : Int) < ((6 : Nat) : Int)) (cj h0 (cj (by decide : (0 : Int) ≤ IntKind.i64.wrap (5 - 1) ∧ IntKind.i64.wrap (5 - 1) < ((6 : Nat) : Int)) (cj (by decide : (0 : Int) ≤ IntKind.i64.wrap (5 - 1) ∧ IntKind.i64.wrap (5 - 1) < ((6 : Nat) : Int)) (cj h1 (cj (by decide : (0 : Int) ≤ IntKind.i64.wrap (IntKind.i64.wrap (5 - 1) - 1) ∧ IntKind.i64.wrap (IntKind.i64.wrap (5 - 1) - 1) < ((6 : Nat) : Int)) (cj (by decide : (0 : Int) ≤ IntKind.i64.wrap (IntKind.i64.wrap (5 - 1) - 1) ∧ IntKind.i64.wrap (IntKind.i64.wrap (5 - 1) - 1) < ((6 : Nat) : Int)) (cj h2 (cj (by decide : (0 : Int) ≤ IntKind.i64.wrap (IntKind.i64.wrap (IntKind.i64.wrap (5 - 1) - 1) - 1) ∧ IntKind.i64.wrap (IntKind.i64.wrap (IntKind.i64.wrap (5 - 1) - 1) - 1) < ((6 : Nat) : Int)) (cj (by decide : (0 : Int) ≤ IntKind.i64.wrap (IntKind.i64.wrap (IntKind.i64.wrap (5 - 1) - 1) - 1) ∧ IntKind.i64.wrap (IntKind.i64.wrap (IntKind.i64.wrap (5 - 1) - 1) - 1) < ((6 : Nat) : Int)) (cj h3 (cj (by decide : (0 : Int) ≤ IntKind.i64.wrap (IntKind.i64.wrap (IntKind.i64.wrap (IntKind.i64.wrap (5 - 1) - 1) - 1) - 1) ∧ IntKind.i64.wrap (IntKind.i64.wrap (IntKind.i64.wrap (IntKind.i64.wrap (5 - 1) - 1) - 1) - 1) < ((6 : Nat) : Int)) (cj (by decide : (0 : Int) ≤ IntKind.i64.wrap (IntKind.i64.wrap (IntKind.i64.wrap (IntKind.i64.wrap (5 - 1) - 1) - 1) - 1) ∧ IntKind.i64.wrap (IntKind.i64.wrap (IntKind.i64.wrap (IntKind.i64.wrap (5 - 1) - 1) - 1) - 1) < ((6 : Nat) : Int)) (cj h4 (cj (by decide : (0 : Int) ≤ IntKind.i64.wrap (IntKind.i64.wrap (IntKind.i64.wrap (IntKind.i64.wrap (IntKind.i64.wrap (5 - 1) - 1) - 1) - 1) - 1) ∧ IntKind.i64.wrap (IntKind.i64.wrap (IntKind.i64.wrap (IntKind.i64.wrap (IntKind.i64.wrap (5 - 1) - 1) - 1) - 1) - 1) < ((6 : Nat) : Int)) (cj (by decide : (0 : Int) ≤ IntKind.i64.wrap (IntKind.i64.wrap (IntKind.i64.wrap (IntKind.i64.wrap (IntKind.i64.wrap (5 - 1) - 1) - 1) - 1) - 1) ∧ IntKind.i64.wrap (IntKind.i64.wrap (IntKind.i64.wrap (IntKind.i64.wrap (IntKind.i64.wrap (5 - 1) - 1) - 1) - 1) - 1) < ((6 : Nat) : Int)) (cj h5 (cj (by decide : (0 : Int) ≤ IntKind.i64.wrap (IntKind.i64.wrap (IntKind.i64.wrap (IntKind.i64.wrap (IntKind.i64.wrap (5 - 1) - 1) - 1) - 1) - 1) ∧ IntKind.i64.wrap (IntKind.i64.wrap (IntKind.i64.wrap (IntKind.i64.wrap (IntKind.i64.wrap (5 - 1) - 1) - 1) - 1) - 1) < ((6 : Nat) : Int)) (cj (by decide : (0 : Int) ≤ IntKind.i64.wrap (IntKind.i64.wrap (IntKind.i64.wrap (IntKind.i64.wrap (IntKind.i64.wrap (5 - 1) - 1) - 1) - 1) - 1) ∧ IntKind.i64.wrap (IntKind.i64.wrap (IntKind.i64.wrap (IntKind.i64.wrap (IntKind.i64.wrap (5 - 1) - 1) - 1) - 1) - 1) < ((6 : Nat) : Int)) cj0))))))))))))))))))))
theorem les_1 (a b : List Int) (s t : Bool) (h0 : (a.getD 5 0 != b.getD 5 0) = false) (h1 : (a.getD 4 0 != b.getD 4 0) = false) (h2 : (a.getD 3 0 != b.getD 3 0) = false) (h3 : (a.getD 2 0 != b.getD 2 0) = false) (h4 : (a.getD 1 0 != b.getD 1 0) = false) (h5 : (a.getD 0 0 != b.getD 0 0) = false) : Does cE 218 [] 0 [.v (wv a s), .v (wv b t)] (.v (.bool (false))) [] 0 :=
  does_path (ct := ct) ctOk mixed (fn := Tryz.f218) rfl (by kernel_rfl) 2000 ([.n 7] ++ rep 6 [.l, .l, .l, .l, .f] ++ [.l, .l]) (by kernel_rfl) (cj (by decide : (0 : Int) ≤ 5 ∧ (5 : Int) < ((6 : Nat) : Int)) (cj (by decide : (0 : Int) ≤ 5 ∧ (5 : Int) < ((6 : Nat) : Int)) (cj h0 (cj (by decide : (0 : Int) ≤ IntKind.i64.wrap (5 - 1) ∧ IntKind.i64.wrap (5 - 1) < ((6 : Nat) : Int)) (cj (by decide : (0 : Int) ≤ IntKind.i64.wrap (5 - 1) ∧ IntKind.i64.wrap (5 - 1) < ((6 : Nat) : Int)) (cj h1 (cj (by decide : (0 : Int) ≤ IntKind.i64.wrap (IntKind.i64.wrap (5 - 1) - 1) ∧ IntKind.i64.wrap (IntKind.i64.wrap (5 - 1) - 1) < ((6 : Nat) : Int)) (cj (by decide : (0 : Int) ≤ IntKind.i64.wrap (IntKind.i64.wrap (5 - 1) - 1) ∧ IntKind.i64.wrap (IntKind.i64.wrap (5 - 1) - 1) < ((6 : Nat) : Int)) (cj h2 (cj (by decide : (0 : Int) ≤ IntKind.i64.wrap (IntKind.i64.wrap (IntKind.i64.wrap (5 - 1) - 1) - 1) ∧ IntKind.i64.wrap (IntKind.i64.wrap (IntKind.i64.wrap (5 - 1) - 1) - 1) < ((6 : Nat) : Int)) (cj (by decide : (0 : Int) ≤ IntKind.i64.wrap (IntKind.i64.wrap (IntKind.i64.wrap (5 - 1) - 1) - 1) ∧ IntKind.i64.wrap (IntKind.i64.wrap (IntKind.i64.wrap (5 - 1) - 1) - 1) < ((6 : Nat) : Int)) (cj h3 (cj (by decide : (0 : Int) ≤ IntKind.i64.wrap (IntKind.i64.wrap (IntKind.i64.wrap (IntKind.i64.wrap (5 - 1) - 1) - 1) - 1) ∧ IntKind.i64.wrap (IntKind.i64.wrap (IntKind.i64.wrap (IntKind.i64.wrap (5 - 1) - 1) - 1) - 1) < ((6 : Nat) : Int)) (cj (by decide : (0 : Int) ≤ IntKind.i64.wrap (IntKind.i64.wrap (IntKind.i64.wrap (IntKind.i64.wrap (5 - 1) - 1) - 1) - 1) ∧ IntKind.i64.wrap (IntKind.i64.wrap (IntKind.i64.wrap (IntKind.i64.wrap (5 - 1) - 1) - 1) - 1) < ((6 : Nat) : Int)) (cj h4 (cj (by decide : (0 : Int) ≤ IntKind.i64.wrap (IntKind.i64.wrap (IntKind.i64.wrap (IntKind.i64.wrap (IntKind.i64.wrap (5 - 1) - 1) - 1) - 1) - 1) ∧ IntKind.i64.wrap (IntKind.i64.wrap (IntKind.i64.wrap (IntKind.i64.wrap (IntKind.i64.wrap (5 - 1) - 1) - 1) - 1) - 1) < ((6 : Nat) : Int)) (cj (by decide : (0 : Int) ≤ IntKind.i64.wrap (IntKind.i64.wrap (IntKind.i64.wrap (IntKind.i64.wrap (IntKind.i64.wrap (5 - 1) - 1) - 1) - 1) - 1) ∧ IntKind.i64.wrap (IntKind.i64.wrap (IntKind.i64.wrap (IntKind.i64.wrap (IntKind.i64.wrap (5 - 1) - 1) - 1) - 1) - 1) < ((6 : Nat) : Int)) (cj h5 cj0))))))))))))))))))
theorem or2a_1 (x y : Int) (h0 : (0 : Int) ≤ 0 ∧ (0 : Int) < ↑[x, y].length) (h1 : (Int.toNat 0).succ.le [x, y].length) (h2 : ([x, y].getD (Int.toNat 0) 0 != 0) = true) : Does cE 120 [(0, .ro 3 [x, y] false)] 1 [.o 0] (.v (.int .i64 ([x, y].getD (Int.toNat 0) 0))) [(0, .ro 3 ([x, y]) false)] 1 :=
  does_path (ct := ct) ctOk mixed (fn := Tryz.f120) rfl (by kernel_rfl) 2000 [.n 3, .l, .l, .t] (by kernel_rfl) (cj h0 (cj h1 (cj h2 cj0)))
theorem or2b_1 (x y : Int) (h0 : (0 : Int) ≤ 0 ∧ (0 : Int) < ↑[x, y].length) (h1 : (Int.toNat 0).succ.le [x, y].length) (h2 : ([x, y].getD (Int.toNat 0) 0 != 0) = false) (h3 : (0 : Int) ≤ IntKind.i64.wrap (0 + 1) ∧ IntKind.i64.wrap (0 + 1) < ↑[x, y].length) (h4 : (IntKind.i64.wrap (0 + 1)).toNat.succ.le [x, y].length) (h5 : ([x, y].getD (IntKind.i64.wrap (0 + 1)).toNat 0 != 0) = true) : Does cE 120 [(0, .ro 3 [x, y] false)] 1 [.o 0] (.v (.int .i64 ([x, y].getD (IntKind.i64.wrap (0 + 1)).toNat (0 : Int)))) [(0, .ro 3 ([x, y]) false)] 1 :=
  does_path (ct := ct) ctOk mixed (fn := Tryz.f120) rfl (by kernel_rfl) 2000 [.n 3, .l, .l, .f, .l, .l, .t] (by kernel_rfl) (cj h0 (cj h1 (cj h2 (cj h3 (cj h4 (cj h5 cj0))))))
theorem or2c_1 (x y : Int) (h0 : (0 : Int) ≤ 0 ∧ (0 : Int) < ↑[x, y].length) (h1 : (Int.toNat 0).succ.le [x, y].length) (h2 : ([x, y].getD (Int.toNat 0) 0 != 0) = false) (h3 : (0 : Int) ≤ IntKind.i64.wrap (0 + 1) ∧ IntKind.i64.wrap (0 + 1) < ↑[x, y].length) (h4 : (IntKind.i64.wrap (0 + 1)).toNat.succ.le [x, y].length) (h5 : ([x, y].getD (IntKind.i64.wrap (0 + 1)).toNat 0 != 0) = false) : Does cE 120 [(0, .ro 3 [x, y] false)] 1 [.o 0] (.v (.int .i64 (0))) [(0, .ro 3 ([x, y]) false)] 1 :=
  does_path (ct := ct) ctOk mixed (fn := Tryz.f120) rfl (by kernel_rfl) 2000 [.n 3, .l, .l, .f, .l, .l, .f, .l, .l] (by kernel_rfl) (cj h0 (cj h1 (cj h2 (cj h3 (cj h4 (cj h5 cj0))))))
end Go.Proofs.YtnchjdhepakokaaGreatDoorC
/- Numbers in six parts of 32 bits: what the reference's product, order, and test for zero come to. -/
namespace Go.Proofs.YtnchjdhepakokaaGreatDoorC
open Go.Proofs Go.Proofs.YtnchjdhepakokaaGreatDoorSx
set_option maxRecDepth 100000
set_option linter.unusedVariables false
theorem val_set : ∀ {l : List Int} {i : Nat} {v : Int}, i < l.length → val (l.set i v) = val l + 4294967296 ^ i * (v - l.getD i 0)
  | [], i, v, h => by simp at h
  | x :: l, 0, v, h => by
    simp [val]
    omega
  | x :: l, i + 1, v, h => by
    have ih := val_set (l := l) (i := i) (v := v) (by simpa using h)
    simp only [List.set_cons_succ, val, List.getD_cons_succ]
    rw [ih, Int.pow_succ]
    grind
theorem V_split (l : List Int) (k : Nat) (h : k ≤ l.length) : ∃ r, val l = V l k + 4294967296 ^ k * r := by
  refine ⟨val (l.drop k), ?_⟩
  have := val_app (l.take k) (l.drop k)
  rw [List.take_append_drop, List.length_take, Nat.min_eq_left h] at this
  exact this
theorem prod_bound {x y : Int} (hx : 0 ≤ x ∧ x < 4294967296) (hy : 0 ≤ y ∧ y < 4294967296) : 0 ≤ x * y ∧ x * y ≤ 18446744065119617025 := by
  refine ⟨Int.mul_nonneg hx.1 hy.1, ?_⟩
  have h1 : x * y ≤ 4294967295 * y := Int.mul_le_mul_of_nonneg_right (by omega) hy.1
  omega
abbrev tmS (i : Int) : List SV := ps4 ++ [.v (it i)] ++ List.replicate 41 .na
abbrev tnS (i c k : Int) : List SV := ps4 ++ [.v (it i), .v (iu c), .v (it k)] ++ List.replicate 39 .na
theorem tm_in {a b : List Int} (ha : Dig a) (hb : Dig b) (s t : Bool) {res : SV} {T' : Tab cE} {n' : Nat} (m i : Nat) (hi : i < 6) (o0 : List Int)
    (hend : ∀ o c, Dig o → val o + 4294967296 ^ 6 * c = val o0 + 4294967296 ^ i * (a.getD i 0 * V b (6 - i)) → Fin cE Tryz.f191 0 res T' n' (inK tmK m) (tmS (i + 1 : Nat)) (wT a b o s t false) 4) :
    ∀ (r k : Nat) (o : List Int) (c : Int), i + k + r = 6 → Dig o → 0 ≤ c ∧ c < 4294967296 → val o + 4294967296 ^ (i + k) * c = val o0 + 4294967296 ^ i * (a.getD i 0 * V b k) → ∀ n,
      Fin cE Tryz.f191 0 res T' n' (inK (tnK m) (n + r + 1)) (tnS i c k) (wT a b o s t false) 4
  | 0, k, o, c, hr, ho, hc, hv, n => by
    refine fin_round ?_
    have w1 : IntKind.i64.wrap ((i : Int) + (k : Int)) = ((i + k : Nat) : Int) := by rw [wrap64 (by omega) (by omega)]; rfl
    have h := tmc_2 a b o s t c i k m n res T' n' (by rw [w1]; simp; omega)
    rw [step64 (by omega)] at h
    have e6 : i + k = 6 := by omega
    rw [e6, show k = 6 - i by omega] at hv
    exact h (fin_weak (hend o c ho hv) (by repeat (first | exact trivial | refine ⟨.inr rfl, ?_⟩ | refine ⟨.inl rfl, ?_⟩)))
  | r + 1, k, o, c, hr, ho, hc, hv, n => by
    refine fin_round ?_
    have w1 : IntKind.i64.wrap ((i : Int) + (k : Int)) = ((i + k : Nat) : Int) := by rw [wrap64 (by omega) (by omega)]; rfl
    have h := tmc_1 a b o s t c i k m (n + (r + 1)) res T' n'
    rw [w1, pre_wc ha.len, pre_wc hb.len, pre_wc ho.len, step64 (by omega), Int.toNat_natCast] at h
    have ra := rng_get ha.rng i
    have rb := rng_get hb.rng k
    have ro := rng_get ho.rng (i + k)
    have vb := V_succ (l := b) (i := k) (by rw [hb.len]; omega)
    have hvs := fun v => val_set (l := o) (i := i + k) (v := v) (by rw [ho.len]; omega)
    generalize hx : a.getD i 0 = x at h ra hend hv
    generalize b.getD k 0 = y at h rb vb
    generalize o.getD (i + k) 0 = z at h ro hvs
    have hp := prod_bound ra rb
    have vb' : V b (k + 1) = V b k + 4294967296 ^ k * y := vb
    rw [wrU (x := x * y) (by omega) (by omega), wrU (x := c + z) (by omega) (by omega), wrU (x := c + z + x * y) (by omega) (by omega), Int.tdiv_eq_ediv_of_nonneg (a := c + z + x * y) (by omega), Int.tmod_eq_emod_of_nonneg (a := c + z + x * y) (by omega), wrU (x := (c + z + x * y) / 4294967296) (by omega) (by omega)] at h
    refine h (by simp; omega) ⟨by omega, by omega⟩ (lt6 ho (by omega)) ⟨by omega, by omega⟩ (lt6 ha hi) ⟨by omega, by omega⟩ (lt6 hb (by omega)) ?_
    refine tm_in ha hb s t m i hi o0 (by rw [hx]; exact hend) r (k + 1) _ _ (by omega) ⟨by simp [ho.len], rng_set ho.rng (by omega)⟩ (by omega) ?_ n
    rw [hvs, hx, vb', show i + (k + 1) = i + k + 1 by omega, Int.pow_succ]
    have hdm := Int.emod_add_mul_ediv (c + z + x * y) 4294967296
    generalize (c + z + x * y) % 4294967296 = u at hdm
    generalize (c + z + x * y) / 4294967296 = v at hdm
    rw [Int.pow_add] at hv ⊢
    generalize (4294967296 : Int) ^ i = P at hv ⊢
    generalize (4294967296 : Int) ^ k = Q at hv ⊢
    grind
theorem tm_loop {a b : List Int} (ha : Dig a) (hb : Dig b) (s t : Bool) : ∀ (r i : Nat) (o : List Int) (q : Int), i + r = 6 → Dig o → val o + 4294967296 ^ 6 * q = V a i * val b → val a * val b < big192 → ∀ m,
    Fin cE Tryz.f191 0 (.v (W (val a * val b) false)) [] 0 (inK tmK (m + r + 1)) (tmS i) (wT a b o s t false) 4
  | 0, i, o, q, hi, ho, hv, hlt, m => by
    refine fin_round ?_
    have h6 : i = 6 := by omega
    subst h6
    have h := tmb_2 a b o s t 6 m (by decide)
    rw [ha.V6] at hv
    have hr := val_rng ho.rng
    rw [ho.len, big_pow] at hr
    rw [big_pow] at hv
    have hpos : 0 ≤ val a * val b := Int.mul_nonneg (val_rng ha.rng).1 (val_rng hb.rng).1
    generalize val a * val b = p at hv hlt hpos
    have e : p = val o := by unfold big192 at *; omega
    rw [e, W, ← ho.eq]
    exact h
  | r + 1, i, o, q, hi, ho, hv, hlt, m => by
    refine fin_round ?_
    have hi6 : i < 6 := by omega
    refine tmb_1 a b o s t i (m + (r + 1)) _ _ _ (by simp; omega) ?_
    refine fin_loop (0 + (6 - i) + 1) ?_
    refine tm_in ha hb s t (m + (r + 1)) i hi6 o (fun o' c ho' hv' => ?_) (6 - i) 0 o 0 (by omega) ho (by omega) (by simp [V, val]) 0
    obtain ⟨rest, hrest⟩ := V_split b (6 - i) (by rw [hb.len]; omega)
    have va := V_succ (l := a) (i := i) (by rw [ha.len]; omega)
    refine tm_loop ha hb s t r (i + 1) o' (q + c + a.getD i 0 * rest) (by omega) ho' ?_ hlt m
    rw [va]
    have hpp : (4294967296 : Int) ^ 6 = 4294967296 ^ i * 4294967296 ^ (6 - i) := by rw [← Int.pow_add]; congr 1; omega
    rw [hpp] at hv hv' ⊢
    generalize (4294967296 : Int) ^ i = P at hv hv' hrest ⊢
    generalize (4294967296 : Int) ^ (6 - i) = Q at hv hv' hrest ⊢
    generalize a.getD i 0 = x at hv' ⊢
    generalize V b (6 - i) = vb at hv' hrest
    generalize V a i = va at hv
    generalize val b = B at hv hrest
    grind
theorem times_does {a b : List Int} (ha : Dig a) (hb : Dig b) (s t : Bool) (h : val a * val b < big192) : Does cE 191 [] 0 [.v (wv a s), .v (wv b t)] (.v (W (val a * val b) false)) [] 0 := by
  refine does_of_fin (fn := Tryz.f191) (c := bd Tryz.f191) rfl (by kernel_rfl) rfl ?_
  refine tma_1 a b s t _ _ _ ?_
  refine fin_loop (0 + 6 + 1) ?_
  exact tm_loop ha hb s t 6 0 [0, 0, 0, 0, 0, 0] 0 (by omega) dig0 (by simp [V, val]) h 0
/-! ### Order -/
theorem val6 {a : List Int} (h : Dig a) : val a = a.getD 0 0 + 4294967296 * (a.getD 1 0 + 4294967296 * (a.getD 2 0 + 4294967296 * (a.getD 3 0 + 4294967296 * (a.getD 4 0 + 4294967296 * a.getD 5 0)))) := by
  match a, h with
  | [x0, x1, x2, x3, x4, x5], _ => simp [val]
theorem less_does {a b : List Int} (ha : Dig a) (hb : Dig b) (s t : Bool) : Does cE 218 [] 0 [.v (wv a s), .v (wv b t)] (.v (.bool (decide (val a < val b)))) [] 0 := by
  have va := val6 ha
  have vb := val6 hb
  have a0 := rng_get ha.rng 0
  have a1 := rng_get ha.rng 1
  have a2 := rng_get ha.rng 2
  have a3 := rng_get ha.rng 3
  have a4 := rng_get ha.rng 4
  have a5 := rng_get ha.rng 5
  have b0 := rng_get hb.rng 0
  have b1 := rng_get hb.rng 1
  have b2 := rng_get hb.rng 2
  have b3 := rng_get hb.rng 3
  have b4 := rng_get hb.rng 4
  have b5 := rng_get hb.rng 5
  by_cases h5 : a.getD 5 0 = b.getD 5 0
  · by_cases h4 : a.getD 4 0 = b.getD 4 0
    · by_cases h3 : a.getD 3 0 = b.getD 3 0
      · by_cases h2 : a.getD 2 0 = b.getD 2 0
        · by_cases h1 : a.getD 1 0 = b.getD 1 0
          · by_cases h0 : a.getD 0 0 = b.getD 0 0
            · have e : decide (val a < val b) = false := by simp; omega
              rw [e]
              exact les_1 a b s t (bne_eq_false_iff_eq.2 h5) (bne_eq_false_iff_eq.2 h4) (bne_eq_false_iff_eq.2 h3) (bne_eq_false_iff_eq.2 h2) (bne_eq_false_iff_eq.2 h1) (bne_eq_false_iff_eq.2 h0)
            · have e : decide (val a < val b) = decide (a.getD 0 0 < b.getD 0 0) := by rw [decide_eq_decide]; omega
              rw [e]
              exact les5_1 a b s t (bne_eq_false_iff_eq.2 h5) (bne_eq_false_iff_eq.2 h4) (bne_eq_false_iff_eq.2 h3) (bne_eq_false_iff_eq.2 h2) (bne_eq_false_iff_eq.2 h1) (bne_iff_ne.2 h0)
          · have e : decide (val a < val b) = decide (a.getD 1 0 < b.getD 1 0) := by rw [decide_eq_decide]; omega
            rw [e]
            exact les4_1 a b s t (bne_eq_false_iff_eq.2 h5) (bne_eq_false_iff_eq.2 h4) (bne_eq_false_iff_eq.2 h3) (bne_eq_false_iff_eq.2 h2) (bne_iff_ne.2 h1)
        · have e : decide (val a < val b) = decide (a.getD 2 0 < b.getD 2 0) := by rw [decide_eq_decide]; omega
          rw [e]
          exact les3_1 a b s t (bne_eq_false_iff_eq.2 h5) (bne_eq_false_iff_eq.2 h4) (bne_eq_false_iff_eq.2 h3) (bne_iff_ne.2 h2)
      · have e : decide (val a < val b) = decide (a.getD 3 0 < b.getD 3 0) := by rw [decide_eq_decide]; omega
        rw [e]
        exact les2_1 a b s t (bne_eq_false_iff_eq.2 h5) (bne_eq_false_iff_eq.2 h4) (bne_iff_ne.2 h3)
    · have e : decide (val a < val b) = decide (a.getD 4 0 < b.getD 4 0) := by rw [decide_eq_decide]; omega
      rw [e]
      exact les1_1 a b s t (bne_eq_false_iff_eq.2 h5) (bne_iff_ne.2 h4)
  · have e : decide (val a < val b) = decide (a.getD 5 0 < b.getD 5 0) := by rw [decide_eq_decide]; omega
    rw [e]
    exact les0_1 a b s t (bne_iff_ne.2 h5)
theorem zero_does {a : List Int} (ha : Dig a) (s : Bool) : Does cE 180 [] 0 [.v (wv a s)] (.v (.bool (decide (val a = 0)))) [] 0 := by
  have va := val6 ha
  have a0 := rng_get ha.rng 0
  have a1 := rng_get ha.rng 1
  have a2 := rng_get ha.rng 2
  have a3 := rng_get ha.rng 3
  have a4 := rng_get ha.rng 4
  have a5 := rng_get ha.rng 5
  by_cases h : val a = 0
  · have e : decide (val a = 0) = true := by simpa using h
    rw [e]
    exact zer_1 a s (bne_eq_false_iff_eq.2 (by omega)) (bne_eq_false_iff_eq.2 (by omega)) (bne_eq_false_iff_eq.2 (by omega)) (bne_eq_false_iff_eq.2 (by omega)) (bne_eq_false_iff_eq.2 (by omega)) (bne_eq_false_iff_eq.2 (by omega))
  · have e : decide (val a = 0) = false := by simpa using h
    rw [e]
    by_cases h0 : a.getD 0 0 = 0
    · by_cases h1 : a.getD 1 0 = 0
      · by_cases h2 : a.getD 2 0 = 0
        · by_cases h3 : a.getD 3 0 = 0
          · by_cases h4 : a.getD 4 0 = 0
            · exact zer5_1 a s (bne_eq_false_iff_eq.2 h0) (bne_eq_false_iff_eq.2 h1) (bne_eq_false_iff_eq.2 h2) (bne_eq_false_iff_eq.2 h3) (bne_eq_false_iff_eq.2 h4) (bne_iff_ne.2 (by omega))
            · exact zer4_1 a s (bne_eq_false_iff_eq.2 h0) (bne_eq_false_iff_eq.2 h1) (bne_eq_false_iff_eq.2 h2) (bne_eq_false_iff_eq.2 h3) (bne_iff_ne.2 h4)
          · exact zer3_1 a s (bne_eq_false_iff_eq.2 h0) (bne_eq_false_iff_eq.2 h1) (bne_eq_false_iff_eq.2 h2) (bne_iff_ne.2 h3)
        · exact zer2_1 a s (bne_eq_false_iff_eq.2 h0) (bne_eq_false_iff_eq.2 h1) (bne_iff_ne.2 h2)
      · exact zer1_1 a s (bne_eq_false_iff_eq.2 h0) (bne_iff_ne.2 h1)
    · exact zer0_1 a s (bne_iff_ne.2 h0)
end Go.Proofs.YtnchjdhepakokaaGreatDoorC
/- Each path of each function: on which conditions it is taken, what it gives. Printed by a program (wip/tools/sxexp2.lean); Lean checks each. -/
namespace Go.Proofs.YtnchjdhepakokaaGreatDoorC
open Go.Proofs Go.Proofs.YtnchjdhepakokaaGreatDoorSx
set_option maxRecDepth 100000
set_option linter.unusedVariables false

theorem zea_1 (a : List Int) (s : Bool) (res : SV) (T' : Tab cE) (n' : Nat) (hF : Fin cE Tryz.f180 0 res T' n' zeK [.na, .p 0 0, .v (.bool (false)), .v (.int .i64 (0)), .na, .na, .na, .na, .na, .na, .na, .na, .na] [(0, .box 182 [.v (.int .u64 (a.getD 0 0)), .v (.int .u64 (a.getD 1 0)), .v (.int .u64 (a.getD 2 0)), .v (.int .u64 (a.getD 3 0)), .v (.int .u64 (a.getD 4 0)), .v (.int .u64 (a.getD 5 0)), .v (.bool (s))])] 1) : Fin cE Tryz.f180 0 res T' n' [.code (bd Tryz.f180)] (argsS [.v (wv a s)] Tryz.f180.ntmps) [] 0 :=
  seg_at (keep := [1, 2, 3, 4]) (ct := ct) ctOk mixed (by decide) 2000 [] (by kernel_rfl) cj0 hF
theorem poa_1 (n : Int) (res : SV) (T' : Tab cE) (n' : Nat) (hF : Fin cE Tryz.f146 0 res T' n' poK [.v (.int .i64 (n)), .na, .na, .v (.int .i64 (1)), .v (.int .i64 (0)), .na, .na, .na, .na, .na, .na, .na, .na] [] 0) : Fin cE Tryz.f146 0 res T' n' [.code (bd Tryz.f146)] (argsS [.v (it n)] Tryz.f146.ntmps) [] 0 :=
  seg_at (keep := [0, 3, 4]) (ct := ct) ctOk mixed (by decide) 2000 [] (by kernel_rfl) cj0 hF
theorem pob_1 (n p : Int) (i m : Nat) (res : SV) (T' : Tab cE) (n' : Nat) (h0 : decide ((i : Int) < n) = true) (hF : Fin cE Tryz.f146 0 res T' n' (inK poK (m)) [.v (.int .i64 (n)), .na, .na, .v (.int .i64 (IntKind.i64.wrap (10 * p))), .v (.int .i64 (IntKind.i64.wrap ((i : Int) + 1))), .na, .na, .na, .na, .na, .na, .na, .na] [] 0) : Fin cE Tryz.f146 0 res T' n' (bodyK poK m) ([.v (it n), .na, .na, .v (it p), .v (it i)] ++ List.replicate 8 .na) [] 0 :=
  seg_at (keep := [0, 3, 4]) (ct := ct) ctOk mixed (by decide) 2000 [.t] (by kernel_rfl) (cj h0 cj0) hF
theorem pob_2 (n p : Int) (i m : Nat) (h0 : decide ((i : Int) < n) = false) : Fin cE Tryz.f146 0 (.v (.int .i64 (p))) [] 0 (bodyK poK m) ([.v (it n), .na, .na, .v (it p), .v (it i)] ++ List.replicate 8 .na) [] 0 :=
  seg_fin (keep := [0, 3, 4]) (ct := ct) ctOk mixed (by decide) 2000 [.f] (by kernel_rfl) (cj h0 cj0)
theorem sca_1 (l : List Int) (res : SV) (T' : Tab cE) (n' : Nat) (hF : Fin cE Tryz.f173 1 res T' n' scK1 [.na, .na, .na, .na, .na, .o 0, .v (.int .i64 ((l.length : Int))), .v (.int .i64 (0)), .na, .na, .na, .na, .na, .na, .na, .na, .na, .na] [(0, .ro 3 (l) false)] 1) : Fin cE Tryz.f173 1 res T' n' [.code (bd Tryz.f173)] (argsS [.o 0] Tryz.f173.ntmps) [(0, .ro 3 l false)] 1 :=
  seg_at (keep := [5, 6, 7]) (ct := ct) ctOk mixed (by decide) 2000 [] (by kernel_rfl) cj0 hF
theorem scb_1 (l : List Int) (i m : Nat) (h0 : decide ((i : Int) < (l.length : Int)) = true) (h1 : (0 : Int) ≤ (i : Int) ∧ (i : Int) < (l.length : Int)) (h2 : i < l.length) (h3 : decide (l.getD i 0 < 0) = true) : Fin cE Tryz.f173 1 (.v (.bool (false))) [(0, .ro 3 (l) false)] 1 (bodyK scK1 m) ([.na, .na, .na, .na, .na, .o 0, .v (it l.length), .v (it i)] ++ List.replicate 10 .na) [(0, .ro 3 l false)] 1 :=
  seg_fin (keep := [5, 6, 7]) (ct := ct) ctOk mixed (by decide) 2000 [.t, .t, .t, .t, .l] (by kernel_rfl) (cj h0 (cj h1 (cj h2 (cj h3 (cj h3 (cj h3 cj0))))))
theorem scb_2 (l : List Int) (i m : Nat) (h0 : decide ((i : Int) < (l.length : Int)) = true) (h1 : (0 : Int) ≤ (i : Int) ∧ (i : Int) < (l.length : Int)) (h2 : i < l.length) (h3 : decide (l.getD i 0 < 0) = false) (h4 : decide (l.getD i 0 > 6) = true) : Fin cE Tryz.f173 1 (.v (.bool (false))) [(0, .ro 3 (l) false)] 1 (bodyK scK1 m) ([.na, .na, .na, .na, .na, .o 0, .v (it l.length), .v (it i)] ++ List.replicate 10 .na) [(0, .ro 3 l false)] 1 :=
  seg_fin (keep := [5, 6, 7]) (ct := ct) ctOk mixed (by decide) 2000 [.t, .f, .f, .f, .t] (by kernel_rfl) (cj h0 (cj h1 (cj h2 (cj h3 (cj h3 (cj h3 (cj h4 cj0)))))))
theorem scb_3 (l : List Int) (i m : Nat) (res : SV) (T' : Tab cE) (n' : Nat) (h0 : decide ((i : Int) < (l.length : Int)) = true) (h1 : (0 : Int) ≤ (i : Int) ∧ (i : Int) < (l.length : Int)) (h2 : i < l.length) (h3 : decide (l.getD i 0 < 0) = false) (h4 : decide (l.getD i 0 > 6) = false) (hF : Fin cE Tryz.f173 1 res T' n' (inK scK1 (m)) [.na, .na, .na, .na, .na, .o 0, .v (.int .i64 ((l.length : Int))), .v (.int .i64 (IntKind.i64.wrap ((i : Int) + 1))), .na, .na, .na, .na, .na, .na, .na, .na, .na, .na] [(0, .ro 3 (l) false)] 1) : Fin cE Tryz.f173 1 res T' n' (bodyK scK1 m) ([.na, .na, .na, .na, .na, .o 0, .v (it l.length), .v (it i)] ++ List.replicate 10 .na) [(0, .ro 3 l false)] 1 :=
  seg_at (keep := [5, 6, 7]) (ct := ct) ctOk mixed (by decide) 2000 [.t, .f, .f, .f, .f] (by kernel_rfl) (cj h0 (cj h1 (cj h2 (cj h3 (cj h3 (cj h3 (cj h4 cj0))))))) hF
theorem scb_4 (l : List Int) (i m : Nat) (h0 : decide ((i : Int) < (l.length : Int)) = false) : Fin cE Tryz.f173 1 (.v (.bool (true))) [(0, .ro 3 (l) false)] 1 (bodyK scK1 m) ([.na, .na, .na, .na, .na, .o 0, .v (it l.length), .v (it i)] ++ List.replicate 10 .na) [(0, .ro 3 l false)] 1 :=
  seg_fin (keep := [5, 6, 7]) (ct := ct) ctOk mixed (by decide) 2000 [.f] (by kernel_rfl) (cj h0 cj0)
theorem ora_1 (l : List Int) (res : SV) (T' : Tab cE) (n' : Nat) (hF : Fin cE Tryz.f120 1 res T' n' orK [.na, .na, .na, .v (.int .i64 (0)), .na, .na, .o 0, .v (.int .i64 ((l.length : Int))), .v (.int .i64 (0)), .na, .na, .na, .na, .na, .na, .na, .na, .na] [(0, .ro 3 (l) false)] 1) : Fin cE Tryz.f120 1 res T' n' [.code (bd Tryz.f120)] (argsS [.o 0] Tryz.f120.ntmps) [(0, .ro 3 l false)] 1 :=
  seg_at (keep := [3, 6, 7, 8]) (ct := ct) ctOk mixed (by decide) 2000 [] (by kernel_rfl) cj0 hF
theorem baa_1 (a : List Int) (s : Bool) (sc : Int) (res : SV) (T' : Tab cE) (n' : Nat) (hF : Fin cE Tryz.f156 0 res T' n' baK [.v (.agg #[(.int .u64 (a.getD 0 0)), (.int .u64 (a.getD 1 0)), (.int .u64 (a.getD 2 0)), (.int .u64 (a.getD 3 0)), (.int .u64 (a.getD 4 0)), (.int .u64 (a.getD 5 0)), (.bool (s))]), .v (.int .i64 (sc)), .p 0 0, .na, .p 1 0, .v (.int .i64 (0)), .v (.int .i64 (2)), .na, .na, .na, .na, .na, .na, .na, .na, .na, .na, .na, .na, .na, .na, .na, .na, .na, .na, .na, .na, .na, .na, .na, .na, .na, .na, .na, .na, .na, .na, .na, .na, .na, .na, .na, .na, .na] [(0, .box 182 [.v (.int .u64 (a.getD 0 0)), .v (.int .u64 (a.getD 1 0)), .v (.int .u64 (a.getD 2 0)), .v (.int .u64 (a.getD 3 0)), .v (.int .u64 (a.getD 4 0)), .v (.int .u64 (a.getD 5 0)), .v (.bool (s))]), (1, .box 109 [.v (.int .i64 (0)), .v (.int .i64 (0))])] 2) : Fin cE Tryz.f156 0 res T' n' [.code (bd Tryz.f156)] (argsS [.v (wv a s), .v (it sc)] Tryz.f156.ntmps) [] 0 :=
  seg_at (keep := [0, 1, 2, 3, 4, 5, 6]) (ct := ct) ctOk mixed (by decide) 2000 [] (by kernel_rfl) cj0 hF
theorem bya_1 (h ll g k : Int) (s t : Bool) (res : SV) (T' : Tab cE) (n' : Nat) (hF : Fin cE Tryz.f216 0 res T' n' byK [.na, .na, .p 0 0, .p 1 0, .p 2 0, .p 3 0, .p 4 0, .na, .na, .na, .na, .na, .na, .v (.int .i64 (0)), .na, .na, .na, .na, .na, .na, .na, .na, .na, .na, .na, .na, .na, .na, .na, .na, .na, .na, .na, .na, .na, .na, .na, .na, .na, .na, .na, .na, .na, .na, .na, .na, .na, .na, .na, .na, .na, .na, .na, .na, .na, .na, .na, .na, .na, .na, .na, .na, .na, .na, .na, .na, .na, .na, .na, .na, .na, .na, .na, .na, .na, .na, .na, .na, .na, .na, .na, .na, .na, .na, .na, .na, .na, .na, .na, .na, .na, .na, .na, .na, .na, .na, .na, .na, .na, .na, .na, .na, .na, .na, .na, .na, .na, .na, .na, .na, .na, .na, .na, .na, .na, .na, .na, .na, .na, .na, .na, .na, .na] [(0, .box 199 [.v (.int .u64 (h)), .v (.int .u64 (ll)), .v (.bool (s))]), (1, .box 199 [.v (.int .u64 (g)), .v (.int .u64 (k)), .v (.bool (t))]), (2, .box 199 [.v (.int .u64 (0)), .v (.int .u64 (0)), .v (.bool (false))]), (3, .box 199 [.v (.int .u64 (0)), .v (.int .u64 (0)), .v (.bool (false))]), (4, .box 199 [.v (.int .u64 (0)), .v (.int .u64 (0)), .v (.bool (false))])] 5) : Fin cE Tryz.f216 0 res T' n' [.code (bd Tryz.f216)] (argsS [.v (bg h ll s), .v (bg g k t)] Tryz.f216.ntmps) [] 0 :=
  seg_at (keep := [2, 3, 4, 5, 6, 13]) (ct := ct) ctOk mixed (by decide) 2000 [] (by kernel_rfl) cj0 hF
theorem paa_1 (a b : List Int) (s t : Bool) (res : SV) (T' : Tab cE) (n' : Nat) (hF : Fin cE Tryz.f217 0 res T' n' paK [.na, .na, .p 0 0, .p 1 0, .p 2 0, .p 3 0, .p 4 0, .p 5 0, .v (.int .i64 (191)), .na, .na, .na, .na, .na, .na, .na, .na, .na, .na, .na, .na, .na, .na, .na, .na, .na, .na, .na, .na, .na, .na, .na, .na, .na, .na, .na, .na, .na, .na, .na, .na, .na, .na, .na, .na, .na, .na, .na, .na, .na, .na, .na] [(0, .box 182 [.v (.int .u64 (a.getD 0 0)), .v (.int .u64 (a.getD 1 0)), .v (.int .u64 (a.getD 2 0)), .v (.int .u64 (a.getD 3 0)), .v (.int .u64 (a.getD 4 0)), .v (.int .u64 (a.getD 5 0)), .v (.bool (s))]), (1, .box 182 [.v (.int .u64 (b.getD 0 0)), .v (.int .u64 (b.getD 1 0)), .v (.int .u64 (b.getD 2 0)), .v (.int .u64 (b.getD 3 0)), .v (.int .u64 (b.getD 4 0)), .v (.int .u64 (b.getD 5 0)), .v (.bool (t))]), (2, .box 182 [.v (.int .u64 (0)), .v (.int .u64 (0)), .v (.int .u64 (0)), .v (.int .u64 (0)), .v (.int .u64 (0)), .v (.int .u64 (0)), .v (.bool (false))]), (3, .box 182 [.v (.int .u64 (0)), .v (.int .u64 (0)), .v (.int .u64 (0)), .v (.int .u64 (0)), .v (.int .u64 (0)), .v (.int .u64 (0)), .v (.bool (false))]), (4, .box 182 [.v (.int .u64 (0)), .v (.int .u64 (0)), .v (.int .u64 (0)), .v (.int .u64 (0)), .v (.int .u64 (0)), .v (.int .u64 (0)), .v (.bool (false))]), (5, .box 182 [.v (.int .u64 (0)), .v (.int .u64 (0)), .v (.int .u64 (0)), .v (.int .u64 (0)), .v (.int .u64 (0)), .v (.int .u64 (0)), .v (.bool (false))])] 6) : Fin cE Tryz.f217 0 res T' n' [.code (bd Tryz.f217)] (argsS [.v (wv a s), .v (wv b t)] Tryz.f217.ntmps) [] 0 :=
  seg_at (keep := [2, 3, 4, 5, 6, 7, 8]) (ct := ct) ctOk mixed (by decide) 2000 [] (by kernel_rfl) cj0 hF
end Go.Proofs.YtnchjdhepakokaaGreatDoorC
