import Derived.Test.YtomgifkpnfgimaaProg
import Derived.Test.YtomgifkpnfgimaaSxl
import Derived.KernelRfl
/- Each path of each function: on which conditions it is taken, what it gives. Printed by a program (wip/tools/sxexp2.lean); Lean checks each. -/
namespace Go.Proofs.YtomgifkpnfgimaaC
open Go.Proofs Go.Proofs.YtomgifkpnfgimaaSx
set_option maxRecDepth 100000
set_option linter.unusedVariables false
abbrev it (n : Int) : Value := .int .i64 n
abbrev iu (n : Int) : Value := .int .u64 n
abbrev ib (n : Int) : Value := .int .u8 n
abbrev nilS : Value := .slice none 0 0
abbrev st (b : ByteArray) : Value := .string b
noncomputable def cE : Env := ⟨Try.prog, fun e => bif Nat.beq e 5 then u8F else bif Nat.beq e 9 then strF else numF .i64⟩
theorem mixed : cE.P.follows .mixedOrders = true := by kernel_rfl
abbrev bd (fn : Func) : Code := fn.body.getD .skip
noncomputable def ct : Table cE := callT cE 2000 (fun _ => none) 8
theorem ctOk : TableOk cE ct := callT_ok mixed 2000 _ 8
noncomputable def ld : Nat → St cE → Option (Cfg cE) := fun n σ => runC cE ct n ⟨[.code (bd Try.f15)], .normal, σ⟩
noncomputable def startK (fn : Func) (l : List SV) (T : Tab cE) (n : Nat) (d : List (Dec cE)) : List It := stackOf (runC cE ct 2000 ⟨[.code (bd fn)], .normal, ⟨argsS l fn.ntmps, [], T, [], d, n⟩⟩)
noncomputable def nextK (K : List It) (s : List SV) (T : Tab cE) (n : Nat) (d : List (Dec cE)) : List It := stackOf (runC cE ct 2000 ⟨K, .normal, ⟨s, [], T, [], d, n⟩⟩)
noncomputable def numK : List It := startK Try.f15 [.v (it 0)] [] 0 []
noncomputable def sumK : List It := startK Try.f18 [.o 0] [(0, .ro 5 [] false)] 1 []
noncomputable def sumK2 (m : Nat) : List It := nextK (bodyK sumK m) ([.na, .na, .na, .v (iu 0), .na, .na, .o 0, .v (it 0), .v (it 0)] ++ List.replicate 20 .na) [(0, .ro 5 [] false)] 1 [.t]
noncomputable def eqK : List It := startK Try.f36 [.o 0, .o 1] [(0, .ro 5 [] false), (1, .ro 5 [] false)] 2 [.f]
def rep {α : Type} (n : Nat) (l : List α) : List α := (List.replicate n l).flatten
abbrev strL (s : ByteArray) : List Int := s.data.toList.map fun b => (b.toNat : Int)
abbrev bytesOf (l : List Int) : ByteArray := l.foldl (fun r n => r.push (UInt8.ofNat n.toNat)) ByteArray.empty

theorem num0_1 (n : Int) (res : SV) (T' : Tab cE) (n' : Nat) (hF : Fin cE Try.f15 0 res T' n' numK [.na, .na, .na, .v (.int .u64 (IntKind.u64.wrap ↑(BitVec.ofInt 64 (IntKind.u64.wrap (IntKind.u64.wrap n * 2 ^ 1)) ^^^ BitVec.ofInt 64 (IntKind.u64.wrap (n.fdiv (2 ^ 63)))).toNat)), .v (.slice (none) (0) (0)), .na, .na, .na, .na, .na, .na, .na, .na, .na, .na, .na, .na, .na, .na, .na, .na, .na, .na, .na, .na, .na, .na] [] 0) : Fin cE Try.f15 0 res T' n' [.code (bd Try.f15)] (argsS [.v (it n)] Try.f15.ntmps) [] 0 :=
  seg_at (keep := [3, 4]) (ct := ct) ctOk mixed (by decide) 2000 [.l, .l] (by kernel_rfl) cj0 hF
theorem num1_1 (u : Int) (m : Nat) (res : SV) (T' : Tab cE) (n' : Nat) (h0 : decide (u ≥ 128) = true) (h1 : Room (([] : List Int).length + [IntKind.u8.wrap ↑(BitVec.ofInt 8 (IntKind.u8.wrap u) ||| BitVec.ofInt 8 128).toNat].length) 1) (hF : Fin cE Try.f15 0 res T' n' (inK numK (m)) [.na, .na, .na, .v (.int .u64 (u.fdiv (2 ^ 7))), .o 0, .na, .na, .na, .na, .na, .na, .na, .na, .na, .na, .na, .na, .na, .na, .na, .na, .na, .na, .na, .na, .na, .na] [(0, .own 5 ([] ++ [IntKind.u8.wrap ↑(BitVec.ofInt 8 (IntKind.u8.wrap u) ||| BitVec.ofInt 8 128).toNat]))] 1) : Fin cE Try.f15 0 res T' n' (bodyK numK m) ([.na, .na, .na, .v (iu u), .v nilS] ++ List.replicate 22 .na) [] 0 :=
  seg_at (keep := [3, 4]) (ct := ct) ctOk mixed (by decide) 2000 [.t, .l] (by kernel_rfl) (cj h0 (cj h1 cj0)) hF
theorem num1_2 (u : Int) (m : Nat) (h0 : decide (u ≥ 128) = false) (h1 : Room (([] : List Int).length + [IntKind.u8.wrap u].length) 1) : Fin cE Try.f15 0 (.o 0) [(0, .own 5 ([] ++ [IntKind.u8.wrap u]))] 1 (bodyK numK m) ([.na, .na, .na, .v (iu u), .v nilS] ++ List.replicate 22 .na) [] 0 :=
  seg_fin (keep := [3, 4]) (ct := ct) ctOk mixed (by decide) 2000 [.f] (by kernel_rfl) (cj h0 (cj h1 cj0))
theorem num2_1 (u : Int) (l : List Int) (m : Nat) (res : SV) (T' : Tab cE) (n' : Nat) (h0 : decide (u ≥ 128) = true) (h1 : Room (l.length + [IntKind.u8.wrap ↑(BitVec.ofInt 8 (IntKind.u8.wrap u) ||| BitVec.ofInt 8 128).toNat].length) 1) (hF : Fin cE Try.f15 0 res T' n' (inK numK (m)) [.na, .na, .na, .v (.int .u64 (u.fdiv (2 ^ 7))), .o 0, .na, .na, .na, .na, .na, .na, .na, .na, .na, .na, .na, .na, .na, .na, .na, .na, .na, .na, .na, .na, .na, .na] [(0, .own 5 (l ++ [IntKind.u8.wrap ↑(BitVec.ofInt 8 (IntKind.u8.wrap u) ||| BitVec.ofInt 8 128).toNat]))] 1) : Fin cE Try.f15 0 res T' n' (bodyK numK m) ([.na, .na, .na, .v (iu u), .o 0] ++ List.replicate 22 .na) [(0, .own 5 l)] 1 :=
  seg_at (keep := [3, 4]) (ct := ct) ctOk mixed (by decide) 2000 [.t, .l] (by kernel_rfl) (cj h0 (cj h1 cj0)) hF
theorem num2_2 (u : Int) (l : List Int) (m : Nat) (h0 : decide (u ≥ 128) = false) (h1 : Room (l.length + [IntKind.u8.wrap u].length) 1) : Fin cE Try.f15 0 (.o 0) [(0, .own 5 (l ++ [IntKind.u8.wrap u]))] 1 (bodyK numK m) ([.na, .na, .na, .v (iu u), .o 0] ++ List.replicate 22 .na) [(0, .own 5 l)] 1 :=
  seg_fin (keep := [3, 4]) (ct := ct) ctOk mixed (by decide) 2000 [.f] (by kernel_rfl) (cj h0 (cj h1 cj0))
theorem sum0_1 (l : List Int) (res : SV) (T' : Tab cE) (n' : Nat) (hF : Fin cE Try.f18 1 res T' n' sumK [.na, .na, .na, .v (.int .u64 (0)), .na, .na, .o 0, .v (.int .i64 ((l.length : Int))), .v (.int .i64 (0)), .na, .na, .na, .na, .na, .na, .na, .na, .na, .na, .na, .na, .na, .na, .na, .na, .na, .na, .na, .na] [(0, .ro 5 (l) false)] 1) : Fin cE Try.f18 1 res T' n' [.code (bd Try.f18)] (argsS [.o 0] Try.f18.ntmps) [(0, .ro 5 l false)] 1 :=
  seg_at (keep := [3, 6, 7, 8]) (ct := ct) ctOk mixed (by decide) 2000 [] (by kernel_rfl) cj0 hF
theorem sum1_1 (l : List Int) (c : Int) (i m : Nat) (res : SV) (T' : Tab cE) (n' : Nat) (h0 : decide ((i : Int) < (l.length : Int)) = true) (h1 : (0 : Int) ≤ (i : Int) ∧ (i : Int) < (l.length : Int)) (h2 : i < l.length) (hF : Fin cE Try.f18 1 res T' n' (sumK2 (m)) [.na, .na, .na, .v (.int .u64 (IntKind.u64.wrap ↑(BitVec.ofInt 64 c ^^^ BitVec.ofInt 64 (IntKind.u64.wrap (IntKind.u64.wrap (l.getD i 0) * 2 ^ 56))).toNat)), .na, .na, .o 0, .v (.int .i64 ((l.length : Int))), .v (.int .i64 ((i : Int))), .na, .na, .na, .na, .na, .na, .na, .na, .v (.int .i64 (0)), .na, .na, .na, .na, .na, .na, .na, .na, .na, .na, .na] [(0, .ro 5 (l) false)] 1) : Fin cE Try.f18 1 res T' n' (bodyK sumK m) ([.na, .na, .na, .v (iu c), .na, .na, .o 0, .v (it l.length), .v (it i)] ++ List.replicate 20 .na) [(0, .ro 5 l false)] 1 :=
  seg_at (keep := [3, 6, 7, 8, 17]) (ct := ct) ctOk mixed (by decide) 2000 [.t, .l] (by kernel_rfl) (cj h0 (cj h1 (cj h2 cj0))) hF
theorem sum1_2 (l : List Int) (c : Int) (i m : Nat) (h0 : decide ((i : Int) < (l.length : Int)) = false) : Fin cE Try.f18 1 (.v (.int .u64 (c))) [(0, .ro 5 (l) false)] 1 (bodyK sumK m) ([.na, .na, .na, .v (iu c), .na, .na, .o 0, .v (it l.length), .v (it i)] ++ List.replicate 20 .na) [(0, .ro 5 l false)] 1 :=
  seg_fin (keep := [3, 6, 7, 8, 17]) (ct := ct) ctOk mixed (by decide) 2000 [.f] (by kernel_rfl) (cj h0 cj0)
theorem sum2_1 (l : List Int) (c : Int) (i j m k : Nat) (res : SV) (T' : Tab cE) (n' : Nat) (h0 : decide ((j : Int) < 8) = true) (hF : Fin cE Try.f18 1 res T' n' (inK (sumK2 (m)) (k)) [.na, .na, .na, .v (.int .u64 (IntKind.u64.wrap ↑(BitVec.ofInt 64 (IntKind.u64.wrap (c * 2 ^ 1)) ^^^ BitVec.ofInt 64 (IntKind.u64.wrap ↑(BitVec.ofInt 64 4823603603198064275 &&& BitVec.ofInt 64 (IntKind.u64.wrap (0 - c.fdiv (2 ^ 63)))).toNat)).toNat)), .na, .na, .o 0, .v (.int .i64 ((l.length : Int))), .v (.int .i64 ((i : Int))), .na, .na, .na, .na, .na, .na, .na, .na, .v (.int .i64 (IntKind.i64.wrap ((j : Int) + 1))), .na, .na, .na, .na, .na, .na, .na, .na, .na, .na, .na] [(0, .ro 5 (l) false)] 1) : Fin cE Try.f18 1 res T' n' (bodyK (sumK2 m) k) ([.na, .na, .na, .v (iu c), .na, .na, .o 0, .v (it l.length), .v (it i), .na, .na, .na, .na, .na, .na, .na, .na, .v (it j)] ++ List.replicate 11 .na) [(0, .ro 5 l false)] 1 :=
  seg_at (keep := [3, 6, 7, 8, 17]) (ct := ct) ctOk mixed (by decide) 2000 [.t, .l, .l] (by kernel_rfl) (cj h0 cj0) hF
theorem sum2_2 (l : List Int) (c : Int) (i j m k : Nat) (res : SV) (T' : Tab cE) (n' : Nat) (h0 : decide ((j : Int) < 8) = false) (hF : Fin cE Try.f18 1 res T' n' (inK sumK (m)) [.na, .na, .na, .v (.int .u64 (c)), .na, .na, .o 0, .v (.int .i64 ((l.length : Int))), .v (.int .i64 (IntKind.i64.wrap ((i : Int) + 1))), .na, .na, .na, .na, .na, .na, .na, .na, .v (.int .i64 ((j : Int))), .na, .na, .na, .na, .na, .na, .na, .na, .na, .na, .na] [(0, .ro 5 (l) false)] 1) : Fin cE Try.f18 1 res T' n' (bodyK (sumK2 m) k) ([.na, .na, .na, .v (iu c), .na, .na, .o 0, .v (it l.length), .v (it i), .na, .na, .na, .na, .na, .na, .na, .na, .v (it j)] ++ List.replicate 11 .na) [(0, .ro 5 l false)] 1 :=
  seg_at (keep := [3, 6, 7, 8, 17]) (ct := ct) ctOk mixed (by decide) 2000 [.f] (by kernel_rfl) (cj h0 cj0) hF
theorem cloneA_1 (l : List Int) (h0 : Room (([] : List Int).length + l.length) 1) : Does cE 33 [(0, .ro 5 l true)] 1 [.o 0] (.o 1) [(0, .ro 5 (l) true), (1, .own 5 ([] ++ l))] 2 :=
  does_path (ct := ct) ctOk mixed (fn := Try.f33) rfl (by kernel_rfl) 2000 [.l] (by kernel_rfl) (cj h0 cj0)
theorem cloneB_1  : Does cE 33 [] 0 [.v nilS] (.v (.slice (none) (0) (0))) [] 0 :=
  does_path (ct := ct) ctOk mixed (fn := Try.f33) rfl (by kernel_rfl) 2000 [.l] (by kernel_rfl) cj0
theorem eq0_1 (l r : List Int) (h0 : ((l.length : Int) != (r.length : Int)) = true) : Fin cE Try.f36 2 (.v (.bool (false))) [(0, .ro 5 (l) false), (1, .ro 5 (r) false)] 2 [.code (bd Try.f36)] (argsS [.o 0, .o 1] Try.f36.ntmps) [(0, .ro 5 l false), (1, .ro 5 r false)] 2 :=
  seg_fin (keep := [0, 1, 12, 13]) (ct := ct) ctOk mixed (by decide) 2000 [.t] (by kernel_rfl) (cj h0 cj0)
theorem eq0_2 (l r : List Int) (res : SV) (T' : Tab cE) (n' : Nat) (h0 : ((l.length : Int) != (r.length : Int)) = false) (hF : Fin cE Try.f36 2 res T' n' eqK [.o 0, .o 1, .na, .na, .na, .na, .na, .na, .na, .na, .na, .na, .v (.int .i64 ((l.length : Int))), .v (.int .i64 (0)), .na, .na, .na, .na, .na, .na, .na, .na, .na, .na, .na, .na] [(0, .ro 5 (l) false), (1, .ro 5 (r) false)] 2) : Fin cE Try.f36 2 res T' n' [.code (bd Try.f36)] (argsS [.o 0, .o 1] Try.f36.ntmps) [(0, .ro 5 l false), (1, .ro 5 r false)] 2 :=
  seg_at (keep := [0, 1, 12, 13]) (ct := ct) ctOk mixed (by decide) 2000 [.f] (by kernel_rfl) (cj h0 cj0) hF
theorem eq1_1 (l r : List Int) (i m : Nat) (h0 : decide ((i : Int) < (l.length : Int)) = true) (h1 : (0 : Int) ≤ (i : Int) ∧ (i : Int) < (l.length : Int)) (h2 : i < l.length) (h3 : (0 : Int) ≤ (i : Int) ∧ (i : Int) < (r.length : Int)) (h4 : i < r.length) (h5 : (l.getD i 0 != r.getD i 0) = true) : Fin cE Try.f36 2 (.v (.bool (false))) [(0, .ro 5 (l) false), (1, .ro 5 (r) false)] 2 (bodyK eqK m) ([.o 0, .o 1] ++ List.replicate 10 .na ++ [.v (it l.length), .v (it i)] ++ List.replicate 12 .na) [(0, .ro 5 l false), (1, .ro 5 r false)] 2 :=
  seg_fin (keep := [0, 1, 12, 13]) (ct := ct) ctOk mixed (by decide) 2000 [.t, .t] (by kernel_rfl) (cj h0 (cj h1 (cj h2 (cj h3 (cj h4 (cj h5 cj0))))))
theorem eq1_2 (l r : List Int) (i m : Nat) (res : SV) (T' : Tab cE) (n' : Nat) (h0 : decide ((i : Int) < (l.length : Int)) = true) (h1 : (0 : Int) ≤ (i : Int) ∧ (i : Int) < (l.length : Int)) (h2 : i < l.length) (h3 : (0 : Int) ≤ (i : Int) ∧ (i : Int) < (r.length : Int)) (h4 : i < r.length) (h5 : (l.getD i 0 != r.getD i 0) = false) (hF : Fin cE Try.f36 2 res T' n' (inK eqK (m)) [.o 0, .o 1, .na, .na, .na, .na, .na, .na, .na, .na, .na, .na, .v (.int .i64 ((l.length : Int))), .v (.int .i64 (IntKind.i64.wrap ((i : Int) + 1))), .na, .na, .na, .na, .na, .na, .na, .na, .na, .na, .na, .na] [(0, .ro 5 (l) false), (1, .ro 5 (r) false)] 2) : Fin cE Try.f36 2 res T' n' (bodyK eqK m) ([.o 0, .o 1] ++ List.replicate 10 .na ++ [.v (it l.length), .v (it i)] ++ List.replicate 12 .na) [(0, .ro 5 l false), (1, .ro 5 r false)] 2 :=
  seg_at (keep := [0, 1, 12, 13]) (ct := ct) ctOk mixed (by decide) 2000 [.t, .f] (by kernel_rfl) (cj h0 (cj h1 (cj h2 (cj h3 (cj h4 (cj h5 cj0)))))) hF
theorem eq1_3 (l r : List Int) (i m : Nat) (h0 : decide ((i : Int) < (l.length : Int)) = false) : Fin cE Try.f36 2 (.v (.bool (true))) [(0, .ro 5 (l) false), (1, .ro 5 (r) false)] 2 (bodyK eqK m) ([.o 0, .o 1] ++ List.replicate 10 .na ++ [.v (it l.length), .v (it i)] ++ List.replicate 12 .na) [(0, .ro 5 l false), (1, .ro 5 r false)] 2 :=
  seg_fin (keep := [0, 1, 12, 13]) (ct := ct) ctOk mixed (by decide) 2000 [.f] (by kernel_rfl) (cj h0 cj0)
end Go.Proofs.YtomgifkpnfgimaaC
