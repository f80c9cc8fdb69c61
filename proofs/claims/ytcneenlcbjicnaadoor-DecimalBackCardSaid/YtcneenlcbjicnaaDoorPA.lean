import Derived.Test.YtcneenlcbjicnaaDoorProg
import Derived.Test.YtcneenlcbjicnaaDoorSxo
import Derived.KernelRfl
import Derived.Lib.ItoaNum
/- Each path of each function: on which conditions it is taken, what it gives. Printed by a program (wip/tools/sxexp2.lean); Lean checks each. -/
namespace Go.Proofs.YtcneenlcbjicnaaDoorC
open Go.Proofs Go.Proofs.YtcneenlcbjicnaaDoorSx
set_option maxRecDepth 100000
set_option linter.unusedVariables false
abbrev it (n : Int) : Value := .int .i64 n
abbrev iu (n : Int) : Value := .int .u64 n
abbrev ib (n : Int) : Value := .int .u8 n
abbrev nilS : Value := .slice none 0 0
abbrev st (b : ByteArray) : Value := .string b
abbrev bg (h l : Int) (s : Bool) : Value := .agg #[iu h, iu l, .bool s]
abbrev dc (u s : Int) : Value := .agg #[it u, it s]
def pow10 : List Int := [1, 10, 100, 1000, 10000, 100000, 1000000, 10000000, 100000000, 1000000000, 10000000000, 100000000000, 1000000000000]
noncomputable def cE : Env := ⟨Tryd.prog, fun e => bif Nat.beq e 5 then u8F else bif Nat.beq e 9 then strF else numF .i64, fun g => bif Nat.beq g 0 then .ints .u64 pow10 else bif Nat.beq g 2 then .ints .u64 Lib.pow10Tab else .no⟩
theorem mixed : cE.P.follows .mixedOrders = true := by kernel_rfl
abbrev bd (fn : Func) : Code := fn.body.getD .skip
noncomputable def ct : Table cE := callT cE 2000 (fun _ => none) 8
theorem ctOk : TableOk cE ct := callT_ok mixed 2000 _ 8
def rep {α : Type} (n : Nat) (l : List α) : List α := (List.replicate n l).flatten
abbrev strL (s : ByteArray) : List Int := s.data.toList.map fun b => (b.toNat : Int)
abbrev bytesOf (l : List Int) : ByteArray := l.foldl (fun r n => r.push (UInt8.ofNat n.toNat)) ByteArray.empty

theorem of_1 (n : Int) (h0 : decide (n < 0) = true) : Does cE 44 [] 0 [.v (it n)] (.v (.agg #[(.int .u64 (0)), (.int .u64 (IntKind.u64.wrap (0 - IntKind.u64.wrap n))), (.bool (true))])) [] 0 :=
  does_path (ct := ct) ctOk mixed (fn := Tryd.f44) rfl (by kernel_rfl) 2000 [.t] (by kernel_rfl) (cj h0 cj0)
theorem of_2 (n : Int) (h0 : decide (n < 0) = false) : Does cE 44 [] 0 [.v (it n)] (.v (.agg #[(.int .u64 (0)), (.int .u64 (IntKind.u64.wrap n)), (.bool (false))])) [] 0 :=
  does_path (ct := ct) ctOk mixed (fn := Tryd.f44) rfl (by kernel_rfl) 2000 [.f] (by kernel_rfl) (cj h0 cj0)
theorem times_1 (h l n : Int) (s : Bool) (i0 : Int) (i1 : Int) (h0 : Does cE 64 [] 0 [.v (.int .u64 (l)), .v (.int .u64 (n))] (.v (.tuple #[(.int .u64 (i0)), (.int .u64 (i1))])) [] 0) : Does cE 47 [] 0 [.v (bg h l s), .v (iu n)] (.v (.agg #[(.int .u64 (IntKind.u64.wrap (i0 + IntKind.u64.wrap (h * n)))), (.int .u64 (i1)), (.bool (s))])) [] 0 :=
  does_path (ct := ct) ctOk mixed (fn := Tryd.f47) rfl (by kernel_rfl) 2000 [.c (.v (.tuple #[(.int .u64 (i0)), (.int .u64 (i1))])) [] 0] (by kernel_rfl) (cj h0 cj0)
theorem cmp64_1 (x y : Int) (h0 : (x != x) = true) (h1 : (y != y) = true) : Does cE 79 [] 0 [.v (iu x), .v (iu y)] (.v (.int .i64 (0))) [] 0 :=
  does_path (ct := ct) ctOk mixed (fn := Tryd.f79) rfl (by kernel_rfl) 2000 [.e, .e, .t, .t] (by kernel_rfl) (cj h0 (cj h1 cj0))
theorem cmp64_2 (x y : Int) (h0 : (x != x) = true) (h1 : (y != y) = false) : Does cE 79 [] 0 [.v (iu x), .v (iu y)] (.v (.int .i64 (-1))) [] 0 :=
  does_path (ct := ct) ctOk mixed (fn := Tryd.f79) rfl (by kernel_rfl) 2000 [.e, .e, .t, .f] (by kernel_rfl) (cj h0 (cj h1 cj0))
theorem cmp64_3 (x y : Int) (h0 : (x != x) = false) (h1 : (y != y) = true) : Does cE 79 [] 0 [.v (iu x), .v (iu y)] (.v (.int .i64 (1))) [] 0 :=
  does_path (ct := ct) ctOk mixed (fn := Tryd.f79) rfl (by kernel_rfl) 2000 [.e, .e, .f, .t] (by kernel_rfl) (cj h0 (cj h1 cj0))
theorem cmp64_4 (x y : Int) (h0 : (x != x) = false) (h1 : (y != y) = false) (h2 : decide (x < y) = true) : Does cE 79 [] 0 [.v (iu x), .v (iu y)] (.v (.int .i64 (-1))) [] 0 :=
  does_path (ct := ct) ctOk mixed (fn := Tryd.f79) rfl (by kernel_rfl) 2000 [.e, .e, .f, .f, .t] (by kernel_rfl) (cj h0 (cj h1 (cj h2 cj0)))
theorem cmp64_5 (x y : Int) (h0 : (x != x) = false) (h1 : (y != y) = false) (h2 : decide (x < y) = false) (h3 : decide (x > y) = true) : Does cE 79 [] 0 [.v (iu x), .v (iu y)] (.v (.int .i64 (1))) [] 0 :=
  does_path (ct := ct) ctOk mixed (fn := Tryd.f79) rfl (by kernel_rfl) 2000 [.e, .e, .f, .f, .f, .t] (by kernel_rfl) (cj h0 (cj h1 (cj h2 (cj h3 cj0))))
theorem cmp64_6 (x y : Int) (h0 : (x != x) = false) (h1 : (y != y) = false) (h2 : decide (x < y) = false) (h3 : decide (x > y) = false) : Does cE 79 [] 0 [.v (iu x), .v (iu y)] (.v (.int .i64 (0))) [] 0 :=
  does_path (ct := ct) ctOk mixed (fn := Tryd.f79) rfl (by kernel_rfl) 2000 [.e, .e, .f, .f, .f, .f] (by kernel_rfl) (cj h0 (cj h1 (cj h2 (cj h3 cj0))))
theorem cmpb_1 (h l g k : Int) (s t : Bool) (i0 : Int) (i1 : Int) (i2 : Int) (h0 : Does cE 79 [] 0 [.v (.int .u64 (h)), .v (.int .u64 (g))] (.v (.int .i64 (i0))) [] 0) (h1 : Does cE 79 [] 0 [.v (.int .u64 (l)), .v (.int .u64 (k))] (.v (.int .i64 (i1))) [] 0) (h2 : Does cE 78 [(0, .ro 3 ([i0, i1]) false)] 1 [.o 0] (.v (.int .i64 (i2))) [] 1) : Does cE 62 [] 0 [.v (bg h l s), .v (bg g k t)] (.v (.int .i64 (i2))) [] 0 :=
  does_path (ct := ct) ctOk mixed (fn := Tryd.f62) rfl (by kernel_rfl) 2000 [.c (.v (.int .i64 (i0))) [] 0, .c (.v (.int .i64 (i1))) [] 0, .c (.v (.int .i64 (i2))) [] 1] (by kernel_rfl) (cj h0 (cj h1 (cj h2 cj0)))
theorem plus_1 (h l g k : Int) (s t : Bool) (i0 : Int) (i1 : Int) (h0 : (s == t) = true) (h1 : Does cE 67 [] 0 [.v (.int .u64 (l)), .v (.int .u64 (k)), .v (.int .u64 (0))] (.v (.tuple #[(.int .u64 (i0)), (.int .u64 (i1))])) [] 0) : Does cE 53 [] 0 [.v (bg h l s), .v (bg g k t)] (.v (.agg #[(.int .u64 (IntKind.u64.wrap (IntKind.u64.wrap (h + g) + i1))), (.int .u64 (i0)), (.bool (s))])) [] 0 :=
  does_path (ct := ct) ctOk mixed (fn := Tryd.f53) rfl (by kernel_rfl) 2000 [.t, .c (.v (.tuple #[(.int .u64 (i0)), (.int .u64 (i1))])) [] 0] (by kernel_rfl) (cj h0 (cj h1 cj0))
theorem plus_2 (h l g k : Int) (s t : Bool) (i0 : Int) (i1 : Int) (i2 : Int) (h0 : (s == t) = false) (h1 : Does cE 62 [] 0 [.v (.agg #[(.int .u64 (h)), (.int .u64 (l)), (.bool (s))]), .v (.agg #[(.int .u64 (g)), (.int .u64 (k)), (.bool (t))])] (.v (.int .i64 (i0))) [] 0) (h2 : decide (i0 < 0) = true) (h3 : Does cE 63 [] 0 [.v (.int .u64 (k)), .v (.int .u64 (l)), .v (.int .u64 (0))] (.v (.tuple #[(.int .u64 (i1)), (.int .u64 (i2))])) [] 0) : Does cE 53 [] 0 [.v (bg h l s), .v (bg g k t)] (.v (.agg #[(.int .u64 (IntKind.u64.wrap (IntKind.u64.wrap (g - h) - i2))), (.int .u64 (i1)), (.bool (t))])) [] 0 :=
  does_path (ct := ct) ctOk mixed (fn := Tryd.f53) rfl (by kernel_rfl) 2000 [.f, .c (.v (.int .i64 (i0))) [] 0, .t, .c (.v (.tuple #[(.int .u64 (i1)), (.int .u64 (i2))])) [] 0] (by kernel_rfl) (cj h0 (cj h1 (cj h2 (cj h3 cj0))))
theorem plus_3 (h l g k : Int) (s t : Bool) (i0 : Int) (i1 : Int) (i2 : Int) (h0 : (s == t) = false) (h1 : Does cE 62 [] 0 [.v (.agg #[(.int .u64 (h)), (.int .u64 (l)), (.bool (s))]), .v (.agg #[(.int .u64 (g)), (.int .u64 (k)), (.bool (t))])] (.v (.int .i64 (i0))) [] 0) (h2 : decide (i0 < 0) = false) (h3 : Does cE 63 [] 0 [.v (.int .u64 (l)), .v (.int .u64 (k)), .v (.int .u64 (0))] (.v (.tuple #[(.int .u64 (i1)), (.int .u64 (i2))])) [] 0) : Does cE 53 [] 0 [.v (bg h l s), .v (bg g k t)] (.v (.agg #[(.int .u64 (IntKind.u64.wrap (IntKind.u64.wrap (h - g) - i2))), (.int .u64 (i1)), (.bool (s))])) [] 0 :=
  does_path (ct := ct) ctOk mixed (fn := Tryd.f53) rfl (by kernel_rfl) 2000 [.f, .c (.v (.int .i64 (i0))) [] 0, .f, .c (.v (.tuple #[(.int .u64 (i1)), (.int .u64 (i2))])) [] 0] (by kernel_rfl) (cj h0 (cj h1 (cj h2 (cj h3 cj0))))
theorem back_1 (h l sc : Int) (s : Bool) (h0 : (h != 0) = true) : Does cE 43 [] 0 [.v (bg h l s), .v (it sc)] (.v (.tuple #[(.agg #[(.int .i64 (0)), (.int .i64 (0))]), (.int .i64 (32))])) [] 0 :=
  does_path (ct := ct) ctOk mixed (fn := Tryd.f43) rfl (by kernel_rfl) 2000 [.t] (by kernel_rfl) (cj h0 cj0)
theorem back_2 (h l sc : Int) (s : Bool) (h0 : (h != 0) = false) (h1 : s = true) (h2 : decide (l ≤ 9223372036854775808) = true) : Does cE 43 [] 0 [.v (bg h l s), .v (it sc)] (.v (.tuple #[(.agg #[(.int .i64 (IntKind.i64.wrap (IntKind.u64.wrap (0 - l)))), (.int .i64 (sc))]), (.int .i64 (0))])) [] 0 :=
  does_path (ct := ct) ctOk mixed (fn := Tryd.f43) rfl (by kernel_rfl) 2000 [.f, .t, .t, .t, .t, .t] (by kernel_rfl) (cj h0 (cj h1 (cj h1 (cj h1 (cj h1 (cj h2 cj0))))))
theorem back_3 (h l sc : Int) (s : Bool) (h0 : (h != 0) = false) (h1 : s = true) (h2 : decide (l ≤ 9223372036854775808) = false) (h3 : (!s) = true) (h4 : decide (l < 9223372036854775808) = true) : Does cE 43 [] 0 [.v (bg h l s), .v (it sc)] (.v (.tuple #[(.agg #[(.int .i64 (IntKind.i64.wrap l)), (.int .i64 (sc))]), (.int .i64 (0))])) [] 0 :=
  does_path (ct := ct) ctOk mixed (fn := Tryd.f43) rfl (by kernel_rfl) 2000 [.f, .t, .t, .t, .t, .f, .t, .t, .t, .t, .t] (by kernel_rfl) (cj h0 (cj h1 (cj h1 (cj h1 (cj h1 (cj h2 (cj h3 (cj h3 (cj h3 (cj h3 (cj h4 cj0)))))))))))
theorem back_4 (h l sc : Int) (s : Bool) (h0 : (h != 0) = false) (h1 : s = true) (h2 : decide (l ≤ 9223372036854775808) = false) (h3 : (!s) = true) (h4 : decide (l < 9223372036854775808) = false) : Does cE 43 [] 0 [.v (bg h l s), .v (it sc)] (.v (.tuple #[(.agg #[(.int .i64 (0)), (.int .i64 (0))]), (.int .i64 (32))])) [] 0 :=
  does_path (ct := ct) ctOk mixed (fn := Tryd.f43) rfl (by kernel_rfl) 2000 [.f, .t, .t, .t, .t, .f, .t, .t, .t, .t, .f] (by kernel_rfl) (cj h0 (cj h1 (cj h1 (cj h1 (cj h1 (cj h2 (cj h3 (cj h3 (cj h3 (cj h3 (cj h4 cj0)))))))))))
theorem back_5 (h l sc : Int) (s : Bool) (h0 : (h != 0) = false) (h1 : s = true) (h2 : decide (l ≤ 9223372036854775808) = false) (h3 : (!s) = false) : Does cE 43 [] 0 [.v (bg h l s), .v (it sc)] (.v (.tuple #[(.agg #[(.int .i64 (0)), (.int .i64 (0))]), (.int .i64 (32))])) [] 0 :=
  does_path (ct := ct) ctOk mixed (fn := Tryd.f43) rfl (by kernel_rfl) 2000 [.f, .t, .t, .t, .t, .f, .f, .f, .f, .f, .l] (by kernel_rfl) (cj h0 (cj h1 (cj h1 (cj h1 (cj h1 (cj h2 (cj h3 (cj h3 (cj h3 (cj h3 cj0))))))))))
theorem back_6 (h l sc : Int) (s : Bool) (h0 : (h != 0) = false) (h1 : s = false) (h2 : (!s) = true) (h3 : decide (l < 9223372036854775808) = true) : Does cE 43 [] 0 [.v (bg h l s), .v (it sc)] (.v (.tuple #[(.agg #[(.int .i64 (IntKind.i64.wrap l)), (.int .i64 (sc))]), (.int .i64 (0))])) [] 0 :=
  does_path (ct := ct) ctOk mixed (fn := Tryd.f43) rfl (by kernel_rfl) 2000 [.f, .f, .f, .f, .f, .l, .t, .t, .t, .t, .t] (by kernel_rfl) (cj h0 (cj h1 (cj h1 (cj h1 (cj h1 (cj h2 (cj h2 (cj h2 (cj h2 (cj h3 cj0))))))))))
theorem back_7 (h l sc : Int) (s : Bool) (h0 : (h != 0) = false) (h1 : s = false) (h2 : (!s) = true) (h3 : decide (l < 9223372036854775808) = false) : Does cE 43 [] 0 [.v (bg h l s), .v (it sc)] (.v (.tuple #[(.agg #[(.int .i64 (0)), (.int .i64 (0))]), (.int .i64 (32))])) [] 0 :=
  does_path (ct := ct) ctOk mixed (fn := Tryd.f43) rfl (by kernel_rfl) 2000 [.f, .f, .f, .f, .f, .l, .t, .t, .t, .t, .f] (by kernel_rfl) (cj h0 (cj h1 (cj h1 (cj h1 (cj h1 (cj h2 (cj h2 (cj h2 (cj h2 (cj h3 cj0))))))))))
theorem back_8 (h l sc : Int) (s : Bool) (h0 : (h != 0) = false) (h1 : s = false) (h2 : (!s) = false) : Does cE 43 [] 0 [.v (bg h l s), .v (it sc)] (.v (.tuple #[(.agg #[(.int .i64 (0)), (.int .i64 (0))]), (.int .i64 (32))])) [] 0 :=
  does_path (ct := ct) ctOk mixed (fn := Tryd.f43) rfl (by kernel_rfl) 2000 [.f, .f, .f, .f, .f, .l, .f, .f, .f, .f, .l] (by kernel_rfl) (cj h0 (cj h1 (cj h1 (cj h1 (cj h1 (cj h2 (cj h2 (cj h2 (cj h2 cj0)))))))))
theorem up_1 (u x sc : Int) (i0 : Int) (i1 : Int) (b2 : Bool) (i3 : Int) (i4 : Int) (b5 : Bool) (h0 : Does cE 44 [] 0 [.v (.int .i64 (u))] (.v (.agg #[(.int .u64 (i0)), (.int .u64 (i1)), (.bool (b2))])) [] 0) (h1 : (0 : Int) ≤ IntKind.i64.wrap (sc - x) ∧ IntKind.i64.wrap (sc - x) < ((13 : Nat) : Int)) (h2 : (0 + (IntKind.i64.wrap (sc - x)).toNat * 1).succ.le pow10.length) (h3 : Does cE 47 [] 0 [.v (.agg #[(.int .u64 (i0)), (.int .u64 (i1)), (.bool (b2))]), .v (.int .u64 (pow10.getD (0 + (IntKind.i64.wrap (sc - x)).toNat * 1) 0))] (.v (.agg #[(.int .u64 (i3)), (.int .u64 (i4)), (.bool (b5))])) [] 0) : Does cE 42 [] 0 [.v (dc u x), .v (it sc)] (.v (.agg #[(.int .u64 (i3)), (.int .u64 (i4)), (.bool (b5))])) [] 0 :=
  does_path (ct := ct) ctOk mixed (fn := Tryd.f42) rfl (by kernel_rfl) 2000 [.c (.v (.agg #[(.int .u64 (i0)), (.int .u64 (i1)), (.bool (b2))])) [] 0, .c (.v (.agg #[(.int .u64 (i3)), (.int .u64 (i4)), (.bool (b5))])) [] 0] (by kernel_rfl) (cj h0 (cj h1 (cj h2 (cj h3 cj0))))
end Go.Proofs.YtcneenlcbjicnaaDoorC
