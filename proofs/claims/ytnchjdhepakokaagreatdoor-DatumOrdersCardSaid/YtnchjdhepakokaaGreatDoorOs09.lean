import Derived.Test.YtnchjdhepakokaaGreatDoorProg
import Derived.KernelRfl
import Derived.Test.YtnchjdhepakokaaGreatDoorOs08
import Derived.Laws.FloatArith
import Derived.Shelf.Unicode.ValidAny
import Derived.Ground.NamesProg
import Derived.Test.YtnchjdhepakokaaGreatDoorOs05
import Derived.Lib.ValidLaws
import Derived.Lib.DecodeN
import Derived.Lib.TrimUEq
import Derived.Laws.RangeAny
import Derived.WalkKit
import Derived.LoopTactic
import Derived.Laws.RangeString
import Derived.Laws.Strings
import Derived.Laws.Strings2
import Derived.Laws.Strings3
import Derived.Test.YtnchjdhepakokaaGreatDoorOs07
/- Each path of each function: on which conditions it is taken, what it gives. Printed by a program (wip/tools/sxexp.lean); Lean checks each. -/
namespace Go.Proofs.YtnchjdhepakokaaGreatDoorGG
open Go.Proofs Go.Proofs.YtnchjdhepakokaaGreatDoorGS1
set_option maxRecDepth 100000
set_option linter.unusedVariables false
abbrev pt (x y : Int) : Value := .agg #[.int .i64 x, .int .i64 y]
abbrev pe (x y e : Int) : Value := .tuple #[pt x y, .int .i64 e]
abbrev p2e (x y x' y' e : Int) : Value := .tuple #[pt x y, pt x' y', .int .i64 e]
abbrev fl (n : Nat) : Value := .float .f64 n
abbrev cx (n m : Nat) : Value := .complex .f64 n m
abbrev it (n : Int) : Value := .int .i64 n
abbrev fv (n : Nat) : Value := .func (.func n) #[] #[]
theorem mixed : Tryz.prog.follows .mixedOrders = true := by kernel_rfl
abbrev bd (fn : Func) : Code := fn.body.getD .skip
noncomputable abbrev up : Table := uct Tryz.prog
noncomputable def turnK : List It := stackOf (runC Tryz.prog up 100 (begin_ (bd Tryz.f161) [pt 0 0, it 0] Tryz.f161.ntmps [.u (.bool true), .f, .u (cx 0 0), .l, .l]))
noncomputable def rturnK : List It := stackOf (runC Tryz.prog up 100 (begin_ (bd Tryz.f89) [pt 0 0, it 0] Tryz.f89.ntmps [.u (.bool true), .f]))
noncomputable def nearA : List It := stackOf (runC Tryz.prog up 100 (begin_ (bd Tryz.f265) [fl 0, fl 0] Tryz.f265.ntmps [.n 0, .u (fl 0)]))
noncomputable def nearB : List It := stackOf (runC Tryz.prog up 100 ⟨bodyK nearA 0, .normal, ⟨[fl 0, fl 0, fl 0, fl 0, fl 0, fl 0].map .v ++ List.replicate 30 .x, [], [], [.n 0, .f]⟩⟩)
theorem Right_1 (x y : Int) (h0 : decide (x ≥ -1048576) = true) (h1 : decide (x ≤ 1048576) = true) (h2 : decide (y ≥ -1048576) = true) : Does Tryz.prog 126 [pt x y] (.bool (decide (y ≤ 1048576))) :=
  does_path mixed (fn := Tryz.f126) rfl (by kernel_rfl) 400 [.t, .t, .t, .t, .t, .t, .t, .t, .t, .t, .t, .t] (by kernel_rfl) (cj h0 (cj h0 (cj h0 (cj h0 (cj h1 (cj h1 (cj h1 (cj h1 (cj h2 (cj h2 (cj h2 (cj h2 cj0))))))))))))
theorem Right_2 (x y : Int) (h0 : decide (x ≥ -1048576) = true) (h1 : decide (x ≤ 1048576) = true) (h2 : decide (y ≥ -1048576) = false) : Does Tryz.prog 126 [pt x y] (.bool (false)) :=
  does_path mixed (fn := Tryz.f126) rfl (by kernel_rfl) 400 [.t, .t, .t, .t, .t, .t, .t, .t, .f, .f, .f, .f] (by kernel_rfl) (cj h0 (cj h0 (cj h0 (cj h0 (cj h1 (cj h1 (cj h1 (cj h1 (cj h2 (cj h2 (cj h2 (cj h2 cj0))))))))))))
theorem Right_3 (x y : Int) (h0 : decide (x ≥ -1048576) = true) (h1 : decide (x ≤ 1048576) = false) : Does Tryz.prog 126 [pt x y] (.bool (false)) :=
  does_path mixed (fn := Tryz.f126) rfl (by kernel_rfl) 400 [.t, .t, .t, .t, .f, .f, .f, .f, .l, .f, .f, .l] (by kernel_rfl) (cj h0 (cj h0 (cj h0 (cj h0 (cj h1 (cj h1 (cj h1 (cj h1 (cj (rfl : false = false) (cj (rfl : false = false) cj0))))))))))
theorem Right_4 (x y : Int) (h0 : decide (x ≥ -1048576) = false) : Does Tryz.prog 126 [pt x y] (.bool (false)) :=
  does_path mixed (fn := Tryz.f126) rfl (by kernel_rfl) 400 [.f, .f, .f, .f, .l, .f, .f, .f, .l, .f, .f, .l] (by kernel_rfl) (cj h0 (cj h0 (cj h0 (cj h0 (cj (rfl : false = false) (cj (rfl : false = false) (cj (rfl : false = false) (cj (rfl : false = false) (cj (rfl : false = false) cj0)))))))))
theorem rRight_1 (x y : Int) (h0 : decide (x ≥ -1048576) = true) (h1 : decide (x ≤ 1048576) = true) (h2 : decide (y ≥ -1048576) = true) : Does Tryz.prog 75 [pt x y] (.bool (decide (y ≤ 1048576))) :=
  does_path mixed (fn := Tryz.f75) rfl (by kernel_rfl) 400 [.t, .t, .t, .t, .t, .t, .t, .t, .t, .t, .t, .t] (by kernel_rfl) (cj h0 (cj h0 (cj h0 (cj h0 (cj h1 (cj h1 (cj h1 (cj h1 (cj h2 (cj h2 (cj h2 (cj h2 cj0))))))))))))
theorem rRight_2 (x y : Int) (h0 : decide (x ≥ -1048576) = true) (h1 : decide (x ≤ 1048576) = true) (h2 : decide (y ≥ -1048576) = false) : Does Tryz.prog 75 [pt x y] (.bool (false)) :=
  does_path mixed (fn := Tryz.f75) rfl (by kernel_rfl) 400 [.t, .t, .t, .t, .t, .t, .t, .t, .f, .f, .f, .f] (by kernel_rfl) (cj h0 (cj h0 (cj h0 (cj h0 (cj h1 (cj h1 (cj h1 (cj h1 (cj h2 (cj h2 (cj h2 (cj h2 cj0))))))))))))
theorem rRight_3 (x y : Int) (h0 : decide (x ≥ -1048576) = true) (h1 : decide (x ≤ 1048576) = false) : Does Tryz.prog 75 [pt x y] (.bool (false)) :=
  does_path mixed (fn := Tryz.f75) rfl (by kernel_rfl) 400 [.t, .t, .t, .t, .f, .f, .f, .f, .l, .f, .f, .l] (by kernel_rfl) (cj h0 (cj h0 (cj h0 (cj h0 (cj h1 (cj h1 (cj h1 (cj h1 (cj (rfl : false = false) (cj (rfl : false = false) cj0))))))))))
theorem rRight_4 (x y : Int) (h0 : decide (x ≥ -1048576) = false) : Does Tryz.prog 75 [pt x y] (.bool (false)) :=
  does_path mixed (fn := Tryz.f75) rfl (by kernel_rfl) 400 [.f, .f, .f, .f, .l, .f, .f, .f, .l, .f, .f, .l] (by kernel_rfl) (cj h0 (cj h0 (cj h0 (cj h0 (cj (rfl : false = false) (cj (rfl : false = false) (cj (rfl : false = false) (cj (rfl : false = false) (cj (rfl : false = false) cj0)))))))))
theorem z_1 (x y : Int) : Does Tryz.prog 213 [pt x y] (.complex .f64 (FloatKind.f64.nearest x) (FloatKind.f64.nearest y)) :=
  does_path mixed (fn := Tryz.f213) rfl (by kernel_rfl) 400 [] (by kernel_rfl) cj0
theorem of_1 (k l : Nat) (i0 : Int) (i1 : Int) (h0 : Go.floatToIntVal .f64 k .i64 = some i0) (h1 : Go.floatToIntVal .f64 l .i64 = some i1) : Does Tryz.prog 219 [cx k l] (.agg #[(.int .i64 (i0)), (.int .i64 (i1))]) :=
  does_path mixed (fn := Tryz.f219) rfl (by kernel_rfl) 400 [.i i0, .i i1] (by kernel_rfl) (cj h0 (cj h1 cj0))
theorem conj_1 (k l : Nat) : Does Tryz.prog 214 [cx k l] (.complex .f64 (k) (Go.Op.negFloat .f64 l)) :=
  does_path mixed (fn := Tryz.f214) rfl (by kernel_rfl) 400 [] (by kernel_rfl) cj0
theorem Add1_1 (k l m n : Nat) (n0 : Nat) (n1 : Nat) (h0 : Go.cSumBits Go.BinOp.add .f64 k l m n = some (n0, n1)) : Does Tryz.prog 226 [cx k l, cx m n] (.complex .f64 (n0) (n1)) :=
  does_path mixed (fn := Tryz.f226) rfl (by kernel_rfl) 400 [.n n0, .n n1] (by kernel_rfl) (cj h0 cj0)
theorem Sub1_1 (k l m n : Nat) (n0 : Nat) (n1 : Nat) (h0 : Go.cSumBits Go.BinOp.sub .f64 k l m n = some (n0, n1)) : Does Tryz.prog 227 [cx k l, cx m n] (.complex .f64 (n0) (n1)) :=
  does_path mixed (fn := Tryz.f227) rfl (by kernel_rfl) 400 [.n n0, .n n1] (by kernel_rfl) (cj h0 cj0)
theorem Mul1_1 (k l m n : Nat) (n0 : Nat) (n1 : Nat) (h0 : Does Tryz.prog 212 [(.complex .f64 (k) (l)), (.complex .f64 (m) (n))] (.complex .f64 (n0) (n1))) : Does Tryz.prog 225 [cx k l, cx m n] (.complex .f64 (n0) (n1)) :=
  does_path mixed (fn := Tryz.f225) rfl (by kernel_rfl) 400 [.u (.complex .f64 (n0) (n1))] (by kernel_rfl) (cj h0 cj0)
theorem product_1 (k l m n : Nat) (n0 : Nat) (n1 : Nat) (n2 : Nat) (n3 : Nat) (n4 : Nat) (n5 : Nat) (h0 : Go.floatBits Go.BinOp.mul .f64 k m = some n0) (h1 : Go.floatBits Go.BinOp.mul .f64 l n = some n1) (h2 : Go.floatBits Go.BinOp.sub .f64 n0 n1 = some n2) (h3 : Go.floatBits Go.BinOp.mul .f64 k n = some n3) (h4 : Go.floatBits Go.BinOp.mul .f64 l m = some n4) (h5 : Go.floatBits Go.BinOp.add .f64 n3 n4 = some n5) : Does Tryz.prog 212 [cx k l, cx m n] (.complex .f64 (n2) (n5)) :=
  does_path mixed (fn := Tryz.f212) rfl (by kernel_rfl) 400 [.n n0, .n n1, .n n2, .n n3, .n n4, .n n5] (by kernel_rfl) (cj h0 (cj h1 (cj h2 (cj h3 (cj h4 (cj h5 cj0))))))
theorem both_1 (x y z u : Int) (k : Nat) (b0 : Bool) (h0 : Does Tryz.prog 126 [(.agg #[(.int .i64 (x)), (.int .i64 (y))])] (.bool (b0))) (h1 : (!b0) = true) : Does Tryz.prog 224 [pt x y, pt z u, fv k] (.tuple #[(.agg #[(.int .i64 (0)), (.int .i64 (0))]), (.int .i64 (1))]) :=
  does_path mixed (fn := Tryz.f224) rfl (by kernel_rfl) 400 [.u (.bool (b0)), .t, .t, .t, .t, .l] (by kernel_rfl) (cj h0 (cj h1 (cj h1 (cj h1 (cj h1 cj0)))))
theorem both_2 (x y z u : Int) (k : Nat) (b0 : Bool) (b1 : Bool) (h0 : Does Tryz.prog 126 [(.agg #[(.int .i64 (x)), (.int .i64 (y))])] (.bool (b0))) (h1 : (!b0) = false) (h2 : Does Tryz.prog 126 [(.agg #[(.int .i64 (z)), (.int .i64 (u))])] (.bool (b1))) (h3 : (!b1) = true) : Does Tryz.prog 224 [pt x y, pt z u, fv k] (.tuple #[(.agg #[(.int .i64 (0)), (.int .i64 (0))]), (.int .i64 (1))]) :=
  does_path mixed (fn := Tryz.f224) rfl (by kernel_rfl) 400 [.u (.bool (b0)), .f, .f, .u (.bool (b1)), .f, .f, .t] (by kernel_rfl) (cj h0 (cj h1 (cj h1 (cj h2 (cj h1 (cj h1 (cj h3 cj0)))))))
theorem both_3 (x y z u : Int) (k : Nat) (b0 : Bool) (b1 : Bool) (n2 : Nat) (n3 : Nat) (n4 : Nat) (n5 : Nat) (n6 : Nat) (n7 : Nat) (i8 : Int) (i9 : Int) (b10 : Bool) (h0 : Does Tryz.prog 126 [(.agg #[(.int .i64 (x)), (.int .i64 (y))])] (.bool (b0))) (h1 : (!b0) = false) (h2 : Does Tryz.prog 126 [(.agg #[(.int .i64 (z)), (.int .i64 (u))])] (.bool (b1))) (h3 : (!b1) = false) (h4 : Does Tryz.prog 213 [(.agg #[(.int .i64 (x)), (.int .i64 (y))])] (.complex .f64 (n2) (n3))) (h5 : Does Tryz.prog 213 [(.agg #[(.int .i64 (z)), (.int .i64 (u))])] (.complex .f64 (n4) (n5))) (h6 : Does Tryz.prog k [(.complex .f64 (n2) (n3)), (.complex .f64 (n4) (n5))] (.complex .f64 (n6) (n7))) (h7 : Does Tryz.prog 219 [(.complex .f64 (n6) (n7))] (.agg #[(.int .i64 (i8)), (.int .i64 (i9))])) (h8 : Does Tryz.prog 126 [(.agg #[(.int .i64 (i8)), (.int .i64 (i9))])] (.bool (b10))) (h9 : (!b10) = true) : Does Tryz.prog 224 [pt x y, pt z u, fv k] (.tuple #[(.agg #[(.int .i64 (0)), (.int .i64 (0))]), (.int .i64 (32))]) :=
  does_path mixed (fn := Tryz.f224) rfl (by kernel_rfl) 400 [.u (.bool (b0)), .f, .f, .u (.bool (b1)), .f, .f, .f, .u (.complex .f64 (n2) (n3)), .u (.complex .f64 (n4) (n5)), .u (.complex .f64 (n6) (n7)), .u (.agg #[(.int .i64 (i8)), (.int .i64 (i9))]), .u (.bool (b10)), .t] (by kernel_rfl) (cj h0 (cj h1 (cj h1 (cj h2 (cj h1 (cj h1 (cj h3 (cj h4 (cj h5 (cj h6 (cj h7 (cj h8 (cj h9 cj0)))))))))))))
theorem both_4 (x y z u : Int) (k : Nat) (b0 : Bool) (b1 : Bool) (n2 : Nat) (n3 : Nat) (n4 : Nat) (n5 : Nat) (n6 : Nat) (n7 : Nat) (i8 : Int) (i9 : Int) (b10 : Bool) (h0 : Does Tryz.prog 126 [(.agg #[(.int .i64 (x)), (.int .i64 (y))])] (.bool (b0))) (h1 : (!b0) = false) (h2 : Does Tryz.prog 126 [(.agg #[(.int .i64 (z)), (.int .i64 (u))])] (.bool (b1))) (h3 : (!b1) = false) (h4 : Does Tryz.prog 213 [(.agg #[(.int .i64 (x)), (.int .i64 (y))])] (.complex .f64 (n2) (n3))) (h5 : Does Tryz.prog 213 [(.agg #[(.int .i64 (z)), (.int .i64 (u))])] (.complex .f64 (n4) (n5))) (h6 : Does Tryz.prog k [(.complex .f64 (n2) (n3)), (.complex .f64 (n4) (n5))] (.complex .f64 (n6) (n7))) (h7 : Does Tryz.prog 219 [(.complex .f64 (n6) (n7))] (.agg #[(.int .i64 (i8)), (.int .i64 (i9))])) (h8 : Does Tryz.prog 126 [(.agg #[(.int .i64 (i8)), (.int .i64 (i9))])] (.bool (b10))) (h9 : (!b10) = false) : Does Tryz.prog 224 [pt x y, pt z u, fv k] (.tuple #[(.agg #[(.int .i64 (i8)), (.int .i64 (i9))]), (.int .i64 (0))]) :=
  does_path mixed (fn := Tryz.f224) rfl (by kernel_rfl) 400 [.u (.bool (b0)), .f, .f, .u (.bool (b1)), .f, .f, .f, .u (.complex .f64 (n2) (n3)), .u (.complex .f64 (n4) (n5)), .u (.complex .f64 (n6) (n7)), .u (.agg #[(.int .i64 (i8)), (.int .i64 (i9))]), .u (.bool (b10)), .f] (by kernel_rfl) (cj h0 (cj h1 (cj h1 (cj h2 (cj h1 (cj h1 (cj h3 (cj h4 (cj h5 (cj h6 (cj h7 (cj h8 (cj h9 cj0)))))))))))))
theorem Add_1 (x y z u : Int) (i0 : Int) (i1 : Int) (i2 : Int) (h0 : Does Tryz.prog 224 [(.agg #[(.int .i64 (x)), (.int .i64 (y))]), (.agg #[(.int .i64 (z)), (.int .i64 (u))]), (.func (Go.Fn.func 226) #[] #[])] (.tuple #[(.agg #[(.int .i64 (i0)), (.int .i64 (i1))]), (.int .i64 (i2))])) : Does Tryz.prog 169 [pt x y, pt z u] (.tuple #[(.agg #[(.int .i64 (i0)), (.int .i64 (i1))]), (.int .i64 (i2))]) :=
  does_path mixed (fn := Tryz.f169) rfl (by kernel_rfl) 400 [.u (.tuple #[(.agg #[(.int .i64 (i0)), (.int .i64 (i1))]), (.int .i64 (i2))])] (by kernel_rfl) (cj h0 cj0)
theorem Sub_1 (x y z u : Int) (i0 : Int) (i1 : Int) (i2 : Int) (h0 : Does Tryz.prog 224 [(.agg #[(.int .i64 (x)), (.int .i64 (y))]), (.agg #[(.int .i64 (z)), (.int .i64 (u))]), (.func (Go.Fn.func 227) #[] #[])] (.tuple #[(.agg #[(.int .i64 (i0)), (.int .i64 (i1))]), (.int .i64 (i2))])) : Does Tryz.prog 170 [pt x y, pt z u] (.tuple #[(.agg #[(.int .i64 (i0)), (.int .i64 (i1))]), (.int .i64 (i2))]) :=
  does_path mixed (fn := Tryz.f170) rfl (by kernel_rfl) 400 [.u (.tuple #[(.agg #[(.int .i64 (i0)), (.int .i64 (i1))]), (.int .i64 (i2))])] (by kernel_rfl) (cj h0 cj0)
theorem Mul_1 (x y z u : Int) (i0 : Int) (i1 : Int) (i2 : Int) (h0 : Does Tryz.prog 224 [(.agg #[(.int .i64 (x)), (.int .i64 (y))]), (.agg #[(.int .i64 (z)), (.int .i64 (u))]), (.func (Go.Fn.func 225) #[] #[])] (.tuple #[(.agg #[(.int .i64 (i0)), (.int .i64 (i1))]), (.int .i64 (i2))])) : Does Tryz.prog 168 [pt x y, pt z u] (.tuple #[(.agg #[(.int .i64 (i0)), (.int .i64 (i1))]), (.int .i64 (i2))]) :=
  does_path mixed (fn := Tryz.f168) rfl (by kernel_rfl) 400 [.u (.tuple #[(.agg #[(.int .i64 (i0)), (.int .i64 (i1))]), (.int .i64 (i2))])] (by kernel_rfl) (cj h0 cj0)
theorem rAdd_1 (x y z u : Int) (b0 : Bool) (h0 : Does Tryz.prog 75 [(.agg #[(.int .i64 (x)), (.int .i64 (y))])] (.bool (b0))) (h1 : (!b0) = true) : Does Tryz.prog 238 [pt x y, pt z u] (.tuple #[(.agg #[(.int .i64 (0)), (.int .i64 (0))]), (.int .i64 (1))]) :=
  does_path mixed (fn := Tryz.f238) rfl (by kernel_rfl) 400 [.u (.bool (b0)), .t, .t, .t, .t, .l] (by kernel_rfl) (cj h0 (cj h1 (cj h1 (cj h1 (cj h1 cj0)))))
theorem rAdd_2 (x y z u : Int) (b0 : Bool) (b1 : Bool) (h0 : Does Tryz.prog 75 [(.agg #[(.int .i64 (x)), (.int .i64 (y))])] (.bool (b0))) (h1 : (!b0) = false) (h2 : Does Tryz.prog 75 [(.agg #[(.int .i64 (z)), (.int .i64 (u))])] (.bool (b1))) (h3 : (!b1) = true) : Does Tryz.prog 238 [pt x y, pt z u] (.tuple #[(.agg #[(.int .i64 (0)), (.int .i64 (0))]), (.int .i64 (1))]) :=
  does_path mixed (fn := Tryz.f238) rfl (by kernel_rfl) 400 [.u (.bool (b0)), .f, .f, .u (.bool (b1)), .f, .f, .t] (by kernel_rfl) (cj h0 (cj h1 (cj h1 (cj h2 (cj h1 (cj h1 (cj h3 cj0)))))))
theorem rAdd_3 (x y z u : Int) (b0 : Bool) (b1 : Bool) (i2 : Int) (i3 : Int) (i4 : Int) (h0 : Does Tryz.prog 75 [(.agg #[(.int .i64 (x)), (.int .i64 (y))])] (.bool (b0))) (h1 : (!b0) = false) (h2 : Does Tryz.prog 75 [(.agg #[(.int .i64 (z)), (.int .i64 (u))])] (.bool (b1))) (h3 : (!b1) = false) (h4 : Does Tryz.prog 267 [(.agg #[(.int .i64 (IntKind.i64.wrap (x + z))), (.int .i64 (IntKind.i64.wrap (y + u)))])] (.tuple #[(.agg #[(.int .i64 (i2)), (.int .i64 (i3))]), (.int .i64 (i4))])) : Does Tryz.prog 238 [pt x y, pt z u] (.tuple #[(.agg #[(.int .i64 (i2)), (.int .i64 (i3))]), (.int .i64 (i4))]) :=
  does_path mixed (fn := Tryz.f238) rfl (by kernel_rfl) 400 [.u (.bool (b0)), .f, .f, .u (.bool (b1)), .f, .f, .f, .u (.tuple #[(.agg #[(.int .i64 (i2)), (.int .i64 (i3))]), (.int .i64 (i4))])] (by kernel_rfl) (cj h0 (cj h1 (cj h1 (cj h2 (cj h1 (cj h1 (cj h3 (cj h4 cj0))))))))
theorem rSub_1 (x y z u : Int) (b0 : Bool) (h0 : Does Tryz.prog 75 [(.agg #[(.int .i64 (x)), (.int .i64 (y))])] (.bool (b0))) (h1 : (!b0) = true) : Does Tryz.prog 239 [pt x y, pt z u] (.tuple #[(.agg #[(.int .i64 (0)), (.int .i64 (0))]), (.int .i64 (1))]) :=
  does_path mixed (fn := Tryz.f239) rfl (by kernel_rfl) 400 [.u (.bool (b0)), .t, .t, .t, .t, .l] (by kernel_rfl) (cj h0 (cj h1 (cj h1 (cj h1 (cj h1 cj0)))))
theorem rSub_2 (x y z u : Int) (b0 : Bool) (b1 : Bool) (h0 : Does Tryz.prog 75 [(.agg #[(.int .i64 (x)), (.int .i64 (y))])] (.bool (b0))) (h1 : (!b0) = false) (h2 : Does Tryz.prog 75 [(.agg #[(.int .i64 (z)), (.int .i64 (u))])] (.bool (b1))) (h3 : (!b1) = true) : Does Tryz.prog 239 [pt x y, pt z u] (.tuple #[(.agg #[(.int .i64 (0)), (.int .i64 (0))]), (.int .i64 (1))]) :=
  does_path mixed (fn := Tryz.f239) rfl (by kernel_rfl) 400 [.u (.bool (b0)), .f, .f, .u (.bool (b1)), .f, .f, .t] (by kernel_rfl) (cj h0 (cj h1 (cj h1 (cj h2 (cj h1 (cj h1 (cj h3 cj0)))))))
theorem rSub_3 (x y z u : Int) (b0 : Bool) (b1 : Bool) (i2 : Int) (i3 : Int) (i4 : Int) (h0 : Does Tryz.prog 75 [(.agg #[(.int .i64 (x)), (.int .i64 (y))])] (.bool (b0))) (h1 : (!b0) = false) (h2 : Does Tryz.prog 75 [(.agg #[(.int .i64 (z)), (.int .i64 (u))])] (.bool (b1))) (h3 : (!b1) = false) (h4 : Does Tryz.prog 267 [(.agg #[(.int .i64 (IntKind.i64.wrap (x - z))), (.int .i64 (IntKind.i64.wrap (y - u)))])] (.tuple #[(.agg #[(.int .i64 (i2)), (.int .i64 (i3))]), (.int .i64 (i4))])) : Does Tryz.prog 239 [pt x y, pt z u] (.tuple #[(.agg #[(.int .i64 (i2)), (.int .i64 (i3))]), (.int .i64 (i4))]) :=
  does_path mixed (fn := Tryz.f239) rfl (by kernel_rfl) 400 [.u (.bool (b0)), .f, .f, .u (.bool (b1)), .f, .f, .f, .u (.tuple #[(.agg #[(.int .i64 (i2)), (.int .i64 (i3))]), (.int .i64 (i4))])] (by kernel_rfl) (cj h0 (cj h1 (cj h1 (cj h2 (cj h1 (cj h1 (cj h3 (cj h4 cj0))))))))
theorem rMul_1 (x y z u : Int) (b0 : Bool) (h0 : Does Tryz.prog 75 [(.agg #[(.int .i64 (x)), (.int .i64 (y))])] (.bool (b0))) (h1 : (!b0) = true) : Does Tryz.prog 237 [pt x y, pt z u] (.tuple #[(.agg #[(.int .i64 (0)), (.int .i64 (0))]), (.int .i64 (1))]) :=
  does_path mixed (fn := Tryz.f237) rfl (by kernel_rfl) 400 [.u (.bool (b0)), .t, .t, .t, .t, .l] (by kernel_rfl) (cj h0 (cj h1 (cj h1 (cj h1 (cj h1 cj0)))))
theorem rMul_2 (x y z u : Int) (b0 : Bool) (b1 : Bool) (h0 : Does Tryz.prog 75 [(.agg #[(.int .i64 (x)), (.int .i64 (y))])] (.bool (b0))) (h1 : (!b0) = false) (h2 : Does Tryz.prog 75 [(.agg #[(.int .i64 (z)), (.int .i64 (u))])] (.bool (b1))) (h3 : (!b1) = true) : Does Tryz.prog 237 [pt x y, pt z u] (.tuple #[(.agg #[(.int .i64 (0)), (.int .i64 (0))]), (.int .i64 (1))]) :=
  does_path mixed (fn := Tryz.f237) rfl (by kernel_rfl) 400 [.u (.bool (b0)), .f, .f, .u (.bool (b1)), .f, .f, .t] (by kernel_rfl) (cj h0 (cj h1 (cj h1 (cj h2 (cj h1 (cj h1 (cj h3 cj0)))))))
theorem rMul_3 (x y z u : Int) (b0 : Bool) (b1 : Bool) (i2 : Int) (i3 : Int) (i4 : Int) (h0 : Does Tryz.prog 75 [(.agg #[(.int .i64 (x)), (.int .i64 (y))])] (.bool (b0))) (h1 : (!b0) = false) (h2 : Does Tryz.prog 75 [(.agg #[(.int .i64 (z)), (.int .i64 (u))])] (.bool (b1))) (h3 : (!b1) = false) (h4 : Does Tryz.prog 267 [(.agg #[(.int .i64 (IntKind.i64.wrap (IntKind.i64.wrap (x * z) - IntKind.i64.wrap (y * u)))), (.int .i64 (IntKind.i64.wrap (IntKind.i64.wrap (x * u) + IntKind.i64.wrap (y * z))))])] (.tuple #[(.agg #[(.int .i64 (i2)), (.int .i64 (i3))]), (.int .i64 (i4))])) : Does Tryz.prog 237 [pt x y, pt z u] (.tuple #[(.agg #[(.int .i64 (i2)), (.int .i64 (i3))]), (.int .i64 (i4))]) :=
  does_path mixed (fn := Tryz.f237) rfl (by kernel_rfl) 400 [.u (.bool (b0)), .f, .f, .u (.bool (b1)), .f, .f, .f, .u (.tuple #[(.agg #[(.int .i64 (i2)), (.int .i64 (i3))]), (.int .i64 (i4))])] (by kernel_rfl) (cj h0 (cj h1 (cj h1 (cj h2 (cj h1 (cj h1 (cj h3 (cj h4 cj0))))))))
theorem answer_1 (x y : Int) (b0 : Bool) (h0 : Does Tryz.prog 75 [(.agg #[(.int .i64 (x)), (.int .i64 (y))])] (.bool (b0))) (h1 : (!b0) = true) : Does Tryz.prog 267 [pt x y] (.tuple #[(.agg #[(.int .i64 (0)), (.int .i64 (0))]), (.int .i64 (32))]) :=
  does_path mixed (fn := Tryz.f267) rfl (by kernel_rfl) 400 [.u (.bool (b0)), .t] (by kernel_rfl) (cj h0 (cj h1 cj0))
theorem answer_2 (x y : Int) (b0 : Bool) (h0 : Does Tryz.prog 75 [(.agg #[(.int .i64 (x)), (.int .i64 (y))])] (.bool (b0))) (h1 : (!b0) = false) : Does Tryz.prog 267 [pt x y] (.tuple #[(.agg #[(.int .i64 (x)), (.int .i64 (y))]), (.int .i64 (0))]) :=
  does_path mixed (fn := Tryz.f267) rfl (by kernel_rfl) 400 [.u (.bool (b0)), .f] (by kernel_rfl) (cj h0 (cj h1 cj0))
theorem Norm_1 (x y : Int) (b0 : Bool) (h0 : Does Tryz.prog 126 [(.agg #[(.int .i64 (x)), (.int .i64 (y))])] (.bool (b0))) (h1 : (!b0) = true) : Does Tryz.prog 150 [pt x y] (.int .i64 (0)) :=
  does_path mixed (fn := Tryz.f150) rfl (by kernel_rfl) 400 [.u (.bool (b0)), .t] (by kernel_rfl) (cj h0 (cj h1 cj0))
theorem Norm_2 (x y : Int) (b0 : Bool) (n1 : Nat) (n2 : Nat) (n3 : Nat) (n4 : Nat) (n5 : Nat) (n6 : Nat) (n7 : Nat) (n8 : Nat) (i9 : Int) (h0 : Does Tryz.prog 126 [(.agg #[(.int .i64 (x)), (.int .i64 (y))])] (.bool (b0))) (h1 : (!b0) = false) (h2 : Does Tryz.prog 213 [(.agg #[(.int .i64 (x)), (.int .i64 (y))])] (.complex .f64 (n1) (n2))) (h3 : Does Tryz.prog 213 [(.agg #[(.int .i64 (x)), (.int .i64 (y))])] (.complex .f64 (n3) (n4))) (h4 : Does Tryz.prog 214 [(.complex .f64 (n3) (n4))] (.complex .f64 (n5) (n6))) (h5 : Does Tryz.prog 212 [(.complex .f64 (n1) (n2)), (.complex .f64 (n5) (n6))] (.complex .f64 (n7) (n8))) (h6 : Go.floatToIntVal .f64 n7 .i64 = some i9) : Does Tryz.prog 150 [pt x y] (.int .i64 (i9)) :=
  does_path mixed (fn := Tryz.f150) rfl (by kernel_rfl) 400 [.u (.bool (b0)), .f, .u (.complex .f64 (n1) (n2)), .u (.complex .f64 (n3) (n4)), .u (.complex .f64 (n5) (n6)), .u (.complex .f64 (n7) (n8)), .i i9] (by kernel_rfl) (cj h0 (cj h1 (cj h2 (cj h3 (cj h4 (cj h5 (cj h6 cj0)))))))
theorem rNorm_1 (x y : Int) (b0 : Bool) (h0 : Does Tryz.prog 75 [(.agg #[(.int .i64 (x)), (.int .i64 (y))])] (.bool (b0))) (h1 : (!b0) = true) : Does Tryz.prog 73 [pt x y] (.int .i64 (0)) :=
  does_path mixed (fn := Tryz.f73) rfl (by kernel_rfl) 400 [.u (.bool (b0)), .t] (by kernel_rfl) (cj h0 (cj h1 cj0))
theorem rNorm_2 (x y : Int) (b0 : Bool) (h0 : Does Tryz.prog 75 [(.agg #[(.int .i64 (x)), (.int .i64 (y))])] (.bool (b0))) (h1 : (!b0) = false) : Does Tryz.prog 73 [pt x y] (.int .i64 (IntKind.i64.wrap (IntKind.i64.wrap (x * x) + IntKind.i64.wrap (y * y)))) :=
  does_path mixed (fn := Tryz.f73) rfl (by kernel_rfl) 400 [.u (.bool (b0)), .f] (by kernel_rfl) (cj h0 (cj h1 cj0))
theorem Div_1 (x y z u : Int) (b0 : Bool) (h0 : Does Tryz.prog 126 [(.agg #[(.int .i64 (x)), (.int .i64 (y))])] (.bool (b0))) (h1 : (!b0) = true) : Does Tryz.prog 171 [pt x y, pt z u] (.tuple #[(.agg #[(.int .i64 (0)), (.int .i64 (0))]), (.agg #[(.int .i64 (0)), (.int .i64 (0))]), (.int .i64 (1))]) :=
  does_path mixed (fn := Tryz.f171) rfl (by kernel_rfl) 400 [.u (.bool (b0)), .t, .t, .t, .t, .l] (by kernel_rfl) (cj h0 (cj h1 (cj h1 (cj h1 (cj h1 cj0)))))
theorem Div_2 (x y z u : Int) (b0 : Bool) (b1 : Bool) (h0 : Does Tryz.prog 126 [(.agg #[(.int .i64 (x)), (.int .i64 (y))])] (.bool (b0))) (h1 : (!b0) = false) (h2 : Does Tryz.prog 126 [(.agg #[(.int .i64 (z)), (.int .i64 (u))])] (.bool (b1))) (h3 : (!b1) = true) : Does Tryz.prog 171 [pt x y, pt z u] (.tuple #[(.agg #[(.int .i64 (0)), (.int .i64 (0))]), (.agg #[(.int .i64 (0)), (.int .i64 (0))]), (.int .i64 (1))]) :=
  does_path mixed (fn := Tryz.f171) rfl (by kernel_rfl) 400 [.u (.bool (b0)), .f, .f, .u (.bool (b1)), .f, .f, .t] (by kernel_rfl) (cj h0 (cj h1 (cj h1 (cj h2 (cj h1 (cj h1 (cj h3 cj0)))))))
theorem Div_3 (x y z u : Int) (b0 : Bool) (b1 : Bool) (h0 : Does Tryz.prog 126 [(.agg #[(.int .i64 (x)), (.int .i64 (y))])] (.bool (b0))) (h1 : (!b0) = false) (h2 : Does Tryz.prog 126 [(.agg #[(.int .i64 (z)), (.int .i64 (u))])] (.bool (b1))) (h3 : (!b1) = false) (h4 : (z == 0 && (u == 0 && true)) = true) : Does Tryz.prog 171 [pt x y, pt z u] (.tuple #[(.agg #[(.int .i64 (0)), (.int .i64 (0))]), (.agg #[(.int .i64 (0)), (.int .i64 (0))]), (.int .i64 (33))]) :=
  does_path mixed (fn := Tryz.f171) rfl (by kernel_rfl) 400 [.u (.bool (b0)), .f, .f, .u (.bool (b1)), .f, .f, .f, .t] (by kernel_rfl) (cj h0 (cj h1 (cj h1 (cj h2 (cj h1 (cj h1 (cj h3 (cj h4 cj0))))))))
theorem Div_4 (x y z u : Int) (b0 : Bool) (b1 : Bool) (n2 : Nat) (n3 : Nat) (n4 : Nat) (n5 : Nat) (n6 : Nat) (n7 : Nat) (n8 : Nat) (n9 : Nat) (i10 : Int) (i11 : Int) (i12 : Int) (i13 : Int) (b14 : Bool) (h0 : Does Tryz.prog 126 [(.agg #[(.int .i64 (x)), (.int .i64 (y))])] (.bool (b0))) (h1 : (!b0) = false) (h2 : Does Tryz.prog 126 [(.agg #[(.int .i64 (z)), (.int .i64 (u))])] (.bool (b1))) (h3 : (!b1) = false) (h4 : (z == 0 && (u == 0 && true)) = false) (h5 : Does Tryz.prog 213 [(.agg #[(.int .i64 (x)), (.int .i64 (y))])] (.complex .f64 (n2) (n3))) (h6 : Does Tryz.prog 213 [(.agg #[(.int .i64 (z)), (.int .i64 (u))])] (.complex .f64 (n4) (n5))) (h7 : Does Tryz.prog 228 [(.complex .f64 (n2) (n3)), (.complex .f64 (n4) (n5))] (.tuple #[(.complex .f64 (n6) (n7)), (.complex .f64 (n8) (n9))])) (h8 : Does Tryz.prog 219 [(.complex .f64 (n6) (n7))] (.agg #[(.int .i64 (i10)), (.int .i64 (i11))])) (h9 : Does Tryz.prog 219 [(.complex .f64 (n8) (n9))] (.agg #[(.int .i64 (i12)), (.int .i64 (i13))])) (h10 : Does Tryz.prog 126 [(.agg #[(.int .i64 (i10)), (.int .i64 (i11))])] (.bool (b14))) (h11 : (!b14) = true) : Does Tryz.prog 171 [pt x y, pt z u] (.tuple #[(.agg #[(.int .i64 (0)), (.int .i64 (0))]), (.agg #[(.int .i64 (0)), (.int .i64 (0))]), (.int .i64 (32))]) :=
  does_path mixed (fn := Tryz.f171) rfl (by kernel_rfl) 400 [.u (.bool (b0)), .f, .f, .u (.bool (b1)), .f, .f, .f, .f, .u (.complex .f64 (n2) (n3)), .u (.complex .f64 (n4) (n5)), .u (.tuple #[(.complex .f64 (n6) (n7)), (.complex .f64 (n8) (n9))]), .u (.agg #[(.int .i64 (i10)), (.int .i64 (i11))]), .u (.agg #[(.int .i64 (i12)), (.int .i64 (i13))]), .u (.bool (b14)), .t, .t, .t, .t, .l] (by kernel_rfl) (cj h0 (cj h1 (cj h1 (cj h2 (cj h1 (cj h1 (cj h3 (cj h4 (cj h5 (cj h6 (cj h7 (cj h8 (cj h9 (cj h10 (cj h11 (cj h11 (cj h11 (cj h11 cj0))))))))))))))))))
theorem Div_5 (x y z u : Int) (b0 : Bool) (b1 : Bool) (n2 : Nat) (n3 : Nat) (n4 : Nat) (n5 : Nat) (n6 : Nat) (n7 : Nat) (n8 : Nat) (n9 : Nat) (i10 : Int) (i11 : Int) (i12 : Int) (i13 : Int) (b14 : Bool) (b15 : Bool) (h0 : Does Tryz.prog 126 [(.agg #[(.int .i64 (x)), (.int .i64 (y))])] (.bool (b0))) (h1 : (!b0) = false) (h2 : Does Tryz.prog 126 [(.agg #[(.int .i64 (z)), (.int .i64 (u))])] (.bool (b1))) (h3 : (!b1) = false) (h4 : (z == 0 && (u == 0 && true)) = false) (h5 : Does Tryz.prog 213 [(.agg #[(.int .i64 (x)), (.int .i64 (y))])] (.complex .f64 (n2) (n3))) (h6 : Does Tryz.prog 213 [(.agg #[(.int .i64 (z)), (.int .i64 (u))])] (.complex .f64 (n4) (n5))) (h7 : Does Tryz.prog 228 [(.complex .f64 (n2) (n3)), (.complex .f64 (n4) (n5))] (.tuple #[(.complex .f64 (n6) (n7)), (.complex .f64 (n8) (n9))])) (h8 : Does Tryz.prog 219 [(.complex .f64 (n6) (n7))] (.agg #[(.int .i64 (i10)), (.int .i64 (i11))])) (h9 : Does Tryz.prog 219 [(.complex .f64 (n8) (n9))] (.agg #[(.int .i64 (i12)), (.int .i64 (i13))])) (h10 : Does Tryz.prog 126 [(.agg #[(.int .i64 (i10)), (.int .i64 (i11))])] (.bool (b14))) (h11 : (!b14) = false) (h12 : Does Tryz.prog 126 [(.agg #[(.int .i64 (i12)), (.int .i64 (i13))])] (.bool (b15))) (h13 : (!b15) = true) : Does Tryz.prog 171 [pt x y, pt z u] (.tuple #[(.agg #[(.int .i64 (0)), (.int .i64 (0))]), (.agg #[(.int .i64 (0)), (.int .i64 (0))]), (.int .i64 (32))]) :=
  does_path mixed (fn := Tryz.f171) rfl (by kernel_rfl) 400 [.u (.bool (b0)), .f, .f, .u (.bool (b1)), .f, .f, .f, .f, .u (.complex .f64 (n2) (n3)), .u (.complex .f64 (n4) (n5)), .u (.tuple #[(.complex .f64 (n6) (n7)), (.complex .f64 (n8) (n9))]), .u (.agg #[(.int .i64 (i10)), (.int .i64 (i11))]), .u (.agg #[(.int .i64 (i12)), (.int .i64 (i13))]), .u (.bool (b14)), .f, .f, .u (.bool (b15)), .f, .f, .t] (by kernel_rfl) (cj h0 (cj h1 (cj h1 (cj h2 (cj h1 (cj h1 (cj h3 (cj h4 (cj h5 (cj h6 (cj h7 (cj h8 (cj h9 (cj h10 (cj h11 (cj h11 (cj h12 (cj h11 (cj h11 (cj h13 cj0))))))))))))))))))))
theorem Div_6 (x y z u : Int) (b0 : Bool) (b1 : Bool) (n2 : Nat) (n3 : Nat) (n4 : Nat) (n5 : Nat) (n6 : Nat) (n7 : Nat) (n8 : Nat) (n9 : Nat) (i10 : Int) (i11 : Int) (i12 : Int) (i13 : Int) (b14 : Bool) (b15 : Bool) (h0 : Does Tryz.prog 126 [(.agg #[(.int .i64 (x)), (.int .i64 (y))])] (.bool (b0))) (h1 : (!b0) = false) (h2 : Does Tryz.prog 126 [(.agg #[(.int .i64 (z)), (.int .i64 (u))])] (.bool (b1))) (h3 : (!b1) = false) (h4 : (z == 0 && (u == 0 && true)) = false) (h5 : Does Tryz.prog 213 [(.agg #[(.int .i64 (x)), (.int .i64 (y))])] (.complex .f64 (n2) (n3))) (h6 : Does Tryz.prog 213 [(.agg #[(.int .i64 (z)), (.int .i64 (u))])] (.complex .f64 (n4) (n5))) (h7 : Does Tryz.prog 228 [(.complex .f64 (n2) (n3)), (.complex .f64 (n4) (n5))] (.tuple #[(.complex .f64 (n6) (n7)), (.complex .f64 (n8) (n9))])) (h8 : Does Tryz.prog 219 [(.complex .f64 (n6) (n7))] (.agg #[(.int .i64 (i10)), (.int .i64 (i11))])) (h9 : Does Tryz.prog 219 [(.complex .f64 (n8) (n9))] (.agg #[(.int .i64 (i12)), (.int .i64 (i13))])) (h10 : Does Tryz.prog 126 [(.agg #[(.int .i64 (i10)), (.int .i64 (i11))])] (.bool (b14))) (h11 : (!b14) = false) (h12 : Does Tryz.prog 126 [(.agg #[(.int .i64 (i12)), (.int .i64 (i13))])] (.bool (b15))) (h13 : (!b15) = false) : Does Tryz.prog 171 [pt x y, pt z u] (.tuple #[(.agg #[(.int .i64 (i10)), (.int .i64 (i11))]), (.agg #[(.int .i64 (i12)), (.int .i64 (i13))]), (.int .i64 (0))]) :=
  does_path mixed (fn := Tryz.f171) rfl (by kernel_rfl) 400 [.u (.bool (b0)), .f, .f, .u (.bool (b1)), .f, .f, .f, .f, .u (.complex .f64 (n2) (n3)), .u (.complex .f64 (n4) (n5)), .u (.tuple #[(.complex .f64 (n6) (n7)), (.complex .f64 (n8) (n9))]), .u (.agg #[(.int .i64 (i10)), (.int .i64 (i11))]), .u (.agg #[(.int .i64 (i12)), (.int .i64 (i13))]), .u (.bool (b14)), .f, .f, .u (.bool (b15)), .f, .f, .f] (by kernel_rfl) (cj h0 (cj h1 (cj h1 (cj h2 (cj h1 (cj h1 (cj h3 (cj h4 (cj h5 (cj h6 (cj h7 (cj h8 (cj h9 (cj h10 (cj h11 (cj h11 (cj h12 (cj h11 (cj h11 (cj h13 cj0))))))))))))))))))))
theorem rDiv_1 (x y z u : Int) (b0 : Bool) (h0 : Does Tryz.prog 75 [(.agg #[(.int .i64 (x)), (.int .i64 (y))])] (.bool (b0))) (h1 : (!b0) = true) : Does Tryz.prog 240 [pt x y, pt z u] (.tuple #[(.agg #[(.int .i64 (0)), (.int .i64 (0))]), (.agg #[(.int .i64 (0)), (.int .i64 (0))]), (.int .i64 (1))]) :=
  does_path mixed (fn := Tryz.f240) rfl (by kernel_rfl) 400 [.u (.bool (b0)), .t, .t, .t, .t, .l] (by kernel_rfl) (cj h0 (cj h1 (cj h1 (cj h1 (cj h1 cj0)))))
theorem rDiv_2 (x y z u : Int) (b0 : Bool) (b1 : Bool) (h0 : Does Tryz.prog 75 [(.agg #[(.int .i64 (x)), (.int .i64 (y))])] (.bool (b0))) (h1 : (!b0) = false) (h2 : Does Tryz.prog 75 [(.agg #[(.int .i64 (z)), (.int .i64 (u))])] (.bool (b1))) (h3 : (!b1) = true) : Does Tryz.prog 240 [pt x y, pt z u] (.tuple #[(.agg #[(.int .i64 (0)), (.int .i64 (0))]), (.agg #[(.int .i64 (0)), (.int .i64 (0))]), (.int .i64 (1))]) :=
  does_path mixed (fn := Tryz.f240) rfl (by kernel_rfl) 400 [.u (.bool (b0)), .f, .f, .u (.bool (b1)), .f, .f, .t] (by kernel_rfl) (cj h0 (cj h1 (cj h1 (cj h2 (cj h1 (cj h1 (cj h3 cj0)))))))
theorem rDiv_3 (x y z u : Int) (b0 : Bool) (b1 : Bool) (i2 : Int) (h0 : Does Tryz.prog 75 [(.agg #[(.int .i64 (x)), (.int .i64 (y))])] (.bool (b0))) (h1 : (!b0) = false) (h2 : Does Tryz.prog 75 [(.agg #[(.int .i64 (z)), (.int .i64 (u))])] (.bool (b1))) (h3 : (!b1) = false) (h4 : Does Tryz.prog 73 [(.agg #[(.int .i64 (z)), (.int .i64 (u))])] (.int .i64 (i2))) (h5 : (i2 == 0) = true) : Does Tryz.prog 240 [pt x y, pt z u] (.tuple #[(.agg #[(.int .i64 (0)), (.int .i64 (0))]), (.agg #[(.int .i64 (0)), (.int .i64 (0))]), (.int .i64 (33))]) :=
  does_path mixed (fn := Tryz.f240) rfl (by kernel_rfl) 400 [.u (.bool (b0)), .f, .f, .u (.bool (b1)), .f, .f, .f, .u (.int .i64 (i2)), .t] (by kernel_rfl) (cj h0 (cj h1 (cj h1 (cj h2 (cj h1 (cj h1 (cj h3 (cj h4 (cj h5 cj0)))))))))
theorem rDiv_4 (x y z u : Int) (b0 : Bool) (b1 : Bool) (i2 : Int) (i3 : Int) (i4 : Int) (i5 : Int) (i6 : Int) (b7 : Bool) (h0 : Does Tryz.prog 75 [(.agg #[(.int .i64 (x)), (.int .i64 (y))])] (.bool (b0))) (h1 : (!b0) = false) (h2 : Does Tryz.prog 75 [(.agg #[(.int .i64 (z)), (.int .i64 (u))])] (.bool (b1))) (h3 : (!b1) = false) (h4 : Does Tryz.prog 73 [(.agg #[(.int .i64 (z)), (.int .i64 (u))])] (.int .i64 (i2))) (h5 : (i2 == 0) = false) (h6 : Does Tryz.prog 268 [(.agg #[(.int .i64 (x)), (.int .i64 (y))]), (.agg #[(.int .i64 (z)), (.int .i64 (u))])] (.tuple #[(.agg #[(.int .i64 (i3)), (.int .i64 (i4))]), (.agg #[(.int .i64 (i5)), (.int .i64 (i6))])])) (h7 : Does Tryz.prog 75 [(.agg #[(.int .i64 (i3)), (.int .i64 (i4))])] (.bool (b7))) (h8 : (!b7) = true) : Does Tryz.prog 240 [pt x y, pt z u] (.tuple #[(.agg #[(.int .i64 (0)), (.int .i64 (0))]), (.agg #[(.int .i64 (0)), (.int .i64 (0))]), (.int .i64 (32))]) :=
  does_path mixed (fn := Tryz.f240) rfl (by kernel_rfl) 400 [.u (.bool (b0)), .f, .f, .u (.bool (b1)), .f, .f, .f, .u (.int .i64 (i2)), .f, .u (.tuple #[(.agg #[(.int .i64 (i3)), (.int .i64 (i4))]), (.agg #[(.int .i64 (i5)), (.int .i64 (i6))])]), .u (.bool (b7)), .t, .t, .t, .t, .l] (by kernel_rfl) (cj h0 (cj h1 (cj h1 (cj h2 (cj h1 (cj h1 (cj h3 (cj h4 (cj h5 (cj h6 (cj h7 (cj h8 (cj h8 (cj h8 (cj h8 cj0)))))))))))))))
theorem rDiv_5 (x y z u : Int) (b0 : Bool) (b1 : Bool) (i2 : Int) (i3 : Int) (i4 : Int) (i5 : Int) (i6 : Int) (b7 : Bool) (b8 : Bool) (h0 : Does Tryz.prog 75 [(.agg #[(.int .i64 (x)), (.int .i64 (y))])] (.bool (b0))) (h1 : (!b0) = false) (h2 : Does Tryz.prog 75 [(.agg #[(.int .i64 (z)), (.int .i64 (u))])] (.bool (b1))) (h3 : (!b1) = false) (h4 : Does Tryz.prog 73 [(.agg #[(.int .i64 (z)), (.int .i64 (u))])] (.int .i64 (i2))) (h5 : (i2 == 0) = false) (h6 : Does Tryz.prog 268 [(.agg #[(.int .i64 (x)), (.int .i64 (y))]), (.agg #[(.int .i64 (z)), (.int .i64 (u))])] (.tuple #[(.agg #[(.int .i64 (i3)), (.int .i64 (i4))]), (.agg #[(.int .i64 (i5)), (.int .i64 (i6))])])) (h7 : Does Tryz.prog 75 [(.agg #[(.int .i64 (i3)), (.int .i64 (i4))])] (.bool (b7))) (h8 : (!b7) = false) (h9 : Does Tryz.prog 75 [(.agg #[(.int .i64 (i5)), (.int .i64 (i6))])] (.bool (b8))) (h10 : (!b8) = true) : Does Tryz.prog 240 [pt x y, pt z u] (.tuple #[(.agg #[(.int .i64 (0)), (.int .i64 (0))]), (.agg #[(.int .i64 (0)), (.int .i64 (0))]), (.int .i64 (32))]) :=
  does_path mixed (fn := Tryz.f240) rfl (by kernel_rfl) 400 [.u (.bool (b0)), .f, .f, .u (.bool (b1)), .f, .f, .f, .u (.int .i64 (i2)), .f, .u (.tuple #[(.agg #[(.int .i64 (i3)), (.int .i64 (i4))]), (.agg #[(.int .i64 (i5)), (.int .i64 (i6))])]), .u (.bool (b7)), .f, .f, .u (.bool (b8)), .f, .f, .t] (by kernel_rfl) (cj h0 (cj h1 (cj h1 (cj h2 (cj h1 (cj h1 (cj h3 (cj h4 (cj h5 (cj h6 (cj h7 (cj h8 (cj h8 (cj h9 (cj h8 (cj h8 (cj h10 cj0)))))))))))))))))
theorem rDiv_6 (x y z u : Int) (b0 : Bool) (b1 : Bool) (i2 : Int) (i3 : Int) (i4 : Int) (i5 : Int) (i6 : Int) (b7 : Bool) (b8 : Bool) (h0 : Does Tryz.prog 75 [(.agg #[(.int .i64 (x)), (.int .i64 (y))])] (.bool (b0))) (h1 : (!b0) = false) (h2 : Does Tryz.prog 75 [(.agg #[(.int .i64 (z)), (.int .i64 (u))])] (.bool (b1))) (h3 : (!b1) = false) (h4 : Does Tryz.prog 73 [(.agg #[(.int .i64 (z)), (.int .i64 (u))])] (.int .i64 (i2))) (h5 : (i2 == 0) = false) (h6 : Does Tryz.prog 268 [(.agg #[(.int .i64 (x)), (.int .i64 (y))]), (.agg #[(.int .i64 (z)), (.int .i64 (u))])] (.tuple #[(.agg #[(.int .i64 (i3)), (.int .i64 (i4))]), (.agg #[(.int .i64 (i5)), (.int .i64 (i6))])])) (h7 : Does Tryz.prog 75 [(.agg #[(.int .i64 (i3)), (.int .i64 (i4))])] (.bool (b7))) (h8 : (!b7) = false) (h9 : Does Tryz.prog 75 [(.agg #[(.int .i64 (i5)), (.int .i64 (i6))])] (.bool (b8))) (h10 : (!b8) = false) : Does Tryz.prog 240 [pt x y, pt z u] (.tuple #[(.agg #[(.int .i64 (i3)), (.int .i64 (i4))]), (.agg #[(.int .i64 (i5)), (.int .i64 (i6))]), (.int .i64 (0))]) :=
  does_path mixed (fn := Tryz.f240) rfl (by kernel_rfl) 400 [.u (.bool (b0)), .f, .f, .u (.bool (b1)), .f, .f, .f, .u (.int .i64 (i2)), .f, .u (.tuple #[(.agg #[(.int .i64 (i3)), (.int .i64 (i4))]), (.agg #[(.int .i64 (i5)), (.int .i64 (i6))])]), .u (.bool (b7)), .f, .f, .u (.bool (b8)), .f, .f, .f] (by kernel_rfl) (cj h0 (cj h1 (cj h1 (cj h2 (cj h1 (cj h1 (cj h3 (cj h4 (cj h5 (cj h6 (cj h7 (cj h8 (cj h8 (cj h9 (cj h8 (cj h8 (cj h10 cj0)))))))))))))))))
theorem parts_1 (k l m n : Nat) (n0 : Nat) (n1 : Nat) (n2 : Nat) (n3 : Nat) (n4 : Nat) (n5 : Nat) (n6 : Nat) (n7 : Nat) (n8 : Nat) (n9 : Nat) (n10 : Nat) (n11 : Nat) (n12 : Nat) (n13 : Nat) (h0 : Does Tryz.prog 214 [(.complex .f64 (m) (n))] (.complex .f64 (n0) (n1))) (h1 : Does Tryz.prog 212 [(.complex .f64 (m) (n)), (.complex .f64 (n0) (n1))] (.complex .f64 (n2) (n3))) (h2 : Does Tryz.prog 214 [(.complex .f64 (m) (n))] (.complex .f64 (n4) (n5))) (h3 : Does Tryz.prog 212 [(.complex .f64 (k) (l)), (.complex .f64 (n4) (n5))] (.complex .f64 (n6) (n7))) (h4 : Does Tryz.prog 265 [(.float .f64 (n6)), (.float .f64 (n2))] (.float .f64 (n8))) (h5 : Does Tryz.prog 265 [(.float .f64 (n7)), (.float .f64 (n2))] (.float .f64 (n9))) (h6 : Does Tryz.prog 212 [(.complex .f64 (m) (n)), (.complex .f64 (n8) (n9))] (.complex .f64 (n10) (n11))) (h7 : Go.cSumBits Go.BinOp.sub .f64 k l n10 n11 = some (n12, n13)) : Does Tryz.prog 228 [cx k l, cx m n] (.tuple #[(.complex .f64 (n8) (n9)), (.complex .f64 (n12) (n13))]) :=
  does_path mixed (fn := Tryz.f228) rfl (by kernel_rfl) 400 [.u (.complex .f64 (n0) (n1)), .u (.complex .f64 (n2) (n3)), .u (.complex .f64 (n4) (n5)), .u (.complex .f64 (n6) (n7)), .u (.float .f64 (n8)), .u (.float .f64 (n9)), .u (.complex .f64 (n10) (n11)), .n n12, .n n13] (by kernel_rfl) (cj h0 (cj h1 (cj h2 (cj h3 (cj h4 (cj h5 (cj h6 (cj h7 cj0))))))))
theorem rparts_1 (x y z u : Int) (i0 : Int) (i1 : Int) (i2 : Int) (h0 : Does Tryz.prog 73 [(.agg #[(.int .i64 (z)), (.int .i64 (u))])] (.int .i64 (i0))) (h1 : Does Tryz.prog 300 [(.int .i64 (IntKind.i64.wrap (IntKind.i64.wrap (x * z) + IntKind.i64.wrap (y * u)))), (.int .i64 (i0))] (.int .i64 (i1))) (h2 : Does Tryz.prog 300 [(.int .i64 (IntKind.i64.wrap (IntKind.i64.wrap (y * z) - IntKind.i64.wrap (x * u)))), (.int .i64 (i0))] (.int .i64 (i2))) : Does Tryz.prog 268 [pt x y, pt z u] (.tuple #[(.agg #[(.int .i64 (i1)), (.int .i64 (i2))]), (.agg #[(.int .i64 (IntKind.i64.wrap (x - IntKind.i64.wrap (IntKind.i64.wrap (z * i1) - IntKind.i64.wrap (u * i2))))), (.int .i64 (IntKind.i64.wrap (y - IntKind.i64.wrap (IntKind.i64.wrap (z * i2) + IntKind.i64.wrap (u * i1)))))])]) :=
  does_path mixed (fn := Tryz.f268) rfl (by kernel_rfl) 400 [.u (.int .i64 (i0)), .u (.int .i64 (i1)), .u (.int .i64 (i2))] (by kernel_rfl) (cj h0 (cj h1 (cj h2 cj0)))
theorem rnearest_1 (x y : Int) (h0 : (IntKind.i64.wrap (2 * y) == 0) = false) (h1 : decide ((IntKind.i64.wrap (IntKind.i64.wrap (2 * x) + y)).tmod (IntKind.i64.wrap (2 * y)) < 0) = true) : Does Tryz.prog 300 [it x, it y] (.int .i64 (IntKind.i64.wrap (IntKind.i64.wrap ((IntKind.i64.wrap (IntKind.i64.wrap (2 * x) + y)).tdiv (IntKind.i64.wrap (2 * y))) - 1))) :=
  does_path mixed (fn := Tryz.f300) rfl (by kernel_rfl) 400 [.f, .f, .t] (by kernel_rfl) (cj h0 (cj h0 (cj h1 cj0)))
theorem rnearest_2 (x y : Int) (h0 : (IntKind.i64.wrap (2 * y) == 0) = false) (h1 : decide ((IntKind.i64.wrap (IntKind.i64.wrap (2 * x) + y)).tmod (IntKind.i64.wrap (2 * y)) < 0) = false) : Does Tryz.prog 300 [it x, it y] (.int .i64 (IntKind.i64.wrap ((IntKind.i64.wrap (IntKind.i64.wrap (2 * x) + y)).tdiv (IntKind.i64.wrap (2 * y))))) :=
  does_path mixed (fn := Tryz.f300) rfl (by kernel_rfl) 400 [.f, .f, .f] (by kernel_rfl) (cj h0 (cj h0 (cj h1 cj0)))
theorem Floor_1 (k : Nat) (n0 : Nat) (h0 : Does Tryz.prog 324 [(.float .f64 (k))] (.float .f64 (n0))) : Does Tryz.prog 298 [fl k] (.float .f64 (n0)) :=
  does_path mixed (fn := Tryz.f298) rfl (by kernel_rfl) 400 [.l, .u (.float .f64 (n0))] (by kernel_rfl) (cj h0 cj0)
end Go.Proofs.YtnchjdhepakokaaGreatDoorGG
/- Whole numbers of at most 2^53 as binary floating point: sums, differences and products that stay below that are exact. Plain facts on the model's floats: no program in sight. -/
namespace Go.Fl
open Ieee

theorem signW : double.signWeight = 9223372036854775808 := by rfl
theorem bin : double.binade = 4503599627370496 := by rfl
theorem infR : double.infRung = 9218868437227405312 := by rfl
theorem least : double.leastPlace = -1074 := by rfl

theorem pow_pos (k : Nat) : 0 < 2 ^ k := Nat.two_pow_pos k

/-- 'cut' to the nearest, where nothing is lost. -/
theorem cut_exact (neg : Bool) (k d : Nat) (hk : 0 < k) : Toward.even.cut neg (k * 2 ^ d) d = k := by
  have hd : d ≤ (k * 2 ^ d).log2 + 2 := by
    have h1 : 2 ^ d ≤ k * 2 ^ d := Nat.le_mul_of_pos_left _ hk
    have h2 : k * 2 ^ d < 2 ^ ((k * 2 ^ d).log2 + 1) := Nat.lt_log2_self
    have := (Nat.pow_lt_pow_iff_right (a := 2) (by omega)).1 (Nat.lt_of_le_of_lt h1 h2)
    omega
  unfold Toward.cut
  simp only [Nat.min_eq_left hd, Nat.one_shiftLeft, Nat.mul_div_cancel _ (pow_pos d), Nat.mul_mod_left]
  have hp := pow_pos d
  have h3 : ¬ 2 ^ d < 2 * 0 := by omega
  have h4 : (2 ^ d == 2 * 0) = false := by
    rw [beq_eq_false_iff_ne]
    omega
  simp [h4]

theorem read_word (neg : Bool) (q kept : Nat) (hq : q ≤ 53) (h1 : 4503599627370496 ≤ kept) (h2 : kept < 9007199254740992) :
    double.read (double.word neg (min ((q + 1022) * double.binade + kept) double.infRung)) = .number neg kept ((q : Int) - 52) := by
  have hm : min ((q + 1022) * double.binade + kept) double.infRung = (q + 1022) * 4503599627370496 + kept := by
    rw [bin, infR]
    omega
  rw [hm]
  have hdiv : ((q + 1022) * 4503599627370496 + kept) / 4503599627370496 = q + 1023 := by omega
  have hmod : ((q + 1022) * 4503599627370496 + kept) % 4503599627370496 = kept - 4503599627370496 := by omega
  unfold Format.read Format.word
  simp only [signW, bin, infR, least]
  cases neg
  · have a1 : (((q + 1022) * 4503599627370496 + kept) / 9223372036854775808 % 2 == 1) = false := by
      rw [beq_eq_false_iff_ne]
      omega
    have a2 : ((q + 1022) * 4503599627370496 + kept) % 9223372036854775808 = (q + 1022) * 4503599627370496 + kept := by omega
    simp only [Bool.false_eq_true, if_false, a1, a2, hdiv, hmod]
    rw [if_neg (by omega), if_pos (by omega)]
    rw [show 4503599627370496 + (kept - 4503599627370496) = kept by omega, show (-1074 : Int) + ((q + 1023 - 1 : Nat) : Int) = (q : Int) - 52 by omega]
  · have a1 : ((9223372036854775808 + ((q + 1022) * 4503599627370496 + kept)) / 9223372036854775808 % 2 == 1) = true := by
      rw [beq_iff_eq]
      omega
    have a2 : (9223372036854775808 + ((q + 1022) * 4503599627370496 + kept)) % 9223372036854775808 = (q + 1022) * 4503599627370496 + kept := by
      rw [Nat.add_mod_left]
      exact Nat.mod_eq_of_lt (by omega)
    simp only [if_true, a1, a2, hdiv, hmod]
    rw [if_neg (by omega), if_pos (by omega)]
    rw [show 4503599627370496 + (kept - 4503599627370496) = kept by omega, show (-1074 : Int) + ((q + 1023 - 1 : Nat) : Int) = (q : Int) - 52 by omega]

theorem read_zero (neg : Bool) : double.read (double.word neg 0) = .number neg 0 (-1074) := by
  cases neg <;> rfl

/-- A number that is whole and at most 2^53 is written as it is. -/
theorem read_nearest (neg : Bool) (mag : Nat) (place : Int) (N K : Nat) (hN : 0 < N) (hN2 : N ≤ 2 ^ 53) (hp : -(K : Int) ≤ place)
    (hv : mag * 2 ^ (place + K).toNat = N * 2 ^ K) :
    ∃ m e, double.read (double.nearest neg mag place) = .number neg m e ∧ 0 < m ∧ m < 2 ^ 53 ∧ -52 ≤ e ∧ e ≤ 1 ∧ m * 2 ^ (e + 52).toNat = N * 2 ^ 52 := by
  obtain ⟨p, hpp⟩ : ∃ p : Nat, p = (place + K).toNat := ⟨_, rfl⟩
  rw [← hpp] at hv
  have hpl : place = (p : Int) - K := by omega
  have hmag : 0 < mag := by
    rcases Nat.eq_zero_or_pos mag with h | h
    · subst h
      have := Nat.mul_pos hN (pow_pos K)
      omega
    · exact h
  obtain ⟨L, hL⟩ : ∃ L, L = mag.log2 := ⟨_, rfl⟩
  have l1 : 2 ^ L ≤ mag := by rw [hL]; exact Nat.log2_self_le (by omega)
  have l2 : mag < 2 ^ (L + 1) := by rw [hL]; exact Nat.lt_log2_self
  have b1 : L + p ≤ 53 + K := by
    have h1 : 2 ^ (L + p) ≤ 2 ^ (53 + K) := by
      rw [Nat.pow_add, Nat.pow_add]
      calc 2 ^ L * 2 ^ p ≤ mag * 2 ^ p := Nat.mul_le_mul_right _ l1
        _ = N * 2 ^ K := hv
        _ ≤ 2 ^ 53 * 2 ^ K := Nat.mul_le_mul_right _ hN2
    exact (Nat.pow_le_pow_iff_right (a := 2) (by omega)).1 h1
  have b2 : K ≤ L + p := by
    have h1 : 2 ^ K < 2 ^ (L + 1 + p) := by
      rw [Nat.pow_add]
      calc 2 ^ K ≤ N * 2 ^ K := Nat.le_mul_of_pos_left _ hN
        _ = mag * 2 ^ p := hv.symm
        _ < 2 ^ (L + 1) * 2 ^ p := Nat.mul_lt_mul_of_pos_right l2 (pow_pos p)
    have := (Nat.pow_lt_pow_iff_right (a := 2) (by omega)).1 h1
    omega
  obtain ⟨q, hq⟩ : ∃ q, q + K = L + p := ⟨L + p - K, by omega⟩
  have hlast : max (place + (L : Int) - 52) (-1074) = (q : Int) - 52 := by omega
  -- what is kept
  have hkept : ∃ kept, Toward.even.cut neg (mag <<< (52 - L)) (L - 52) = kept ∧ 2 ^ 52 ≤ kept ∧ kept < 2 ^ 53 ∧ kept * 2 ^ q = N * 2 ^ 52 := by
    have cancel : ∀ kept, kept * 2 ^ q * 2 ^ K = N * 2 ^ 52 * 2 ^ K → kept * 2 ^ q = N * 2 ^ 52 := fun kept h => Nat.eq_of_mul_eq_mul_right (pow_pos K) h
    by_cases hc : L ≤ 52
    · refine ⟨mag * 2 ^ (52 - L), ?_, ?_, ?_, ?_⟩
      · have h0 : L - 52 = 0 := by omega
        rw [h0, Nat.shiftLeft_eq]
        have := cut_exact neg (mag * 2 ^ (52 - L)) 0 (Nat.mul_pos hmag (pow_pos _))
        simpa using this
      · have : 2 ^ 52 = 2 ^ L * 2 ^ (52 - L) := by rw [← Nat.pow_add]; congr 1; omega
        rw [this]
        exact Nat.mul_le_mul_right _ l1
      · have : 2 ^ 53 = 2 ^ (L + 1) * 2 ^ (52 - L) := by rw [← Nat.pow_add]; congr 1; omega
        rw [this]
        exact Nat.mul_lt_mul_of_pos_right l2 (pow_pos _)
      · apply cancel
        rw [Nat.mul_assoc, Nat.mul_assoc, ← Nat.pow_add, ← Nat.pow_add, show 52 - L + (q + K) = p + 52 by omega, Nat.pow_add, ← Nat.mul_assoc, hv]
        rw [Nat.mul_assoc, Nat.mul_assoc, Nat.mul_comm (2 ^ K)]
    · have hdvd : ∃ kept, mag = kept * 2 ^ (L - 52) := by
        by_cases hd : L - 52 + p ≤ K
        · refine ⟨N * 2 ^ (K - p - (L - 52)), ?_⟩
          apply Nat.eq_of_mul_eq_mul_right (pow_pos p)
          rw [hv, Nat.mul_assoc, Nat.mul_assoc, ← Nat.pow_add, ← Nat.pow_add]
          congr 2
          omega
        · have hN3 : N = 2 ^ 53 := by
            have h1 : 2 ^ 53 * 2 ^ K ≤ N * 2 ^ K := by
              rw [← hv, ← Nat.pow_add, show 53 + K = L + p by omega, Nat.pow_add]
              exact Nat.mul_le_mul_right _ l1
            have := Nat.le_of_mul_le_mul_right h1 (pow_pos K)
            omega
          refine ⟨2 ^ 52, ?_⟩
          apply Nat.eq_of_mul_eq_mul_right (pow_pos p)
          rw [hv, hN3, ← Nat.pow_add, ← Nat.pow_add, ← Nat.pow_add]
          congr 1
          omega
      obtain ⟨kept, hk⟩ := hdvd
      have hkp : 0 < kept := by
        rcases Nat.eq_zero_or_pos kept with h | h
        · subst h
          omega
        · exact h
      refine ⟨kept, ?_, ?_, ?_, ?_⟩
      · have h0 : 52 - L = 0 := by omega
        rw [h0, Nat.shiftLeft_zero, hk]
        exact cut_exact neg kept (L - 52) hkp
      · have : 2 ^ 52 * 2 ^ (L - 52) ≤ kept * 2 ^ (L - 52) := by
          rw [← hk, ← Nat.pow_add, show 52 + (L - 52) = L by omega]
          exact l1
        exact Nat.le_of_mul_le_mul_right this (pow_pos _)
      · have : kept * 2 ^ (L - 52) < 2 ^ 53 * 2 ^ (L - 52) := by
          rw [← hk, ← Nat.pow_add, show 53 + (L - 52) = L + 1 by omega]
          exact l2
        exact Nat.lt_of_mul_lt_mul_right this
      · apply cancel
        rw [Nat.mul_assoc, ← Nat.pow_add, show q + K = (L - 52) + (p + 52) by omega, Nat.pow_add, ← Nat.mul_assoc, ← hk, Nat.pow_add, ← Nat.mul_assoc, hv]
        rw [Nat.mul_assoc, Nat.mul_assoc, Nat.mul_comm (2 ^ K)]
  obtain ⟨kept, hcut, k1, k2, k3⟩ := hkept
  refine ⟨kept, (q : Int) - 52, ?_, by omega, k2, by omega, by omega, ?_⟩
  · have hfb : double.fractionBits = 52 := rfl
    unfold Format.nearest
    rw [if_neg (by omega)]
    simp only [hfb, least, ← hL]
    have e52 : ((52 : Nat) : Int) = 52 := rfl
    rw [e52, hlast]
    have e1 : (place - ((q : Int) - 52)).toNat = 52 - L := by omega
    have e2 : ((q : Int) - 52 - place).toNat = L - 52 := by omega
    have e3 : ((q : Int) - 52 - (-1074)).toNat = q + 1022 := by omega
    rw [e1, e2, e3, hcut]
    exact read_word neg q kept (by omega) (Nat.le_trans (by decide) k1) (Nat.lt_of_lt_of_le k2 (by decide))
  · have : ((q : Int) - 52 + 52).toNat = q := by omega
    rw [this, k3]

/-- The bits x stand for the whole number n, of at most 2^53. -/
def Core (s : Bool) (m : Nat) (e n : Int) : Prop :=
  (m = 0 ∧ n = 0 ∧ e = -1074) ∨ (0 < m ∧ m < 2 ^ 53 ∧ -52 ≤ e ∧ e ≤ 1 ∧ m * 2 ^ (e + 52).toNat = n.natAbs * 2 ^ 52 ∧ n.natAbs ≤ 2 ^ 53 ∧ (s = true ↔ n < 0))
def Fl (x : Nat) (n : Int) : Prop := ∃ s m e, double.read x = .number s m e ∧ Core s m e n

/-- What is written of a number whose value is n. -/
theorem fl_write {neg : Bool} {mag : Nat} {place : Int} {n : Int} {K : Nat} (hn : n.natAbs ≤ 2 ^ 53) (hp : -(K : Int) ≤ place)
    (hv : mag * 2 ^ (place + K).toNat = n.natAbs * 2 ^ K) (hs : n ≠ 0 → (neg = true ↔ n < 0)) : Fl (double.nearest neg mag place) n := by
  by_cases h0 : n = 0
  · subst h0
    have hm : mag = 0 := by
      rcases Nat.eq_zero_or_pos mag with h | h
      · exact h
      · have := Nat.mul_pos h (pow_pos (place + K).toNat)
        simp at hv
        omega
    refine ⟨neg, 0, -1074, ?_, .inl ⟨rfl, rfl, rfl⟩⟩
    unfold Format.nearest
    rw [if_pos hm, read_zero]
  · obtain ⟨m, e, h1, h2, h3, h4, h5, h6⟩ := read_nearest neg mag place n.natAbs K (by omega) hn hp hv
    exact ⟨neg, m, e, h1, .inr ⟨h2, h3, h4, h5, h6, hn, hs h0⟩⟩

theorem fl_zero (neg : Bool) (place : Int) : Fl (double.nearest neg 0 place) 0 := by
  refine ⟨neg, 0, -1074, ?_, .inl ⟨rfl, rfl, rfl⟩⟩
  unfold Format.nearest
  rw [if_pos rfl, read_zero]

theorem fl_ofInt (n : Int) (hn : n.natAbs ≤ 2 ^ 53) : Fl (floatOfInt .f64 n) n := by
  refine fl_write (K := 0) hn (by omega) ?_ ?_
  · simp
  · intro _
    simp

/-- Its value, in units as small as one likes. -/
theorem Core.val {s : Bool} {m : Nat} {e n : Int} (h : Core s m e n) (K : Nat) (hK : 1074 ≤ K) :
    -(K : Int) ≤ e ∧ (if s then -(m : Int) else (m : Int)) * 2 ^ (e + K).toNat = n * 2 ^ K := by
  rcases h with ⟨rfl, rfl, rfl⟩ | ⟨h1, h2, h3, h4, h5, h6, h7⟩
  · refine ⟨by omega, ?_⟩
    cases s <;> simp
  · refine ⟨by omega, ?_⟩
    have e1 : (e + K).toNat = (e + 52).toNat + (K - 52) := by omega
    have e2 : m * 2 ^ (e + K).toNat = n.natAbs * 2 ^ K := by
      rw [e1, Nat.pow_add, ← Nat.mul_assoc, h5, Nat.mul_assoc, ← Nat.pow_add]
      congr 2
      omega
    have e3 : (m : Int) * 2 ^ (e + K).toNat = (n.natAbs : Int) * 2 ^ K := by
      have := congrArg (fun z : Nat => (z : Int)) e2
      simpa using this
    cases s
    · have : ¬ n < 0 := by simpa using h7
      simp only [Bool.false_eq_true, if_false]
      rw [e3, Int.natAbs_of_nonneg (by omega)]
    · have : n < 0 := by simpa using h7
      simp only [if_true]
      rw [Int.neg_mul, e3, ← Int.neg_mul]
      congr 1
      omega

theorem signed_eq (s : Bool) (m d : Nat) : signed s m d = (if s then -(m : Int) else (m : Int)) * 2 ^ d := by
  unfold signed
  cases s <;> simp [Nat.shiftLeft_eq, Int.neg_mul]

theorem pow_posI (k : Nat) : (0 : Int) < 2 ^ k := by
  have := pow_pos k
  exact_mod_cast this

theorem neg_of {a c : Int} (p : 0 < c) (h : a * c < 0) : a < 0 := by
  rcases Int.lt_or_le a 0 with h1 | h1
  · exact h1
  · have := Int.mul_nonneg h1 (Int.le_of_lt p)
    omega

theorem sum_core {s t : Bool} {m k : Nat} {i j a b : Int} (ha : Core s m i a) (hb : Core t k j b) (hr : (a + b).natAbs ≤ 2 ^ 53) :
    ∃ d, (Datum.number s m i).sum (.number t k j) = some d ∧ Fl (double.write d) (a + b) := by
  obtain ⟨K, hK⟩ : ∃ K : Nat, K = 1074 := ⟨_, rfl⟩
  obtain ⟨a1, a2⟩ := ha.val K (by omega)
  obtain ⟨b1, b2⟩ := hb.val K (by omega)
  refine ⟨_, rfl, ?_⟩
  obtain ⟨base, hbase⟩ : ∃ z, z = min i j := ⟨_, rfl⟩
  rw [← hbase]
  obtain ⟨T, hT⟩ : ∃ T, T = signed s m (i - base).toNat + signed t k (j - base).toNat := ⟨_, rfl⟩
  rw [← hT]
  have hv : T * 2 ^ (base + K).toNat = (a + b) * 2 ^ K := by
    rw [hT, signed_eq, signed_eq, Int.add_mul, Int.mul_assoc, Int.mul_assoc, ← Int.pow_add, ← Int.pow_add,
      show (i - base).toNat + (base + K).toNat = (i + K).toNat by omega, show (j - base).toNat + (base + K).toNat = (j + K).toNat by omega, a2, b2, Int.add_mul]
  have hn : T.natAbs * 2 ^ (base + K).toNat = (a + b).natAbs * 2 ^ K := by
    have := congrArg Int.natAbs hv
    rw [Int.natAbs_mul, Int.natAbs_mul, Int.natAbs_pow, Int.natAbs_pow] at this
    simpa using this
  have p1 := pow_posI (base + K).toNat
  have p2 := pow_posI K
  have hsg : a + b ≠ 0 → (T ≠ 0 ∧ (T < 0 ↔ a + b < 0)) := by
    intro h0
    have t0 : T ≠ 0 := by
      rintro rfl
      rw [Int.zero_mul] at hv
      rcases Int.mul_eq_zero.1 hv.symm with h | h
      · exact h0 h
      · omega
    refine ⟨t0, ⟨fun h => ?_, fun h => ?_⟩⟩
    · have := Int.mul_neg_of_neg_of_pos h p1
      rw [hv] at this
      exact neg_of p2 this
    · have := Int.mul_neg_of_neg_of_pos h p2
      rw [← hv] at this
      exact neg_of p1 this
  refine fl_write (K := K) hr (by omega) hn ?_
  intro h0
  obtain ⟨t0, t1⟩ := hsg h0
  rw [if_neg t0]
  simpa using t1

theorem core_neg {s : Bool} {m : Nat} {e n : Int} (h : Core s m e n) : Core (!s) m e (-n) := by
  rcases h with ⟨h1, h2, h3⟩ | ⟨h1, h2, h3, h4, h5, h6, h7⟩
  · exact .inl ⟨h1, by omega, h3⟩
  · refine .inr ⟨h1, h2, h3, h4, by rw [Int.natAbs_neg]; exact h5, by rw [Int.natAbs_neg]; exact h6, ?_⟩
    have : n ≠ 0 := by
      rintro rfl
      have := Nat.mul_pos h1 (pow_pos (e + 52).toNat)
      simp at h5
      omega
    cases s
    · simp at h7 ⊢
      omega
    · simp at h7 ⊢
      omega

theorem fl_add {x y : Nat} {a b : Int} (hx : Fl x a) (hy : Fl y b) (hr : (a + b).natAbs ≤ 2 ^ 53) : ∃ r, floatBits .add .f64 x y = some r ∧ Fl r (a + b) := by
  obtain ⟨s, m, i, e1, h1⟩ := hx
  obtain ⟨t, k, j, e2, h2⟩ := hy
  obtain ⟨d, hd, hf⟩ := sum_core h1 h2 hr
  refine ⟨double.write d, ?_, hf⟩
  show double.add x y = _
  unfold Format.add
  rw [e1, e2, hd]
  rfl

theorem fl_sub {x y : Nat} {a b : Int} (hx : Fl x a) (hy : Fl y b) (hr : (a - b).natAbs ≤ 2 ^ 53) : ∃ r, floatBits .sub .f64 x y = some r ∧ Fl r (a - b) := by
  obtain ⟨s, m, i, e1, h1⟩ := hx
  obtain ⟨t, k, j, e2, h2⟩ := hy
  obtain ⟨d, hd, hf⟩ := sum_core h1 (core_neg h2) (by rw [← Int.sub_eq_add_neg]; exact hr)
  refine ⟨double.write d, ?_, by rw [Int.sub_eq_add_neg]; exact hf⟩
  show double.sub x y = _
  unfold Format.sub
  rw [e1, e2]
  show Option.map double.write ((Datum.number s m i).sum (.number (!t) k j)) = _
  rw [hd]
  rfl

theorem fl_mul {x y : Nat} {a b : Int} (hx : Fl x a) (hy : Fl y b) (hr : (a * b).natAbs ≤ 2 ^ 53) : ∃ r, floatBits .mul .f64 x y = some r ∧ Fl r (a * b) := by
  obtain ⟨s, m, i, e1, h1⟩ := hx
  obtain ⟨t, k, j, e2, h2⟩ := hy
  have hval : floatBits .mul .f64 x y = some (double.nearest (s ^^ t) (m * k) (i + j)) := by
    show double.mul x y = _
    unfold Format.mul
    rw [e1, e2]
    rfl
  refine ⟨_, hval, ?_⟩
  rcases h1 with ⟨rfl, rfl, rfl⟩ | ⟨a1, a2, a3, a4, a5, a6, a7⟩
  · rw [Nat.zero_mul, Int.zero_mul]
    exact fl_zero _ _
  · rcases h2 with ⟨rfl, rfl, rfl⟩ | ⟨b1, b2, b3, b4, b5, b6, b7⟩
    · rw [Nat.mul_zero, Int.mul_zero]
      exact fl_zero _ _
    · have na : a ≠ 0 := by
        rintro rfl
        have := Nat.mul_pos a1 (pow_pos (i + 52).toNat)
        simp at a5
        omega
      have nb : b ≠ 0 := by
        rintro rfl
        have := Nat.mul_pos b1 (pow_pos (j + 52).toNat)
        simp at b5
        omega
      refine fl_write (K := 104) hr (by omega) ?_ ?_
      · have e : (i + j + (104 : Nat)).toNat = (i + 52).toNat + (j + 52).toNat := by omega
        rw [e, Nat.pow_add, Int.natAbs_mul]
        have : m * k * (2 ^ (i + 52).toNat * 2 ^ (j + 52).toNat) = (m * 2 ^ (i + 52).toNat) * (k * 2 ^ (j + 52).toNat) := by
          rw [Nat.mul_assoc, Nat.mul_assoc]
          congr 1
          rw [← Nat.mul_assoc, ← Nat.mul_assoc, Nat.mul_comm k]
        rw [this, a5, b5, show (104 : Nat) = 52 + 52 from rfl, Nat.pow_add, Nat.mul_assoc, Nat.mul_assoc]
        congr 1
        rw [← Nat.mul_assoc, ← Nat.mul_assoc, Nat.mul_comm (2 ^ 52)]
      · intro _
        have sa : s = decide (a < 0) := by
          cases s
          · simp at a7 ⊢
            omega
          · simp at a7 ⊢
            omega
        have sb : t = decide (b < 0) := by
          cases t
          · simp at b7 ⊢
            omega
          · simp at b7 ⊢
            omega
        rw [sa, sb]
        by_cases ha : a < 0 <;> by_cases hb : b < 0
        · simp [ha, hb]
          exact Int.le_of_lt (Int.mul_pos_of_neg_of_neg ha hb)
        · simp [ha, hb]
          exact Int.mul_neg_of_neg_of_pos ha (by omega)
        · simp [ha, hb]
          exact Int.mul_neg_of_pos_of_neg (by omega) hb
        · simp [ha, hb]
          exact Int.le_of_lt (Int.mul_pos (by omega) (by omega))

/-- Two that stand for whole numbers stand to each other as these do. -/
theorem fl_order {x y : Nat} {a b : Int} (hx : Fl x a) (hy : Fl y b) : double.order x y = some (compare a b) := by
  obtain ⟨s, m, i, e1, h1⟩ := hx
  obtain ⟨t, k, j, e2, h2⟩ := hy
  obtain ⟨K, hK⟩ : ∃ K : Nat, K = 1074 := ⟨_, rfl⟩
  obtain ⟨a1, a2⟩ := h1.val K (by omega)
  obtain ⟨b1, b2⟩ := h2.val K (by omega)
  unfold Format.order
  rw [e1, e2]
  show some (compare (signed s m (i - min i j).toNat) (signed t k (j - min i j).toNat)) = _
  obtain ⟨base, hbase⟩ : ∃ z, z = min i j := ⟨_, rfl⟩
  rw [← hbase]
  have p1 := pow_posI (base + K).toNat
  have p2 := pow_posI K
  have ea : signed s m (i - base).toNat * 2 ^ (base + K).toNat = a * 2 ^ K := by
    rw [signed_eq, Int.mul_assoc, ← Int.pow_add, show (i - base).toNat + (base + K).toNat = (i + K).toNat by omega, a2]
  have eb : signed t k (j - base).toNat * 2 ^ (base + K).toNat = b * 2 ^ K := by
    rw [signed_eq, Int.mul_assoc, ← Int.pow_add, show (j - base).toNat + (base + K).toNat = (j + K).toNat by omega, b2]
  generalize signed s m (i - base).toNat = A at *
  generalize signed t k (j - base).toNat = B at *
  have hlt : A < B ↔ a < b := by
    constructor
    · intro h
      have := Int.mul_lt_mul_of_pos_right h p1
      rw [ea, eb] at this
      exact Int.lt_of_mul_lt_mul_right this (by omega)
    · intro h
      have := Int.mul_lt_mul_of_pos_right h p2
      rw [← ea, ← eb] at this
      exact Int.lt_of_mul_lt_mul_right this (by omega)
  have heq : A = B ↔ a = b := by
    constructor
    · rintro rfl
      exact Int.eq_of_mul_eq_mul_right (by omega) (ea.symm.trans eb)
    · rintro rfl
      exact Int.eq_of_mul_eq_mul_right (by omega) (ea.trans eb.symm)
  congr 1
  simp only [compare, compareOfLessAndEq, hlt, heq]

/-- As an integer. -/
theorem fl_toInt {x : Nat} {n : Int} (hx : Fl x n) : (double.read x).toInt .zero = some n := by
  obtain ⟨s, m, e, e1, h1⟩ := hx
  rw [e1]
  show some (signed s (Toward.zero.cut s (m <<< e.toNat) (-e).toNat) 0) = some n
  congr 1
  rcases h1 with ⟨rfl, rfl, rfl⟩ | ⟨h1, h2, h3, h4, h5, h6, h7⟩
  · cases s <;> simp [signed, Toward.cut]
  · have hcut : Toward.zero.cut s (m <<< e.toNat) (-e).toNat = n.natAbs := by
      by_cases he : 0 ≤ e
      · have e0 : (-e).toNat = 0 := by omega
        have e2 : (e + 52).toNat = e.toNat + 52 := by omega
        rw [e2, Nat.pow_add, ← Nat.mul_assoc] at h5
        have := Nat.eq_of_mul_eq_mul_right (pow_pos 52) h5
        rw [e0, Nat.shiftLeft_eq, this]
        unfold Toward.cut
        simp
      · have e0 : e.toNat = 0 := by omega
        obtain ⟨d, hd⟩ : ∃ d, d = (-e).toNat := ⟨_, rfl⟩
        have e2 : 52 = (e + 52).toNat + d := by omega
        have hm : m = n.natAbs * 2 ^ d := by
          apply Nat.eq_of_mul_eq_mul_right (pow_pos (e + 52).toNat)
          rw [h5, Nat.mul_assoc, ← Nat.pow_add, Nat.add_comm d, ← e2]
        have hn : 0 < n.natAbs := by
          rcases Nat.eq_zero_or_pos n.natAbs with h | h
          · rw [h] at hm
            omega
          · exact h
        rw [e0, ← hd, Nat.shiftLeft_zero, hm]
        have hle : d ≤ (n.natAbs * 2 ^ d).log2 + 2 := by
          have g1 : 2 ^ d ≤ n.natAbs * 2 ^ d := Nat.le_mul_of_pos_left _ hn
          have g2 : n.natAbs * 2 ^ d < 2 ^ ((n.natAbs * 2 ^ d).log2 + 1) := Nat.lt_log2_self
          have := (Nat.pow_lt_pow_iff_right (a := 2) (by omega)).1 (Nat.lt_of_le_of_lt g1 g2)
          omega
        unfold Toward.cut
        simp only [Nat.min_eq_left hle, Nat.one_shiftLeft, Nat.mul_div_cancel _ (pow_pos d)]
        simp
    rw [hcut]
    unfold signed
    cases s
    · have : ¬ n < 0 := by simpa using h7
      simp
      omega
    · have : n < 0 := by simpa using h7
      simp
      omega

theorem fl_int {x : Nat} {n : Int} (hx : Fl x n) (h0 : -9223372036854775808 ≤ n) (h1 : n ≤ 9223372036854775807) : floatToIntVal .f64 x .i64 = some n := by
  unfold floatToIntVal
  have : (FloatKind.f64.decode x).toInt .zero = some n := fl_toInt hx
  rw [this]
  have e0 : IntKind.i64.min = -9223372036854775808 := by rfl
  have e1 : IntKind.i64.max = 9223372036854775807 := by rfl
  exact if_pos ⟨by rw [e0]; exact h0, by rw [e1]; exact h1⟩

end Go.Fl
/- What the functions of gauss come to. -/
namespace Go.Proofs.YtnchjdhepakokaaGreatDoorGG
open Go.Proofs Go.Proofs.YtnchjdhepakokaaGreatDoorGS1 Go.Fl
set_option maxRecDepth 100000
def rt (x y : Int) : Bool := decide (x ≥ -1048576) && (decide (x ≤ 1048576) && (decide (y ≥ -1048576) && decide (y ≤ 1048576)))
theorem rt_iff {x y : Int} : rt x y = true ↔ (-1048576 ≤ x ∧ x ≤ 1048576 ∧ -1048576 ≤ y ∧ y ≤ 1048576) := by
  simp [rt]
theorem Right_spec (x y : Int) : Does Tryz.prog 126 [pt x y] (.bool (rt x y)) := by
  unfold rt
  cases h0 : decide (x ≥ -1048576) with
  | false => exact Right_4 x y h0
  | true =>
    cases h1 : decide (x ≤ 1048576) with
    | false => exact Right_3 x y h0 h1
    | true =>
      cases h2 : decide (y ≥ -1048576) with
      | false => exact Right_2 x y h0 h1 h2
      | true => exact Right_1 x y h0 h1 h2
theorem rRight_spec (x y : Int) : Does Tryz.prog 75 [pt x y] (.bool (rt x y)) := by
  unfold rt
  cases h0 : decide (x ≥ -1048576) with
  | false => exact rRight_4 x y h0
  | true =>
    cases h1 : decide (x ≤ 1048576) with
    | false => exact rRight_3 x y h0 h1
    | true =>
      cases h2 : decide (y ≥ -1048576) with
      | false => exact rRight_2 x y h0 h1 h2
      | true => exact rRight_1 x y h0 h1 h2
theorem z_spec {x y : Int} (h : rt x y = true) : ∃ a b, Does Tryz.prog 213 [pt x y] (cx a b) ∧ Fl a x ∧ Fl b y := by
  rw [rt_iff] at h
  exact ⟨_, _, z_1 x y, fl_ofInt x (by omega), fl_ofInt y (by omega)⟩
theorem of_spec {a b : Nat} {x y : Int} (ha : Fl a x) (hb : Fl b y) (hx : x.natAbs ≤ 2 ^ 53) (hy : y.natAbs ≤ 2 ^ 53) : Does Tryz.prog 219 [cx a b] (pt x y) :=
  of_1 a b x y (fl_int ha (by omega) (by omega)) (fl_int hb (by omega) (by omega))
theorem product_spec {k l m n : Nat} {x y z u : Int} (hk : Fl k x) (hl : Fl l y) (hm : Fl m z) (hn : Fl n u) (h1 : (x * z).natAbs ≤ 2 ^ 52) (h2 : (y * u).natAbs ≤ 2 ^ 52) (h3 : (x * u).natAbs ≤ 2 ^ 52) (h4 : (y * z).natAbs ≤ 2 ^ 52) :
    ∃ a b, Does Tryz.prog 212 [cx k l, cx m n] (cx a b) ∧ Fl a (x * z - y * u) ∧ Fl b (x * u + y * z) := by
  obtain ⟨n0, e0, f0⟩ := fl_mul hk hm (by omega)
  obtain ⟨n1, e1, f1⟩ := fl_mul hl hn (by omega)
  obtain ⟨n2, e2, f2⟩ := fl_sub f0 f1 (by omega)
  obtain ⟨n3, e3, f3⟩ := fl_mul hk hn (by omega)
  obtain ⟨n4, e4, f4⟩ := fl_mul hl hm (by omega)
  obtain ⟨n5, e5, f5⟩ := fl_add f3 f4 (by omega)
  exact ⟨n2, n5, product_1 k l m n n0 n1 n2 n3 n4 n5 e0 e1 e2 e3 e4 e5, f2, f5⟩
theorem mul_bound {x y : Int} {A B : Nat} (hx : x.natAbs ≤ A) (hy : y.natAbs ≤ B) : (x * y).natAbs ≤ A * B := by
  rw [Int.natAbs_mul]
  exact Nat.mul_le_mul hx hy
theorem cmul_bound {x y : Int} (hx : x.natAbs ≤ 1048576) (hy : y.natAbs ≤ 1048576) : (x * y).natAbs ≤ 1099511627776 := mul_bound hx hy
/-- What 'both' answers, the exact result being (X, Y). -/
def ans (x y z u X Y : Int) : Value := bif rt x y && rt z u then (bif rt X Y then pe X Y 0 else pe 0 0 32) else pe 0 0 1
theorem both_spec {x y z u X Y : Int} {k : Nat} (hX : rt x y = true → rt z u = true → X.natAbs ≤ 2 ^ 53 ∧ Y.natAbs ≤ 2 ^ 53)
    (hf : rt x y = true → rt z u = true → ∀ a b c d, Fl a x → Fl b y → Fl c z → Fl d u → ∃ e f, Does Tryz.prog k [cx a b, cx c d] (cx e f) ∧ Fl e X ∧ Fl f Y) : Does Tryz.prog 224 [pt x y, pt z u, fv k] (ans x y z u X Y) := by
  unfold ans
  cases h1 : rt x y with
  | false => exact both_1 x y z u k false (h1 ▸ Right_spec x y) rfl
  | true =>
    cases h2 : rt z u with
    | false => exact both_2 x y z u k true false (h1 ▸ Right_spec x y) rfl (h2 ▸ Right_spec z u) rfl
    | true =>
      obtain ⟨a, b, e1, fa, fb⟩ := z_spec h1
      obtain ⟨c, d, e2, fc, fd⟩ := z_spec h2
      obtain ⟨e, f, e3, fe, ff⟩ := hf h1 h2 a b c d fa fb fc fd
      obtain ⟨hx, hy⟩ := hX h1 h2
      have e4 := of_spec fe ff hx hy
      cases h3 : rt X Y with
      | false => exact both_3 x y z u k true true a b c d e f X Y false (h1 ▸ Right_spec x y) rfl (h2 ▸ Right_spec z u) rfl e1 e2 e3 e4 (h3 ▸ Right_spec X Y) rfl
      | true => exact both_4 x y z u k true true a b c d e f X Y true (h1 ▸ Right_spec x y) rfl (h2 ▸ Right_spec z u) rfl e1 e2 e3 e4 (h3 ▸ Right_spec X Y) rfl
theorem Add_spec (x y z u : Int) : Does Tryz.prog 169 [pt x y, pt z u] (ans x y z u (x + z) (y + u)) := by
  have h := both_spec (x := x) (y := y) (z := z) (u := u) (X := x + z) (Y := y + u) (k := 226) (fun h1 h2 => by rw [rt_iff] at h1 h2; omega) (fun h1 h2 a b c d fa fb fc fd => by
    rw [rt_iff] at h1 h2
    obtain ⟨n0, e0, f0⟩ := fl_add fa fc (by omega)
    obtain ⟨n1, e1, f1⟩ := fl_add fb fd (by omega)
    exact ⟨n0, n1, Add1_1 a b c d n0 n1 (by simp [cSumBits, e0, e1]), f0, f1⟩)
  unfold ans at h ⊢
  revert h
  cases rt x y <;> cases rt z u <;> cases rt (x + z) (y + u) <;> exact fun h => Add_1 x y z u _ _ _ h
theorem Sub_spec (x y z u : Int) : Does Tryz.prog 170 [pt x y, pt z u] (ans x y z u (x - z) (y - u)) := by
  have h := both_spec (x := x) (y := y) (z := z) (u := u) (X := x - z) (Y := y - u) (k := 227) (fun h1 h2 => by rw [rt_iff] at h1 h2; omega) (fun h1 h2 a b c d fa fb fc fd => by
    rw [rt_iff] at h1 h2
    obtain ⟨n0, e0, f0⟩ := fl_sub fa fc (by omega)
    obtain ⟨n1, e1, f1⟩ := fl_sub fb fd (by omega)
    exact ⟨n0, n1, Sub1_1 a b c d n0 n1 (by simp [cSumBits, e0, e1]), f0, f1⟩)
  unfold ans at h ⊢
  revert h
  cases rt x y <;> cases rt z u <;> cases rt (x - z) (y - u) <;> exact fun h => Sub_1 x y z u _ _ _ h
theorem Mul_spec (x y z u : Int) : Does Tryz.prog 168 [pt x y, pt z u] (ans x y z u (x * z - y * u) (x * u + y * z)) := by
  have h := both_spec (x := x) (y := y) (z := z) (u := u) (X := x * z - y * u) (Y := x * u + y * z) (k := 225) (fun h1 h2 => by
      rw [rt_iff] at h1 h2
      have a1 := cmul_bound (x := x) (y := z) (by omega) (by omega)
      have a2 := cmul_bound (x := y) (y := u) (by omega) (by omega)
      have a3 := cmul_bound (x := x) (y := u) (by omega) (by omega)
      have a4 := cmul_bound (x := y) (y := z) (by omega) (by omega)
      omega) (fun h1 h2 a b c d fa fb fc fd => by
    rw [rt_iff] at h1 h2
    have a1 := cmul_bound (x := x) (y := z) (by omega) (by omega)
    have a2 := cmul_bound (x := y) (y := u) (by omega) (by omega)
    have a3 := cmul_bound (x := x) (y := u) (by omega) (by omega)
    have a4 := cmul_bound (x := y) (y := z) (by omega) (by omega)
    obtain ⟨n0, n1, e, f0, f1⟩ := product_spec fa fb fc fd (by omega) (by omega) (by omega) (by omega)
    exact ⟨n0, n1, Mul1_1 a b c d n0 n1 e, f0, f1⟩)
  unfold ans at h ⊢
  revert h
  cases rt x y <;> cases rt z u <;> cases rt (x * z - y * u) (x * u + y * z) <;> exact fun h => Mul_1 x y z u _ _ _ h
end Go.Proofs.YtnchjdhepakokaaGreatDoorGG
/-
  DERIVED: THE SHELF's CONTRACTS AT THIS DUMP, IN PLAIN WORDS (tools/lay-plain.mjs out of 'YtnchjdhepakokaaGreatDoorSLx.lean', which tools/lay-shelf.mjs wrote): THE SAME DECLARATIONS UNDER THE SAME NAMES: 'import', 'namespace', 'open', 'def', 'theorem' AND NOTHING ELSE: no command of the shelf's: FOR A HAND-IN. Each laying: the table of numbers ('.._ren') and one theorem, a field a fact of the dump's own or the kernel's comparison; each contract: ONE APPLICATION.
-/
namespace Go.Proofs
open Go.Shelf
def Tryz.laysValid_ren : Go.Shelf.Ren := ⟨fun | 196 => 125 | 259 => 201 | n => n, fun | 9 => 9 | 4 => 4 | 3 => 3 | 5 => 5 | 12 => 12 | 119 => 222 | 0 => 0 | 46 => 226 | 139 => 225 | 138 => 224 | 53 => 165 | n => n, fun | 3 => 0 | 4 => 1 | n => n⟩
theorem Tryz.laysValid : Go.Proofs.Lays.n196 Tryz.prog Tryz.laysValid_ren := {
  mixed := by kernel_rfl
  f196 := Tryz.func125.trans (congrArg some (by kernel_rfl))
  f259 := Tryz.func201.trans (congrArg some (by kernel_rfl))
  t0 := Tryz.underlying0
  a0 := Tryz.isAgg0
  z0 := Tryz.sizeOf0
  v0 := Tryz.zeroValue0
  t3 := Tryz.underlying3
  a3 := Tryz.isAgg3
  z3 := Tryz.sizeOf3
  v3 := Tryz.zeroValue3
  t4 := Tryz.underlying4
  a4 := Tryz.isAgg4
  z4 := Tryz.sizeOf4
  v4 := Tryz.zeroValue4
  t5 := Tryz.underlying5
  a5 := Tryz.isAgg5
  z5 := Tryz.sizeOf5
  v5 := Tryz.zeroValue5
  t9 := Tryz.underlying9
  a9 := Tryz.isAgg9
  z9 := Tryz.sizeOf9
  v9 := Tryz.zeroValue9
  t12 := Tryz.underlying12
  a12 := Tryz.isAgg12
  z12 := Tryz.sizeOf12
  v12 := Tryz.zeroValue12
  t46 := Tryz.underlying226
  a46 := Tryz.isAgg226
  z46 := Tryz.sizeOf226
  v46 := Tryz.zeroValue226
  t53 := Tryz.underlying165
  a53 := Tryz.isAgg165
  z53 := Tryz.sizeOf165
  v53 := Tryz.zeroValue165
  t119 := Tryz.underlying222
  a119 := Tryz.isAgg222
  z119 := Tryz.sizeOf222
  t138 := Tryz.underlying224
  a138 := Tryz.isAgg224
  z138 := Tryz.sizeOf224
  v138 := Tryz.zeroValue224
  t139 := Tryz.underlying225
  a139 := Tryz.isAgg225
  z139 := Tryz.sizeOf225
  v139 := Tryz.zeroValue225
  g3 := by kernel_rfl
  g4 := by kernel_rfl }
end Go.Proofs
/- Short words for paths, and for what a test decides. -/
namespace Go.Proofs.YtnchjdhepakokaaGreatDoorC
open Go.Proofs Go.Proofs.YtnchjdhepakokaaGreatDoorSx
set_option linter.unusedVariables false
theorem pth {f : Nat} {fn : Func} {T T' : Tab cE} {n n' : Nat} {l : List SV} {r : SV} {p : List Prop} (hf : cE.P.funcs[f]? = some fn) (hn : (fn.name == "runtime.NumGoroutine") = false) (d : List (Dec cE)) (h : pathOf cE ct fn 2000 T n l d = some (r, T', n', p)) (hp : Conj p) : Does cE f T n l r T' n' := does_path ctOk mixed hf hn 2000 d h hp
theorem sfin {fn : Func} {K0 n n' : Nat} {keep : List Nat} {k : List It} {s : List SV} {b T' : Tab cE} {res : SV} {p : List Prop} (hK : K0 ≤ n) (d : List (Dec cE)) (h : segOf cE ct fn 2000 K0 keep k s b n d = some (.fin res T' n', p)) (hp : Conj p) : Fin cE fn K0 res T' n' k s b n := seg_fin ctOk mixed hK 2000 d h hp
theorem sat {fn : Func} {K0 n n' m : Nat} {keep : List Nat} {k k' : List It} {s s' : List SV} {b b' T' : Tab cE} {res : SV} {p : List Prop} (hK : K0 ≤ n) (d : List (Dec cE)) (h : segOf cE ct fn 2000 K0 keep k s b n d = some (.at k' s' b' m, p)) (hp : Conj p) (hF : Fin cE fn K0 res T' n' k' s' b' m) : Fin cE fn K0 res T' n' k s b n := seg_at ctOk mixed hK 2000 d h hp hF
theorem tbif {g n n' : Nat} {T T' : Tab cE} {xs : List SV} {c : Bool} {a b : Value} (h1 : c = true → Does cE g T n xs (.v a) T' n') (h0 : c = false → Does cE g T n xs (.v b) T' n') : Does cE g T n xs (.v (bif c then a else b)) T' n' := by
  cases c with
  | true => exact h1 rfl
  | false => exact h0 rfl
theorem dbif3 {g n : Nat} {T : Tab cE} {xs : List SV} {c : Bool} {a b : SV × Tab cE × Nat} (h1 : c = true → Does cE g T n xs a.1 a.2.1 a.2.2) (h0 : c = false → Does cE g T n xs b.1 b.2.1 b.2.2) : Does cE g T n xs (bif c then a else b).1 (bif c then a else b).2.1 (bif c then a else b).2.2 := by
  cases c with
  | true => exact h1 rfl
  | false => exact h0 rfl
theorem fbif {fn : Func} {K0 n n' : Nat} {k : List It} {s : List SV} {B T' : Tab cE} {c : Bool} {x y : Value} (h1 : c = true → Fin cE fn K0 (.v x) T' n' k s B n) (h0 : c = false → Fin cE fn K0 (.v y) T' n' k s B n) : Fin cE fn K0 (.v (bif c then x else y)) T' n' k s B n := by
  cases c with
  | true => exact h1 rfl
  | false => exact h0 rfl
theorem fbif3 {fn : Func} {K0 n : Nat} {k : List It} {s : List SV} {B : Tab cE} {c : Bool} {x y : SV × Tab cE × Nat} (h1 : c = true → Fin cE fn K0 x.1 x.2.1 x.2.2 k s B n) (h0 : c = false → Fin cE fn K0 y.1 y.2.1 y.2.2 k s B n) : Fin cE fn K0 (bif c then x else y).1 (bif c then x else y).2.1 (bif c then x else y).2.2 k s B n := by
  cases c with
  | true => exact h1 rfl
  | false => exact h0 rfl
end Go.Proofs.YtnchjdhepakokaaGreatDoorC
/- The tables of unicode/utf8, and utf8.ValidString, told. -/
namespace Go.Proofs.YtnchjdhepakokaaGreatDoorC
open Go.Proofs Go.Proofs.YtnchjdhepakokaaGreatDoorSx Go.RowKit Go.Lib
set_option maxRecDepth 100000
theorem tabs_in {w : World} (h : GlobIn cE w) : Lib.Utf8Tabs 0 1 w := by
  obtain ⟨t, f, hb⟩ := h.1 0 _ rfl
  obtain ⟨t2, f2, hb2⟩ := h.1 1 _ rfl
  refine ⟨fun c hc => ?_, fun i hi => ?_⟩
  · rw [cell_of_row w _ c _ t f hb]
    simp [firstL, hc]
  · have acc : ∀ k : _root_.Fin 16, accL[2 * k.val]? = some ((accLo k.val : Nat) : Int) ∧ accL[2 * k.val + 1]? = some ((accHi k.val : Nat) : Int) := by decide
    obtain ⟨a1, a2⟩ := acc ⟨i, hi⟩
    rw [cell_of_row w _ _ _ t2 f2 hb2, cell_of_row w _ _ _ t2 f2 hb2]
    simp only at a1 a2
    exact ⟨by simp [a1], by simp [a2]⟩
theorem vstr_does (s : ByteArray) (hs : s.size ≤ 140737488351232) : Does cE 125 [] 0 [.v (st s)] (.v (.bool (validD s.data.toList))) [] 0 :=
  does_lib (l := [st s]) (enters (fn := Tryz.f125) rfl (by kernel_rfl) rfl) (fun w hg => Any.utf8_ValidString Tryz.laysValid s w (by omega) (tabs_in hg))
end Go.Proofs.YtnchjdhepakokaaGreatDoorC
/- Good UTF-8 in the reference's words: what its loop over runes comes to is what utf8.ValidString says. -/
namespace Go.Proofs.YtnchjdhepakokaaGreatDoorC
open Go.Lib
set_option linter.unusedVariables false
/-- The three bytes of the rune 65533 stand at a place. -/
def three (s : ByteArray) (i : Nat) : Bool := decide (i + 3 ≤ s.size) && ((s.data.toList.drop i).take 3 == [239, 191, 189])
theorem dec_bad (n b0 b1 b2 b3 : Nat) (h0 : b0 < 256) (h1 : b1 < 256) (h2 : b2 < 256) (h3 : b3 < 256) (h : (decodeN n b0 b1 b2 b3).1 = 65533) : ((decodeN n b0 b1 b2 b3).2 = 1 ↔ ¬ (3 ≤ n ∧ b0 = 239 ∧ b1 = 191 ∧ b2 = 189)) := by
  constructor
  · rintro h2' ⟨q0, q1, q2, q3⟩
    subst q1 q2 q3
    have e : decodeN n 239 191 189 b3 = (65533, 3) := by
      unfold decodeN
      rw [if_neg (by omega), if_neg (by omega), if_pos (by omega), if_pos (by omega)]
    rw [e] at h2'
    cases h2'
  · intro hn
    unfold decodeN at h ⊢
    split at h
    · simp only at h
      omega
    rename_i c1
    rw [if_neg c1]
    split at h
    · rename_i c2
      rw [if_pos c2]
      split at h
      · simp only at h
        omega
      · rename_i c3
        rw [if_neg c3]
    rename_i c2
    rw [if_neg c2]
    split at h
    · rename_i c4
      rw [if_pos c4]
      split at h
      · simp only at h
        exact (hn ⟨by omega, by omega, by omega, by omega⟩).elim
      · rename_i c5
        rw [if_neg c5]
    rename_i c4
    rw [if_neg c4]
    split at h
    · rename_i c6
      rw [if_pos c6]
      split at h
      · simp only at h
        omega
      · rename_i c7
        rw [if_neg c7]
    rename_i c6
    rw [if_neg c6]
theorem get_list (s : ByteArray) (i : Nat) (h : i < s.size) : s.data.toList[i]? = some (s.get! i) := by
  have h2 : i < s.data.toList.length := by rw [Array.length_toList]; exact h
  rw [List.getElem?_eq_getElem h2]
  have : s.get! i = s[i]'h := by
    have := get_at s i h
    simpa using this
  rw [this]
  rfl
theorem three_iff (s : ByteArray) (i : Nat) : three s i = true ↔ (i + 3 ≤ s.size ∧ (s.get! i).toNat = 239 ∧ (s.get! (i + 1)).toNat = 191 ∧ (s.get! (i + 2)).toNat = 189) := by
  unfold three
  rw [Bool.and_eq_true, decide_eq_true_eq]
  constructor
  · rintro ⟨h, e⟩
    refine ⟨h, ?_⟩
    have g0 := get_list s i (by omega)
    have g1 := get_list s (i + 1) (by omega)
    have g2 := get_list s (i + 2) (by omega)
    have e' := eq_of_beq e
    have t : ∀ j, j < 3 → ((s.data.toList.drop i).take 3)[j]? = s.data.toList[i + j]? := fun j hj => by rw [List.getElem?_take_of_lt hj, List.getElem?_drop]
    have t0 := t 0 (by decide)
    have t1 := t 1 (by decide)
    have t2 := t 2 (by decide)
    rw [e'] at t0 t1 t2
    rw [Nat.add_zero, g0] at t0
    rw [g1] at t1
    rw [g2] at t2
    simp at t0 t1 t2
    rw [← t0, ← t1, ← t2]
    decide
  · rintro ⟨h, a0, a1, a2⟩
    refine ⟨h, ?_⟩
    have g0 := get_list s i (by omega)
    have g1 := get_list s (i + 1) (by omega)
    have g2 := get_list s (i + 2) (by omega)
    have c0 : s.get! i = 239 := UInt8.toNat_inj.1 a0
    have c1 : s.get! (i + 1) = 191 := UInt8.toNat_inj.1 a1
    have c2 : s.get! (i + 2) = 189 := UInt8.toNat_inj.1 a2
    have hl : s.data.toList.length = s.size := Array.length_toList
    have d0 : s.data.toList.drop i = 239 :: s.data.toList.drop (i + 1) := by
      rw [List.drop_eq_getElem_cons (by omega)]
      congr 1
      rw [List.getElem?_eq_getElem (by omega), c0] at g0
      simpa using g0
    have d1 : s.data.toList.drop (i + 1) = 191 :: s.data.toList.drop (i + 2) := by
      rw [List.drop_eq_getElem_cons (by omega)]
      congr 1
      rw [List.getElem?_eq_getElem (by omega), c1] at g1
      simpa using g1
    have d2 : s.data.toList.drop (i + 2) = 189 :: s.data.toList.drop (i + 3) := by
      rw [List.drop_eq_getElem_cons (by omega)]
      congr 1
      rw [List.getElem?_eq_getElem (by omega), c2] at g2
      simpa using g2
    rw [d0, d1, d2]
    rfl
/-- A round of the loop. -/
theorem good_step (s : ByteArray) (i : Nat) (h : i < s.size) : validD (s.data.toList.drop i) = if (Utf8.decode s i).1 = 65533 ∧ three s i = false then false else validD (s.data.toList.drop (i + (Utf8.decode s i).2)) := by
  have hl : s.data.toList.length = s.size := Array.length_toList
  have hne : s.data.toList.drop i ≠ [] := by
    intro e
    have := congrArg List.length e
    rw [List.length_drop] at this
    simp at this
    omega
  rw [validD_step _ hne, decodeL_drop, List.drop_drop]
  have key : (Utf8.decode s i).1 = 65533 → ((Utf8.decode s i).2 = 1 ↔ three s i = false) := by
    intro h1
    rw [decode_at] at h1 ⊢
    rw [dec_bad _ _ _ _ _ (UInt8.toNat_lt _) (UInt8.toNat_lt _) (UInt8.toNat_lt _) (UInt8.toNat_lt _) h1]
    constructor
    · intro hn
      cases ht : three s i with
      | false => rfl
      | true =>
        obtain ⟨q0, q1, q2, q3⟩ := (three_iff s i).1 ht
        exact (hn ⟨by omega, q1, q2, q3⟩).elim
    · rintro ht ⟨q0, q1, q2, q3⟩
      have := (three_iff s i).2 ⟨by omega, q1, q2, q3⟩
      rw [this] at ht
      cases ht
  by_cases h1 : (Utf8.decode s i).1 = 65533
  · by_cases h2 : (Utf8.decode s i).2 = 1
    · rw [if_pos ⟨h1, h2⟩, if_pos ⟨h1, (key h1).1 h2⟩]
    · rw [if_neg (fun e => h2 e.2), if_neg (fun e => h2 ((key h1).2 e.2))]
  · rw [if_neg (fun e => h1 e.1), if_neg (fun e => h1 e.1)]
end Go.Proofs.YtnchjdhepakokaaGreatDoorC
/- The reference's Good: a walk of its loop over runes. -/
namespace Go.Proofs.YtnchjdhepakokaaGreatDoorC
open Go.Proofs Go.RowKit Go.Lib
set_option linter.unusedVariables false
set_option linter.unusedSimpArgs false
theorem width_pos (s : ByteArray) (pos : Nat) (h : pos < s.size) : 1 ≤ (Utf8.decode s pos).2 := by
  by_cases ha : (s[pos]'h).toNat < 128
  · rw [decode_ascii s pos h ha]
    exact Nat.le_refl _
  · exact (decode_high s pos h (by omega)).2
set_option maxRecDepth 1000000 in
set_option maxHeartbeats 4000000 in
theorem good_calls (s : ByteArray) (hs : s.size ≤ 140737488351232) (w : World) : Calls Tryz.prog 101 #[.string s] w fun e w' => e = .returned (.bool (validD s.data.toList)) ∧ ∃ pos, w' = w.iter s pos := by
  go_enter Tryz.func101, Tryz.ntmps101
  go_wp2
  go_loopw [] (fun w' => ∃ pos : Nat, w' = w.iter s pos ∧ validD (s.data.toList.drop pos) = validD s.data.toList) (fun w' => s.size - w'.iterPos w.heap.size)
  case atStart => exact ⟨0, rfl, rfl⟩
  case round =>
    obtain ⟨pos, rfl, hc⟩ := hrel
    by_cases hp : pos < s.size
    · have hnx : ∀ ty, (Instr.next (.pointer (some ⟨w.heap.size, 0, none⟩)) true ty).run Tryz.prog (w.iter s pos) = _ := fun ty => run_next_any w s pos ty hp
      have hwd := width_pos s pos hp
      have hst := good_step s pos hp
      rw [hc] at hst
      have hw3 : Go.RowKit.wrap64 ((pos : Int) + 3) = (pos : Int) + 3 := by unfold Go.RowKit.wrap64; omega
      by_cases h1 : ((Utf8.decode s pos).1 : Int) = 65533
      · have h1n : (Utf8.decode s pos).1 = 65533 := by omega
        by_cases h3 : (s.size : Int) < Go.RowKit.wrap64 ((pos : Int) + 3)
        · have h3' : (s.size : Int) < (pos : Int) + 3 := by rw [← hw3]; exact h3
          have ht : three s pos = false := by
            unfold three
            have : ¬ pos + 3 ≤ s.size := by omega
            simp [this]
          rw [if_pos ⟨h1n, ht⟩] at hst
          go_wp2
          go_ret
          rw [hst]
          exact ⟨rfl, _, rfl⟩
        · have h3' : pos + 3 ≤ s.size := by rw [hw3] at h3; omega
          have hsl : ∀ W, (Instr.slice 9 (.string s) (some (.int .i64 (pos : Int))) (some (.int .i64 ((pos : Int) + 3))) none).run Tryz.prog W = .ok (.string (s.extract pos (pos + 3))) W := by
            intro W
            have h9 : Tryz.prog.underlying 9 = some .string := by kernel_rfl
            have e1 : ((pos : Int) + 3).toNat = pos + 3 := by omega
            have b1 : (pos : Int) + 3 ≤ (s.size : Int) := by omega
            have b2 : (0 : Int) ≤ (pos : Int) + 3 := by omega
            have b3 : (0 : Int) ≤ (pos : Int) ∧ (pos : Int) ≤ ((pos + 3 : Nat) : Int) := by omega
            have b4 : (Instr.sliceBound (.int .i64 (pos : Int)) (pos + 3) BoundsCode.sliceB).run Tryz.prog W = .ok pos W := by
              rw [run_sliceBound]
              all_goals first | exact b3.1 | exact b3.2 | simp | omega
            simp [Instr.slice, run_underlying h9, Instr.sliceBounds, run_sliceBound, b1, b2, e1]
            simpa using congrArg (fun r => r.andThen fun a w' => Result.ok (Value.string (s.extract a (pos + 3))) w') b4
          have hl : (s.extract pos (pos + 3)).toList = (s.data.toList.drop pos).take 3 := by
            rw [ByteArray.toList_eq, ByteArray.data_extract]
            simp [List.extract_eq_take_drop]
          have hlit : (ByteArray.mk #[239, 191, 189]).toList = [239, 191, 189] := by rw [ByteArray.toList_eq]
          have d1 : ((s.size : Int) < (pos : Int) + 3) = False := by
            rw [eq_iff_iff]
            constructor
            · intro e
              omega
            · intro e
              exact e.elim
          by_cases ht : three s pos = true
          · have hne : (!((s.extract pos (pos + 3)).toList == (ByteArray.mk #[239, 191, 189]).toList)) = false := by
              unfold three at ht
              rw [Bool.and_eq_true] at ht
              rw [hl, hlit, ht.2]
              rfl
            have q1 : (List.take 3 (List.drop pos s.data.toList) == [239, 191, 189]) = true := by
              unfold three at ht
              rw [Bool.and_eq_true] at ht
              exact ht.2
            have h1n2 : ¬ ((Utf8.decode s pos).1 = 65533 ∧ three s pos = false) := fun e => by rw [ht] at e; cases e.2
            rw [if_neg h1n2] at hst
            go_wp2
            go_roundw
            case rel => exact ⟨_, rfl, hst.symm⟩
            case measure =>
              simp
              omega
          · have ht2 : three s pos = false := by simpa using ht
            have hne : (!((s.extract pos (pos + 3)).toList == (ByteArray.mk #[239, 191, 189]).toList)) = true := by
              unfold three at ht2
              rw [Bool.and_eq_false_iff] at ht2
              rcases ht2 with e | e
              · simp at e
                omega
              · rw [hl, hlit, e]
                rfl
            have q1 : (List.take 3 (List.drop pos s.data.toList) == [239, 191, 189]) = false := by
              rw [hl, hlit] at hne
              simpa using hne
            rw [if_pos ⟨h1n, ht2⟩] at hst
            go_wp2
            go_ret
            refine ⟨?_, _, rfl⟩
            simp only [hst]
            rfl
      · have h1n : ¬ ((Utf8.decode s pos).1 = 65533 ∧ three s pos = false) := fun e => h1 (by omega)
        rw [if_neg h1n] at hst
        go_wp2
        go_roundw
        case rel => exact ⟨_, rfl, hst.symm⟩
        case measure =>
          simp
          omega
    · have hnx : ∀ ty, (Instr.next (.pointer (some ⟨w.heap.size, 0, none⟩)) true ty).run Tryz.prog (w.iter s pos) = _ := fun ty => run_next_end w s pos ty hp
      go_wp2
      go_ret
      rw [← hc, List.drop_of_length_le (by rw [Array.length_toList]; show s.size ≤ pos; omega)]
      exact ⟨rfl, _, rfl⟩
end Go.Proofs.YtnchjdhepakokaaGreatDoorC
/- The leaves' contracts: what may be, of decimals, points, texts. -/
namespace Go.Proofs.YtnchjdhepakokaaGreatDoorC
open Go.Proofs Go.Proofs.YtnchjdhepakokaaGreatDoorSx Go.RowKit Go.Lib
set_option maxRecDepth 100000
set_option linter.unusedVariables false
set_option linter.unusedSimpArgs false
abbrev rt (x y : Int) : Bool := Go.Proofs.YtnchjdhepakokaaGreatDoorGG.rt x y
theorem pright_does (u x : Int) : Does cE 124 [] 0 [.v (dc u x)] (.v (.bool ((0 ≤ x ∧ x ≤ 6 : Prop) : Bool))) [] 0 := by
  have h := scales_does [x] (by simp)
  have e : [x].all inS = decide (0 ≤ x ∧ x ≤ 6) := by simp
  rw [e] at h
  exact prgt_1 u x _ h
theorem gright_does (x y : Int) : Does cE 126 [] 0 [.v (dc x y)] (.v (.bool (rt x y))) [] 0 := does_run (l := [dc x y]) (Go.Proofs.YtnchjdhepakokaaGreatDoorGG.Right_spec x y)
theorem rgright_does (x y : Int) : Does cE 75 [] 0 [.v (dc x y)] (.v (.bool (rt x y))) [] 0 := does_run (l := [dc x y]) (Go.Proofs.YtnchjdhepakokaaGreatDoorGG.rRight_spec x y)
theorem below_iter (w : World) (s : ByteArray) (pos : Nat) : Below w.heap.size w (w.iter s pos) :=
  (Below.refl w.heap.size w).alloc (Nat.le_refl _) (.stringIter s pos)
theorem good_does (s : ByteArray) (hs : s.size ≤ 140737488351232) : Does cE 101 [] 0 [.v (st s)] (.v (.bool (validD s.data.toList))) [] 0 :=
  does_lib (l := [st s]) (enters (fn := Tryz.f101) rfl (by kernel_rfl) rfl) (fun w hg => (good_calls s hs w).mono fun e w' hh => by
    obtain ⟨he, pos, hw⟩ := hh
    subst hw
    exact ⟨he, below_iter w s pos⟩)
end Go.Proofs.YtnchjdhepakokaaGreatDoorC
namespace Go.Proofs.YtnchjdhepakokaaGreatDoorC
open Go.Proofs Go.Proofs.YtnchjdhepakokaaGreatDoorSx Go.Lib
set_option maxRecDepth 100000
set_option linter.unusedVariables false
set_option linter.unusedSimpArgs false
theorem dbif {g : Nat} {xs : List SV} {c : Bool} {a b : Value} (h1 : c = true → Does cE g [] 0 xs (.v a) [] 0) (h0 : c = false → Does cE g [] 0 xs (.v b) [] 0) : Does cE g [] 0 xs (.v (bif c then a else b)) [] 0 := by
  cases c
  · exact h0 rfl
  · exact h1 rfl
def pOf_v (t : Int) : Value :=
  bif (t == 0) then bif (t == 2) then (.agg #[(.int .i64 (0)), (.int .i64 (0)), (.int .i64 (0)), (.string ((ByteArray.mk #[])))])
    else (.agg #[(.int .i64 (4)), (.int .i64 (t)), (.int .i64 (0)), (.string ((ByteArray.mk #[])))])
  else bif (t == 1) then bif (t == 2) then (.agg #[(.int .i64 (0)), (.int .i64 (0)), (.int .i64 (0)), (.string ((ByteArray.mk #[])))])
    else (.agg #[(.int .i64 (4)), (.int .i64 (t)), (.int .i64 (0)), (.string ((ByteArray.mk #[])))])
  else (.agg #[(.int .i64 (0)), (.int .i64 (0)), (.int .i64 (0)), (.string ((ByteArray.mk #[])))])
theorem pOf_v_does (t : Int) : Does cE 83 [] 0 [.v (it t)] (.v (pOf_v t)) [] 0 := by
  unfold pOf_v
  refine dbif (fun c1 => ?_) (fun c1 => ?_)
  · refine dbif (fun c2 => ?_) (fun c2 => ?_)
    · exact pOf_1 (t := t) (h0 := c1) (h1 := c2)
    · exact pOf_2 (t := t) (h0 := c1) (h1 := c2)
  · refine dbif (fun c3 => ?_) (fun c3 => ?_)
    · refine dbif (fun c4 => ?_) (fun c4 => ?_)
      · exact pOf_3 (t := t) (h0 := c1) (h1 := c3) (h2 := c4)
      · exact pOf_4 (t := t) (h0 := c1) (h1 := c3) (h2 := c4)
    · exact pOf_5 (t := t) (h0 := c1) (h1 := c3)
def pNot_v (a : Int) : Value :=
  bif (a == 0) then bif (a == 2) then (.int .i64 (2))
    else (.int .i64 (IntKind.i64.wrap (1 - a)))
  else bif (a == 1) then bif (a == 2) then (.int .i64 (2))
    else (.int .i64 (IntKind.i64.wrap (1 - a)))
  else (.int .i64 (2))
theorem pNot_v_does (a : Int) : Does cE 47 [] 0 [.v (it a)] (.v (pNot_v a)) [] 0 := by
  unfold pNot_v
  refine dbif (fun c1 => ?_) (fun c1 => ?_)
  · refine dbif (fun c2 => ?_) (fun c2 => ?_)
    · exact pNot_1 (a := a) (h0 := c1) (h1 := c2)
    · exact pNot_2 (a := a) (h0 := c1) (h1 := c2)
  · refine dbif (fun c3 => ?_) (fun c3 => ?_)
    · refine dbif (fun c4 => ?_) (fun c4 => ?_)
      · exact pNot_3 (a := a) (h0 := c1) (h1 := c3) (h2 := c4)
      · exact pNot_4 (a := a) (h0 := c1) (h1 := c3) (h2 := c4)
    · exact pNot_5 (a := a) (h0 := c1) (h1 := c3)
def pOr_v (a b : Int) : Value :=
  bif (a == 0) then bif (b == 0) then bif (a == 1) then (.int .i64 (1))
      else bif (b == 1) then (.int .i64 (1))
      else (.int .i64 (if b > a then b else a))
    else bif (b == 1) then bif (a == 1) then (.int .i64 (1))
      else (.int .i64 (1))
    else bif (a == 1) then (.int .i64 (1))
    else (.int .i64 (if 2 > a then 2 else a))
  else bif (a == 1) then bif (b == 0) then (.int .i64 (1))
    else bif (b == 1) then (.int .i64 (1))
    else (.int .i64 (1))
  else bif (b == 0) then bif (b == 1) then (.int .i64 (1))
    else (.int .i64 (if b > 2 then b else 2))
  else bif (b == 1) then (.int .i64 (1))
  else (.int .i64 (if 2 > 2 then 2 else 2))
theorem pOr_v_does (a b : Int) : Does cE 46 [] 0 [.v (it a), .v (it b)] (.v (pOr_v a b)) [] 0 := by
  unfold pOr_v
  refine dbif (fun c1 => ?_) (fun c1 => ?_)
  · refine dbif (fun c2 => ?_) (fun c2 => ?_)
    · refine dbif (fun c3 => ?_) (fun c3 => ?_)
      · exact pOr_1 (a := a) (b := b) (h0 := c1) (h1 := c2) (h2 := c3)
      · refine dbif (fun c4 => ?_) (fun c4 => ?_)
        · exact pOr_2 (a := a) (b := b) (h0 := c1) (h1 := c2) (h2 := c3) (h3 := c4)
        · exact pOr_3 (a := a) (b := b) (h0 := c1) (h1 := c2) (h2 := c3) (h3 := c4)
    · refine dbif (fun c5 => ?_) (fun c5 => ?_)
      · refine dbif (fun c6 => ?_) (fun c6 => ?_)
        · exact pOr_4 (a := a) (b := b) (h0 := c1) (h1 := c2) (h2 := c5) (h3 := c6)
        · exact pOr_5 (a := a) (b := b) (h0 := c1) (h1 := c2) (h2 := c5) (h3 := c6)
      · refine dbif (fun c7 => ?_) (fun c7 => ?_)
        · exact pOr_6 (a := a) (b := b) (h0 := c1) (h1 := c2) (h2 := c5) (h3 := c7)
        · exact pOr_7 (a := a) (b := b) (h0 := c1) (h1 := c2) (h2 := c5) (h3 := c7)
  · refine dbif (fun c8 => ?_) (fun c8 => ?_)
    · refine dbif (fun c9 => ?_) (fun c9 => ?_)
      · exact pOr_8 (a := a) (b := b) (h0 := c1) (h1 := c8) (h2 := c9)
      · refine dbif (fun c10 => ?_) (fun c10 => ?_)
        · exact pOr_9 (a := a) (b := b) (h0 := c1) (h1 := c8) (h2 := c9) (h3 := c10)
        · exact pOr_10 (a := a) (b := b) (h0 := c1) (h1 := c8) (h2 := c9) (h3 := c10)
    · refine dbif (fun c11 => ?_) (fun c11 => ?_)
      · refine dbif (fun c12 => ?_) (fun c12 => ?_)
        · exact pOr_11 (a := a) (b := b) (h0 := c1) (h1 := c8) (h2 := c11) (h3 := c12)
        · exact pOr_12 (a := a) (b := b) (h0 := c1) (h1 := c8) (h2 := c11) (h3 := c12)
      · refine dbif (fun c13 => ?_) (fun c13 => ?_)
        · exact pOr_13 (a := a) (b := b) (h0 := c1) (h1 := c8) (h2 := c11) (h3 := c13)
        · exact pOr_14 (a := a) (b := b) (h0 := c1) (h1 := c8) (h2 := c11) (h3 := c13)
def rOf_v (t : Int) : Value :=
  bif (t == 0) then (.agg #[(.int .i64 (4)), (.int .i64 (t)), (.int .i64 (0)), (.string ((ByteArray.mk #[])))])
  else bif (t == 1) then (.agg #[(.int .i64 (4)), (.int .i64 (t)), (.int .i64 (0)), (.string ((ByteArray.mk #[])))])
  else (.agg #[(.int .i64 (0)), (.int .i64 (0)), (.int .i64 (0)), (.string ((ByteArray.mk #[])))])
theorem rOf_v_does (t : Int) : Does cE 85 [] 0 [.v (it t)] (.v (rOf_v t)) [] 0 := by
  unfold rOf_v
  refine dbif (fun c1 => ?_) (fun c1 => ?_)
  · exact rOf_1 (t := t) (h0 := c1)
  · refine dbif (fun c2 => ?_) (fun c2 => ?_)
    · exact rOf_2 (t := t) (h0 := c1) (h1 := c2)
    · exact rOf_3 (t := t) (h0 := c1) (h1 := c2)
def rNot_v (a : Int) : Value :=
  bif (a == 0) then (.int .i64 (IntKind.i64.wrap (1 - a)))
  else bif (a == 1) then (.int .i64 (IntKind.i64.wrap (1 - a)))
  else (.int .i64 (2))
theorem rNot_v_does (a : Int) : Does cE 87 [] 0 [.v (it a)] (.v (rNot_v a)) [] 0 := by
  unfold rNot_v
  refine dbif (fun c1 => ?_) (fun c1 => ?_)
  · exact rNot_1 (a := a) (h0 := c1)
  · refine dbif (fun c2 => ?_) (fun c2 => ?_)
    · exact rNot_2 (a := a) (h0 := c1) (h1 := c2)
    · exact rNot_3 (a := a) (h0 := c1) (h1 := c2)
def rOr_v (a b : Int) : Value :=
  bif (a == 1) then (.int .i64 (1))
  else bif (b == 1) then (.int .i64 (1))
  else bif (a == 0) then bif (b == 0) then (.int .i64 (0))
    else (.int .i64 (2))
  else (.int .i64 (2))
theorem rOr_v_does (a b : Int) : Does cE 96 [] 0 [.v (it a), .v (it b)] (.v (rOr_v a b)) [] 0 := by
  unfold rOr_v
  refine dbif (fun c1 => ?_) (fun c1 => ?_)
  · exact rOr_1 (a := a) (b := b) (h0 := c1)
  · refine dbif (fun c2 => ?_) (fun c2 => ?_)
    · exact rOr_2 (a := a) (b := b) (h0 := c1) (h1 := c2)
    · refine dbif (fun c3 => ?_) (fun c3 => ?_)
      · refine dbif (fun c4 => ?_) (fun c4 => ?_)
        · exact rOr_3 (a := a) (b := b) (h0 := c1) (h1 := c2) (h2 := c3) (h3 := c4)
        · exact rOr_4 (a := a) (b := b) (h0 := c1) (h1 := c2) (h2 := c3) (h3 := c4)
      · exact rOr_5 (a := a) (b := b) (h0 := c1) (h1 := c2) (h2 := c3)
def rAnd_v (a b : Int) : Value :=
  bif (a == 0) then (.int .i64 (0))
  else bif (b == 0) then (.int .i64 (0))
  else bif (a == 1) then bif (b == 1) then (.int .i64 (1))
    else (.int .i64 (2))
  else (.int .i64 (2))
theorem rAnd_v_does (a b : Int) : Does cE 95 [] 0 [.v (it a), .v (it b)] (.v (rAnd_v a b)) [] 0 := by
  unfold rAnd_v
  refine dbif (fun c1 => ?_) (fun c1 => ?_)
  · exact rAnd_1 (a := a) (b := b) (h0 := c1)
  · refine dbif (fun c2 => ?_) (fun c2 => ?_)
    · exact rAnd_2 (a := a) (b := b) (h0 := c1) (h1 := c2)
    · refine dbif (fun c3 => ?_) (fun c3 => ?_)
      · refine dbif (fun c4 => ?_) (fun c4 => ?_)
        · exact rAnd_3 (a := a) (b := b) (h0 := c1) (h1 := c2) (h2 := c3) (h3 := c4)
        · exact rAnd_4 (a := a) (b := b) (h0 := c1) (h1 := c2) (h2 := c3) (h3 := c4)
      · exact rAnd_5 (a := a) (b := b) (h0 := c1) (h1 := c2) (h2 := c3)
def rSa_v (k n m j p q : Int) (s u : ByteArray) : Value :=
  bif (k == j) then bif (n == p) then bif (m == q) then (.bool (s.toList == u.toList))
      else (.bool (false))
    else (.bool (false))
  else (.bool (false))
theorem rSa_v_does (k n m j p q : Int) (s u : ByteArray) : Does cE 19 [] 0 [.v (vl k n m s), .v (vl j p q u)] (.v (rSa_v k n m j p q s u)) [] 0 := by
  unfold rSa_v
  refine dbif (fun c1 => ?_) (fun c1 => ?_)
  · refine dbif (fun c2 => ?_) (fun c2 => ?_)
    · refine dbif (fun c3 => ?_) (fun c3 => ?_)
      · exact rSa_1 (k := k) (n := n) (m := m) (j := j) (p := p) (q := q) (s := s) (u := u) (h0 := c1) (h1 := c2) (h2 := c3)
      · exact rSa_2 (k := k) (n := n) (m := m) (j := j) (p := p) (q := q) (s := s) (u := u) (h0 := c1) (h1 := c2) (h2 := c3)
    · exact rSa_3 (k := k) (n := n) (m := m) (j := j) (p := p) (q := q) (s := s) (u := u) (h0 := c1) (h1 := c2)
  · exact rSa_4 (k := k) (n := n) (m := m) (j := j) (p := p) (q := q) (s := s) (u := u) (h0 := c1)
end Go.Proofs.YtnchjdhepakokaaGreatDoorC
/- Truth of three kinds, values of it, in plain words: program and reference come to the same. -/
namespace Go.Proofs.YtnchjdhepakokaaGreatDoorC
open Go.Proofs Go.Proofs.YtnchjdhepakokaaGreatDoorSx Go.Lib
set_option maxRecDepth 100000
set_option linter.unusedVariables false
set_option linter.unusedSimpArgs false
abbrev bE : ByteArray := ByteArray.mk #[]
abbrev ofK (t : Int) : Int := if t = 0 ∨ t = 1 then 4 else 0
abbrev ofN (t : Int) : Int := if t = 0 ∨ t = 1 then t else 0
abbrev notV (a : Int) : Int := if a = 0 ∨ a = 1 then 1 - a else 2
abbrev orV (a b : Int) : Int := if a = 1 ∨ b = 1 then 1 else if a = 0 ∧ b = 0 then 0 else 2
abbrev andV (a b : Int) : Int := if a = 0 ∨ b = 0 then 0 else if a = 1 ∧ b = 1 then 1 else 2
theorem three_cases (a : Int) : a = 0 ∨ a = 1 ∨ (¬ a = 0 ∧ ¬ a = 1 ∧ (a == 0) = false ∧ (a == 1) = false) := by
  by_cases h0 : a = 0
  · exact .inl h0
  · by_cases h1 : a = 1
    · exact .inr (.inl h1)
    · exact .inr (.inr ⟨h0, h1, by simpa using h0, by simpa using h1⟩)
theorem of_does (t : Int) : Does cE 83 [] 0 [.v (it t)] (.v (vl (ofK t) (ofN t) 0 bE)) [] 0 := by
  have h := pOf_v_does t
  have e : pOf_v t = vl (ofK t) (ofN t) 0 bE := by
    unfold pOf_v
    rcases three_cases t with rfl | rfl | ⟨h0, h1, e0, e1⟩
    · rfl
    · rfl
    · rw [e0, e1]
      simp [ofK, ofN, h0, h1]
  rw [e] at h
  exact h
theorem rof4_does (t : Int) : Does cE 85 [] 0 [.v (it t)] (.v (vl (ofK t) (ofN t) 0 bE)) [] 0 := by
  have h := rOf_v_does t
  have e : rOf_v t = vl (ofK t) (ofN t) 0 bE := by
    unfold rOf_v
    rcases three_cases t with rfl | rfl | ⟨h0, h1, e0, e1⟩
    · rfl
    · rfl
    · rw [e0, e1]
      simp [ofK, ofN, h0, h1]
  rw [e] at h
  exact h
theorem not_does (a : Int) : Does cE 47 [] 0 [.v (it a)] (.v (it (notV a))) [] 0 := by
  have h := pNot_v_does a
  have e : pNot_v a = it (notV a) := by
    unfold pNot_v
    rcases three_cases a with rfl | rfl | ⟨h0, h1, e0, e1⟩
    · rfl
    · rfl
    · rw [e0, e1]
      simp [notV, h0, h1]
  rw [e] at h
  exact h
theorem rnot_does (a : Int) : Does cE 87 [] 0 [.v (it a)] (.v (it (notV a))) [] 0 := by
  have h := rNot_v_does a
  have e : rNot_v a = it (notV a) := by
    unfold rNot_v
    rcases three_cases a with rfl | rfl | ⟨h0, h1, e0, e1⟩
    · rfl
    · rfl
    · rw [e0, e1]
      simp [notV, h0, h1]
  rw [e] at h
  exact h
theorem or3_does (a b : Int) : Does cE 46 [] 0 [.v (it a), .v (it b)] (.v (it (orV a b))) [] 0 := by
  have h := pOr_v_does a b
  have e : pOr_v a b = it (orV a b) := by
    unfold pOr_v
    rcases three_cases a with rfl | rfl | ⟨h0, h1, e0, e1⟩ <;> rcases three_cases b with rfl | rfl | ⟨k0, k1, f0, f1⟩ <;> first | rfl | simp [orV, *]
  rw [e] at h
  exact h
theorem ror_does (a b : Int) : Does cE 96 [] 0 [.v (it a), .v (it b)] (.v (it (orV a b))) [] 0 := by
  have h := rOr_v_does a b
  have e : rOr_v a b = it (orV a b) := by
    unfold rOr_v
    rcases three_cases a with rfl | rfl | ⟨h0, h1, e0, e1⟩ <;> rcases three_cases b with rfl | rfl | ⟨k0, k1, f0, f1⟩ <;> first | rfl | simp [orV, *]
  rw [e] at h
  exact h
theorem rand_does (a b : Int) : Does cE 95 [] 0 [.v (it a), .v (it b)] (.v (it (andV a b))) [] 0 := by
  have h := rAnd_v_does a b
  have e : rAnd_v a b = it (andV a b) := by
    unfold rAnd_v
    rcases three_cases a with rfl | rfl | ⟨h0, h1, e0, e1⟩ <;> rcases three_cases b with rfl | rfl | ⟨k0, k1, f0, f1⟩ <;> first | rfl | simp [andV, *]
  rw [e] at h
  exact h
theorem and3_does (a b : Int) : Does cE 45 [] 0 [.v (it a), .v (it b)] (.v (it (andV a b))) [] 0 := by
  have h := pAnd_1 (a := a) (b := b) (h0 := not_does a) (h1 := not_does b) (h2 := or3_does _ _) (h3 := not_does _)
  have e : notV (orV (notV a) (notV b)) = andV a b := by
    rcases three_cases a with rfl | rfl | ⟨h0, h1, e0, e1⟩ <;> rcases three_cases b with rfl | rfl | ⟨k0, k1, f0, f1⟩ <;> first | rfl | simp [andV, orV, notV, *]
  rw [e] at h
  exact h
end Go.Proofs.YtnchjdhepakokaaGreatDoorC
namespace Go.Proofs.YtnchjdhepakokaaGreatDoorC
open Go.Proofs Go.Proofs.YtnchjdhepakokaaGreatDoorSx Go.Lib
set_option maxRecDepth 100000
set_option linter.unusedVariables false
set_option linter.unusedSimpArgs false
def pRt_v (k n m : Int) (s : ByteArray) : Value :=
  bif (k == 0) then (.bool (k == 0 && (n == 0 && (m == 0 && (s == (ByteArray.mk #[]) && true)))))
  else bif (k == 1) then (.bool (k == 1 && (n == n && (m == 0 && (s == (ByteArray.mk #[]) && true)))))
  else bif (k == 2) then bif (s.toList == (ByteArray.mk #[]).toList) then (.bool ((decide (0 ≤ m ∧ m ≤ 6))))
    else (.bool (false))
  else bif (k == 3) then bif (k == 3 && (n == 0 && (m == 0 && (s == s && true)))) then bif (decide ((s.size : Int) ≤ 256)) then (.bool ((validD s.data.toList)))
      else (.bool (false))
    else (.bool (false))
  else bif (k == 4) then bif (k == (ofK 0) && (n == (ofN 0) && (m == 0 && (s == bE && true)))) then (.bool (true))
    else (.bool (k == (ofK 1) && (n == (ofN 1) && (m == 0 && (s == bE && true)))))
  else bif (k == 5) then bif (s.toList == (ByteArray.mk #[]).toList) then (.bool ((rt n m)))
    else (.bool (false))
  else (.bool (false))
theorem pRt_v_does (k n m : Int) (s : ByteArray) (hs : s.size ≤ 140737488351232) : Does cE 49 [] 0 [.v (vl k n m s)] (.v (pRt_v k n m s)) [] 0 := by
  unfold pRt_v
  refine dbif (fun c1 => ?_) (fun c1 => ?_)
  · exact pRt_1 (k := k) (n := n) (m := m) (s := s) (h0 := c1)
  · refine dbif (fun c2 => ?_) (fun c2 => ?_)
    · exact pRt_2 (k := k) (n := n) (m := m) (s := s) (h0 := c1) (h1 := c2)
    · refine dbif (fun c3 => ?_) (fun c3 => ?_)
      · refine dbif (fun c4 => ?_) (fun c4 => ?_)
        · exact pRt_3 (k := k) (n := n) (m := m) (s := s) (h0 := c1) (h1 := c2) (h2 := c3) (h3 := c4) (h4 := pright_does n m)
        · exact pRt_4 (k := k) (n := n) (m := m) (s := s) (h0 := c1) (h1 := c2) (h2 := c3) (h3 := c4)
      · refine dbif (fun c5 => ?_) (fun c5 => ?_)
        · refine dbif (fun c6 => ?_) (fun c6 => ?_)
          · refine dbif (fun c7 => ?_) (fun c7 => ?_)
            · exact pRt_5 (k := k) (n := n) (m := m) (s := s) (h0 := c1) (h1 := c2) (h2 := c3) (h3 := c5) (h4 := c6) (h5 := c7) (h6 := vstr_does s hs)
            · exact pRt_6 (k := k) (n := n) (m := m) (s := s) (h0 := c1) (h1 := c2) (h2 := c3) (h3 := c5) (h4 := c6) (h5 := c7)
          · exact pRt_7 (k := k) (n := n) (m := m) (s := s) (h0 := c1) (h1 := c2) (h2 := c3) (h3 := c5) (h4 := c6)
        · refine dbif (fun c8 => ?_) (fun c8 => ?_)
          · refine dbif (fun c9 => ?_) (fun c9 => ?_)
            · exact pRt_8 (k := k) (n := n) (m := m) (s := s) (h0 := c1) (h1 := c2) (h2 := c3) (h3 := c5) (h4 := c8) (h5 := of_does 0) (h6 := c9)
            · exact pRt_9 (k := k) (n := n) (m := m) (s := s) (h0 := c1) (h1 := c2) (h2 := c3) (h3 := c5) (h4 := c8) (h5 := of_does 0) (h6 := c9) (h7 := of_does 1)
          · refine dbif (fun c10 => ?_) (fun c10 => ?_)
            · refine dbif (fun c11 => ?_) (fun c11 => ?_)
              · exact pRt_10 (k := k) (n := n) (m := m) (s := s) (h0 := c1) (h1 := c2) (h2 := c3) (h3 := c5) (h4 := c8) (h5 := c10) (h6 := c11) (h7 := gright_does n m)
              · exact pRt_11 (k := k) (n := n) (m := m) (s := s) (h0 := c1) (h1 := c2) (h2 := c3) (h3 := c5) (h4 := c8) (h5 := c10) (h6 := c11)
            · exact pRt_12 (k := k) (n := n) (m := m) (s := s) (h0 := c1) (h1 := c2) (h2 := c3) (h3 := c5) (h4 := c8) (h5 := c10)
def rRt_v (k n m : Int) (s : ByteArray) : Value :=
  bif (k == 0) then bif (n == 0) then bif (m == 0) then (.bool (s.toList == (ByteArray.mk #[]).toList))
      else (.bool (false))
    else (.bool (false))
  else bif (k == 1) then bif (m == 0) then (.bool (s.toList == (ByteArray.mk #[]).toList))
    else (.bool (false))
  else bif (k == 2) then bif (decide (m ≥ 0)) then bif (decide (m ≤ 6)) then (.bool (s.toList == (ByteArray.mk #[]).toList))
      else (.bool (false))
    else (.bool (false))
  else bif (k == 3) then bif (n == 0) then bif (m == 0) then bif (decide ((s.size : Int) ≤ 256)) then (.bool ((validD s.data.toList)))
        else (.bool (false))
      else (.bool (false))
    else (.bool (false))
  else bif (k == 4) then bif (n == 0) then bif (m == 0) then (.bool (s.toList == (ByteArray.mk #[]).toList))
      else (.bool (false))
    else bif (n == 1) then bif (m == 0) then (.bool (s.toList == (ByteArray.mk #[]).toList))
      else (.bool (false))
    else (.bool (false))
  else bif (k == 5) then bif (rt n m) then (.bool (s.toList == (ByteArray.mk #[]).toList))
    else (.bool (false))
  else (.bool (false))
theorem rRt_v_does (k n m : Int) (s : ByteArray) (hs : s.size ≤ 140737488351232) : Does cE 27 [] 0 [.v (vl k n m s)] (.v (rRt_v k n m s)) [] 0 := by
  unfold rRt_v
  refine dbif (fun c1 => ?_) (fun c1 => ?_)
  · refine dbif (fun c2 => ?_) (fun c2 => ?_)
    · refine dbif (fun c3 => ?_) (fun c3 => ?_)
      · exact rRt_1 (k := k) (n := n) (m := m) (s := s) (h0 := c1) (h1 := c2) (h2 := c3)
      · exact rRt_2 (k := k) (n := n) (m := m) (s := s) (h0 := c1) (h1 := c2) (h2 := c3)
    · exact rRt_3 (k := k) (n := n) (m := m) (s := s) (h0 := c1) (h1 := c2)
  · refine dbif (fun c4 => ?_) (fun c4 => ?_)
    · refine dbif (fun c5 => ?_) (fun c5 => ?_)
      · exact rRt_4 (k := k) (n := n) (m := m) (s := s) (h0 := c1) (h1 := c4) (h2 := c5)
      · exact rRt_5 (k := k) (n := n) (m := m) (s := s) (h0 := c1) (h1 := c4) (h2 := c5)
    · refine dbif (fun c6 => ?_) (fun c6 => ?_)
      · refine dbif (fun c7 => ?_) (fun c7 => ?_)
        · refine dbif (fun c8 => ?_) (fun c8 => ?_)
          · exact rRt_6 (k := k) (n := n) (m := m) (s := s) (h0 := c1) (h1 := c4) (h2 := c6) (h3 := c7) (h4 := c8)
          · exact rRt_7 (k := k) (n := n) (m := m) (s := s) (h0 := c1) (h1 := c4) (h2 := c6) (h3 := c7) (h4 := c8)
        · exact rRt_8 (k := k) (n := n) (m := m) (s := s) (h0 := c1) (h1 := c4) (h2 := c6) (h3 := c7)
      · refine dbif (fun c9 => ?_) (fun c9 => ?_)
        · refine dbif (fun c10 => ?_) (fun c10 => ?_)
          · refine dbif (fun c11 => ?_) (fun c11 => ?_)
            · refine dbif (fun c12 => ?_) (fun c12 => ?_)
              · exact rRt_9 (k := k) (n := n) (m := m) (s := s) (h0 := c1) (h1 := c4) (h2 := c6) (h3 := c9) (h4 := c10) (h5 := c11) (h6 := c12) (h7 := good_does s hs)
              · exact rRt_10 (k := k) (n := n) (m := m) (s := s) (h0 := c1) (h1 := c4) (h2 := c6) (h3 := c9) (h4 := c10) (h5 := c11) (h6 := c12)
            · exact rRt_11 (k := k) (n := n) (m := m) (s := s) (h0 := c1) (h1 := c4) (h2 := c6) (h3 := c9) (h4 := c10) (h5 := c11)
          · exact rRt_12 (k := k) (n := n) (m := m) (s := s) (h0 := c1) (h1 := c4) (h2 := c6) (h3 := c9) (h4 := c10)
        · refine dbif (fun c13 => ?_) (fun c13 => ?_)
          · refine dbif (fun c14 => ?_) (fun c14 => ?_)
            · refine dbif (fun c15 => ?_) (fun c15 => ?_)
              · exact rRt_13 (k := k) (n := n) (m := m) (s := s) (h0 := c1) (h1 := c4) (h2 := c6) (h3 := c9) (h4 := c13) (h5 := c14) (h6 := c15)
              · exact rRt_14 (k := k) (n := n) (m := m) (s := s) (h0 := c1) (h1 := c4) (h2 := c6) (h3 := c9) (h4 := c13) (h5 := c14) (h6 := c15)
            · refine dbif (fun c16 => ?_) (fun c16 => ?_)
              · refine dbif (fun c17 => ?_) (fun c17 => ?_)
                · exact rRt_15 (k := k) (n := n) (m := m) (s := s) (h0 := c1) (h1 := c4) (h2 := c6) (h3 := c9) (h4 := c13) (h5 := c14) (h6 := c16) (h7 := c17)
                · exact rRt_16 (k := k) (n := n) (m := m) (s := s) (h0 := c1) (h1 := c4) (h2 := c6) (h3 := c9) (h4 := c13) (h5 := c14) (h6 := c16) (h7 := c17)
              · exact rRt_17 (k := k) (n := n) (m := m) (s := s) (h0 := c1) (h1 := c4) (h2 := c6) (h3 := c9) (h4 := c13) (h5 := c14) (h6 := c16)
          · refine dbif (fun c18 => ?_) (fun c18 => ?_)
            · refine dbif (fun c19 => ?_) (fun c19 => ?_)
              · exact rRt_18 (k := k) (n := n) (m := m) (s := s) (h0 := c1) (h1 := c4) (h2 := c6) (h3 := c9) (h4 := c13) (h5 := c18) (h6 := rgright_does n m) (h7 := c19)
              · exact rRt_19 (k := k) (n := n) (m := m) (s := s) (h0 := c1) (h1 := c4) (h2 := c6) (h3 := c9) (h4 := c13) (h5 := c18) (h6 := rgright_does n m) (h7 := c19)
            · exact rRt_20 (k := k) (n := n) (m := m) (s := s) (h0 := c1) (h1 := c4) (h2 := c6) (h3 := c9) (h4 := c13) (h5 := c18)
end Go.Proofs.YtnchjdhepakokaaGreatDoorC
