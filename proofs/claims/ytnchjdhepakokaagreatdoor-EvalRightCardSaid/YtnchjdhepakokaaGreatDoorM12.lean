import Derived.Test.YtnchjdhepakokaaGreatDoorM05
import Derived.Test.YtnchjdhepakokaaGreatDoorM11
/- Each path of each function: on which conditions it is taken, what it gives. Printed by a program (wip/tools/sxexp2.lean); Lean checks each. -/
namespace Go.Proofs.YtnchjdhepakokaaGreatDoorC
open Go.Proofs Go.Proofs.YtnchjdhepakokaaGreatDoorSx
set_option maxRecDepth 100000
set_option linter.unusedVariables false

theorem pNg_1 (k n m : Int) (s : ByteArray) (h0 : (k == 0) = true) : Does cE 84 [] 0 [.v (vl k n m s)] (.v (.tuple #[(.agg #[(.int .i64 (k)), (.int .i64 (n)), (.int .i64 (m)), (.string (s))]), (.int .i64 (0))])) [] 0 :=
  does_path (ct := ct) ctOk mixed (fn := Tryz.f84) rfl (by kernel_rfl) 2000 [.t] (by kernel_rfl) (cj h0 cj0)
theorem pNg_2 (k n m : Int) (s : ByteArray) (i0 : Int) (i1 : Int) (i2 : Int) (h0 : (k == 0) = false) (h1 : (k == 1) = true) (h2 : Does cE 160 [] 0 [.v (.agg #[(.int .i64 (n)), (.int .i64 (m))])] (.v (.tuple #[(.agg #[(.int .i64 (i0)), (.int .i64 (i1))]), (.int .i64 (i2))])) [] 0) (h3 : (i2 != 0) = true) : Does cE 84 [] 0 [.v (vl k n m s)] (.v (.tuple #[(.agg #[(.int .i64 (0)), (.int .i64 (0)), (.int .i64 (0)), (.string ((ByteArray.mk #[])))]), (.int .i64 (i2))])) [] 0 :=
  does_path (ct := ct) ctOk mixed (fn := Tryz.f84) rfl (by kernel_rfl) 2000 [.f, .t, .e, .c (.v (.tuple #[(.agg #[(.int .i64 (i0)), (.int .i64 (i1))]), (.int .i64 (i2))])) [] 0, .e, .t] (by kernel_rfl) (cj h0 (cj h1 (cj h2 (cj h3 cj0))))
theorem pNg_3 (k n m : Int) (s : ByteArray) (i0 : Int) (i1 : Int) (i2 : Int) (h0 : (k == 0) = false) (h1 : (k == 1) = true) (h2 : Does cE 160 [] 0 [.v (.agg #[(.int .i64 (n)), (.int .i64 (m))])] (.v (.tuple #[(.agg #[(.int .i64 (i0)), (.int .i64 (i1))]), (.int .i64 (i2))])) [] 0) (h3 : (i2 != 0) = false) : Does cE 84 [] 0 [.v (vl k n m s)] (.v (.tuple #[(.agg #[(.int .i64 (1)), (.int .i64 (i0)), (.int .i64 (0)), (.string ((ByteArray.mk #[])))]), (.int .i64 (0))])) [] 0 :=
  does_path (ct := ct) ctOk mixed (fn := Tryz.f84) rfl (by kernel_rfl) 2000 [.f, .t, .e, .c (.v (.tuple #[(.agg #[(.int .i64 (i0)), (.int .i64 (i1))]), (.int .i64 (i2))])) [] 0, .e, .f] (by kernel_rfl) (cj h0 (cj h1 (cj h2 (cj h3 cj0))))
theorem pNg_4 (k n m : Int) (s : ByteArray) (i0 : Int) (i1 : Int) (i2 : Int) (h0 : (k == 0) = false) (h1 : (k == 1) = false) (h2 : (k == 2) = true) (h3 : Does cE 160 [] 0 [.v (.agg #[(.int .i64 (n)), (.int .i64 (m))])] (.v (.tuple #[(.agg #[(.int .i64 (i0)), (.int .i64 (i1))]), (.int .i64 (i2))])) [] 0) (h4 : (i2 != 0) = true) : Does cE 84 [] 0 [.v (vl k n m s)] (.v (.tuple #[(.agg #[(.int .i64 (0)), (.int .i64 (0)), (.int .i64 (0)), (.string ((ByteArray.mk #[])))]), (.int .i64 (i2))])) [] 0 :=
  does_path (ct := ct) ctOk mixed (fn := Tryz.f84) rfl (by kernel_rfl) 2000 [.f, .f, .t, .e, .c (.v (.tuple #[(.agg #[(.int .i64 (i0)), (.int .i64 (i1))]), (.int .i64 (i2))])) [] 0, .e, .t] (by kernel_rfl) (cj h0 (cj h1 (cj h2 (cj h3 (cj h4 cj0)))))
theorem pNg_5 (k n m : Int) (s : ByteArray) (i0 : Int) (i1 : Int) (i2 : Int) (h0 : (k == 0) = false) (h1 : (k == 1) = false) (h2 : (k == 2) = true) (h3 : Does cE 160 [] 0 [.v (.agg #[(.int .i64 (n)), (.int .i64 (m))])] (.v (.tuple #[(.agg #[(.int .i64 (i0)), (.int .i64 (i1))]), (.int .i64 (i2))])) [] 0) (h4 : (i2 != 0) = false) : Does cE 84 [] 0 [.v (vl k n m s)] (.v (.tuple #[(.agg #[(.int .i64 (2)), (.int .i64 (i0)), (.int .i64 (i1)), (.string ((ByteArray.mk #[])))]), (.int .i64 (0))])) [] 0 :=
  does_path (ct := ct) ctOk mixed (fn := Tryz.f84) rfl (by kernel_rfl) 2000 [.f, .f, .t, .e, .c (.v (.tuple #[(.agg #[(.int .i64 (i0)), (.int .i64 (i1))]), (.int .i64 (i2))])) [] 0, .e, .f] (by kernel_rfl) (cj h0 (cj h1 (cj h2 (cj h3 (cj h4 cj0)))))
theorem pNg_6 (k n m : Int) (s : ByteArray) (i0 : Int) (i1 : Int) (h0 : (k == 0) = false) (h1 : (k == 1) = false) (h2 : (k == 2) = false) (h3 : (k == 5) = true) (h4 : Does cE 161 [] 0 [.v (.agg #[(.int .i64 (n)), (.int .i64 (m))]), .v (.int .i64 (2))] (.v (.agg #[(.int .i64 (i0)), (.int .i64 (i1))])) [] 0) : Does cE 84 [] 0 [.v (vl k n m s)] (.v (.tuple #[(.agg #[(.int .i64 (5)), (.int .i64 (i0)), (.int .i64 (i1)), (.string ((ByteArray.mk #[])))]), (.int .i64 (0))])) [] 0 :=
  does_path (ct := ct) ctOk mixed (fn := Tryz.f84) rfl (by kernel_rfl) 2000 [.f, .f, .f, .t, .e, .c (.v (.agg #[(.int .i64 (i0)), (.int .i64 (i1))])) [] 0, .e, .l] (by kernel_rfl) (cj h0 (cj h1 (cj h2 (cj h3 (cj h4 cj0)))))
theorem pNg_7 (k n m : Int) (s : ByteArray) (h0 : (k == 0) = false) (h1 : (k == 1) = false) (h2 : (k == 2) = false) (h3 : (k == 5) = false) : Does cE 84 [] 0 [.v (vl k n m s)] (.v (.tuple #[(.agg #[(.int .i64 (0)), (.int .i64 (0)), (.int .i64 (0)), (.string ((ByteArray.mk #[])))]), (.int .i64 (31))])) [] 0 :=
  does_path (ct := ct) ctOk mixed (fn := Tryz.f84) rfl (by kernel_rfl) 2000 [.f, .f, .f, .f] (by kernel_rfl) (cj h0 (cj h1 (cj h2 (cj h3 cj0))))
theorem pUn_1 (op k n m : Int) (s : ByteArray) (b0 : Bool) (h0 : Does cE 49 [] 0 [.v (.agg #[(.int .i64 (k)), (.int .i64 (n)), (.int .i64 (m)), (.string (s))])] (.v (.bool (b0))) [] 0) (h1 : (!b0) = true) : Does cE 23 [] 0 [.v (it op), .v (vl k n m s)] (.v (.tuple #[(.agg #[(.int .i64 (0)), (.int .i64 (0)), (.int .i64 (0)), (.string ((ByteArray.mk #[])))]), (.int .i64 (1))])) [] 0 :=
  does_path (ct := ct) ctOk mixed (fn := Tryz.f23) rfl (by kernel_rfl) 2000 [.c (.v (.bool (b0))) [] 0, .t] (by kernel_rfl) (cj h0 (cj h1 cj0))
theorem pUn_2 (op k n m : Int) (s : ByteArray) (b0 : Bool) (i1 : Int) (i2 : Int) (i3 : Int) (s4 : ByteArray) (h0 : Does cE 49 [] 0 [.v (.agg #[(.int .i64 (k)), (.int .i64 (n)), (.int .i64 (m)), (.string (s))])] (.v (.bool (b0))) [] 0) (h1 : (!b0) = false) (h2 : (op == 5) = true) (h3 : (k == 0 && (n == 0 && (m == 0 && (s == (ByteArray.mk #[]) && true)))) = true) (h4 : Does cE 83 [] 0 [.v (.int .i64 (1))] (.v (.agg #[(.int .i64 (i1)), (.int .i64 (i2)), (.int .i64 (i3)), (.string (s4))])) [] 0) : Does cE 23 [] 0 [.v (it op), .v (vl k n m s)] (.v (.tuple #[(.agg #[(.int .i64 (i1)), (.int .i64 (i2)), (.int .i64 (i3)), (.string (s4))]), (.int .i64 (0))])) [] 0 :=
  does_path (ct := ct) ctOk mixed (fn := Tryz.f23) rfl (by kernel_rfl) 2000 [.c (.v (.bool (b0))) [] 0, .f, .t, .e, .e, .t, .c (.v (.agg #[(.int .i64 (i1)), (.int .i64 (i2)), (.int .i64 (i3)), (.string (s4))])) [] 0] (by kernel_rfl) (cj h0 (cj h1 (cj h2 (cj h3 (cj h4 cj0)))))
theorem pUn_3 (op k n m : Int) (s : ByteArray) (b0 : Bool) (i1 : Int) (i2 : Int) (i3 : Int) (s4 : ByteArray) (h0 : Does cE 49 [] 0 [.v (.agg #[(.int .i64 (k)), (.int .i64 (n)), (.int .i64 (m)), (.string (s))])] (.v (.bool (b0))) [] 0) (h1 : (!b0) = false) (h2 : (op == 5) = true) (h3 : (k == 0 && (n == 0 && (m == 0 && (s == (ByteArray.mk #[]) && true)))) = false) (h4 : Does cE 83 [] 0 [.v (.int .i64 (0))] (.v (.agg #[(.int .i64 (i1)), (.int .i64 (i2)), (.int .i64 (i3)), (.string (s4))])) [] 0) : Does cE 23 [] 0 [.v (it op), .v (vl k n m s)] (.v (.tuple #[(.agg #[(.int .i64 (i1)), (.int .i64 (i2)), (.int .i64 (i3)), (.string (s4))]), (.int .i64 (0))])) [] 0 :=
  does_path (ct := ct) ctOk mixed (fn := Tryz.f23) rfl (by kernel_rfl) 2000 [.c (.v (.bool (b0))) [] 0, .f, .t, .e, .e, .f, .c (.v (.agg #[(.int .i64 (i1)), (.int .i64 (i2)), (.int .i64 (i3)), (.string (s4))])) [] 0] (by kernel_rfl) (cj h0 (cj h1 (cj h2 (cj h3 (cj h4 cj0)))))
theorem pUn_4 (op k n m : Int) (s : ByteArray) (b0 : Bool) (i1 : Int) (b2 : Bool) (h0 : Does cE 49 [] 0 [.v (.agg #[(.int .i64 (k)), (.int .i64 (n)), (.int .i64 (m)), (.string (s))])] (.v (.bool (b0))) [] 0) (h1 : (!b0) = false) (h2 : (op == 5) = false) (h3 : (op == 4) = true) (h4 : Does cE 82 [] 0 [.v (.agg #[(.int .i64 (k)), (.int .i64 (n)), (.int .i64 (m)), (.string (s))])] (.v (.tuple #[(.int .i64 (i1)), (.bool (b2))])) [] 0) (h5 : (!b2) = true) : Does cE 23 [] 0 [.v (it op), .v (vl k n m s)] (.v (.tuple #[(.agg #[(.int .i64 (0)), (.int .i64 (0)), (.int .i64 (0)), (.string ((ByteArray.mk #[])))]), (.int .i64 (31))])) [] 0 :=
  does_path (ct := ct) ctOk mixed (fn := Tryz.f23) rfl (by kernel_rfl) 2000 [.c (.v (.bool (b0))) [] 0, .f, .f, .t, .c (.v (.tuple #[(.int .i64 (i1)), (.bool (b2))])) [] 0, .t] (by kernel_rfl) (cj h0 (cj h1 (cj h2 (cj h3 (cj h4 (cj h5 cj0))))))
theorem pUn_5 (op k n m : Int) (s : ByteArray) (b0 : Bool) (i1 : Int) (b2 : Bool) (i3 : Int) (i4 : Int) (i5 : Int) (i6 : Int) (s7 : ByteArray) (h0 : Does cE 49 [] 0 [.v (.agg #[(.int .i64 (k)), (.int .i64 (n)), (.int .i64 (m)), (.string (s))])] (.v (.bool (b0))) [] 0) (h1 : (!b0) = false) (h2 : (op == 5) = false) (h3 : (op == 4) = true) (h4 : Does cE 82 [] 0 [.v (.agg #[(.int .i64 (k)), (.int .i64 (n)), (.int .i64 (m)), (.string (s))])] (.v (.tuple #[(.int .i64 (i1)), (.bool (b2))])) [] 0) (h5 : (!b2) = false) (h6 : Does cE 47 [] 0 [.v (.int .i64 (i1))] (.v (.int .i64 (i3))) [] 0) (h7 : Does cE 83 [] 0 [.v (.int .i64 (i3))] (.v (.agg #[(.int .i64 (i4)), (.int .i64 (i5)), (.int .i64 (i6)), (.string (s7))])) [] 0) : Does cE 23 [] 0 [.v (it op), .v (vl k n m s)] (.v (.tuple #[(.agg #[(.int .i64 (i4)), (.int .i64 (i5)), (.int .i64 (i6)), (.string (s7))]), (.int .i64 (0))])) [] 0 :=
  does_path (ct := ct) ctOk mixed (fn := Tryz.f23) rfl (by kernel_rfl) 2000 [.c (.v (.bool (b0))) [] 0, .f, .f, .t, .c (.v (.tuple #[(.int .i64 (i1)), (.bool (b2))])) [] 0, .f, .c (.v (.int .i64 (i3))) [] 0, .c (.v (.agg #[(.int .i64 (i4)), (.int .i64 (i5)), (.int .i64 (i6)), (.string (s7))])) [] 0] (by kernel_rfl) (cj h0 (cj h1 (cj h2 (cj h3 (cj h4 (cj h5 (cj h6 (cj h7 cj0))))))))
theorem pUn_6 (op k n m : Int) (s : ByteArray) (b0 : Bool) (i1 : Int) (i2 : Int) (i3 : Int) (s4 : ByteArray) (i5 : Int) (h0 : Does cE 49 [] 0 [.v (.agg #[(.int .i64 (k)), (.int .i64 (n)), (.int .i64 (m)), (.string (s))])] (.v (.bool (b0))) [] 0) (h1 : (!b0) = false) (h2 : (op == 5) = false) (h3 : (op == 4) = false) (h4 : (op == 3) = true) (h5 : Does cE 84 [] 0 [.v (.agg #[(.int .i64 (k)), (.int .i64 (n)), (.int .i64 (m)), (.string (s))])] (.v (.tuple #[(.agg #[(.int .i64 (i1)), (.int .i64 (i2)), (.int .i64 (i3)), (.string (s4))]), (.int .i64 (i5))])) [] 0) : Does cE 23 [] 0 [.v (it op), .v (vl k n m s)] (.v (.tuple #[(.agg #[(.int .i64 (i1)), (.int .i64 (i2)), (.int .i64 (i3)), (.string (s4))]), (.int .i64 (i5))])) [] 0 :=
  does_path (ct := ct) ctOk mixed (fn := Tryz.f23) rfl (by kernel_rfl) 2000 [.c (.v (.bool (b0))) [] 0, .f, .f, .f, .t, .c (.v (.tuple #[(.agg #[(.int .i64 (i1)), (.int .i64 (i2)), (.int .i64 (i3)), (.string (s4))]), (.int .i64 (i5))])) [] 0] (by kernel_rfl) (cj h0 (cj h1 (cj h2 (cj h3 (cj h4 (cj h5 cj0))))))
theorem pUn_7 (op k n m : Int) (s : ByteArray) (b0 : Bool) (h0 : Does cE 49 [] 0 [.v (.agg #[(.int .i64 (k)), (.int .i64 (n)), (.int .i64 (m)), (.string (s))])] (.v (.bool (b0))) [] 0) (h1 : (!b0) = false) (h2 : (op == 5) = false) (h3 : (op == 4) = false) (h4 : (op == 3) = false) : Does cE 23 [] 0 [.v (it op), .v (vl k n m s)] (.v (.tuple #[(.agg #[(.int .i64 (0)), (.int .i64 (0)), (.int .i64 (0)), (.string ((ByteArray.mk #[])))]), (.int .i64 (1))])) [] 0 :=
  does_path (ct := ct) ctOk mixed (fn := Tryz.f23) rfl (by kernel_rfl) 2000 [.c (.v (.bool (b0))) [] 0, .f, .f, .f, .f] (by kernel_rfl) (cj h0 (cj h1 (cj h2 (cj h3 (cj h4 cj0)))))
theorem pIn_1 (op a b : Int) (i0 : Int) (i1 : Int) (h0 : (op == 6) = true) (h1 : Does cE 220 [] 0 [.v (.int .i64 (a)), .v (.int .i64 (b))] (.v (.tuple #[(.int .i64 (i0)), (.int .i64 (i1))])) [] 0) : Does cE 163 [] 0 [.v (it op), .v (it a), .v (it b)] (.v (.tuple #[(.int .i64 (i0)), (.int .i64 (i1))])) [] 0 :=
  does_path (ct := ct) ctOk mixed (fn := Tryz.f163) rfl (by kernel_rfl) 2000 [.t, .c (.v (.tuple #[(.int .i64 (i0)), (.int .i64 (i1))])) [] 0] (by kernel_rfl) (cj h0 (cj h1 cj0))
theorem pIn_2 (op a b : Int) (i0 : Int) (i1 : Int) (h0 : (op == 6) = false) (h1 : (op == 9) = true) (h2 : Does cE 221 [] 0 [.v (.int .i64 (a)), .v (.int .i64 (b))] (.v (.tuple #[(.int .i64 (i0)), (.int .i64 (i1))])) [] 0) : Does cE 163 [] 0 [.v (it op), .v (it a), .v (it b)] (.v (.tuple #[(.int .i64 (i0)), (.int .i64 (i1))])) [] 0 :=
  does_path (ct := ct) ctOk mixed (fn := Tryz.f163) rfl (by kernel_rfl) 2000 [.f, .t, .c (.v (.tuple #[(.int .i64 (i0)), (.int .i64 (i1))])) [] 0] (by kernel_rfl) (cj h0 (cj h1 (cj h2 cj0)))
theorem pIn_3 (op a b : Int) (i0 : Int) (i1 : Int) (i2 : Int) (h0 : (op == 6) = false) (h1 : (op == 9) = false) (h2 : (op == 10) = true) (h3 : Does cE 167 [] 0 [.v (.agg #[(.int .i64 (a)), (.int .i64 (0))]), .v (.agg #[(.int .i64 (b)), (.int .i64 (0))])] (.v (.tuple #[(.agg #[(.int .i64 (i0)), (.int .i64 (i1))]), (.int .i64 (i2))])) [] 0) : Does cE 163 [] 0 [.v (it op), .v (it a), .v (it b)] (.v (.tuple #[(.int .i64 (i0)), (.int .i64 (i2))])) [] 0 :=
  does_path (ct := ct) ctOk mixed (fn := Tryz.f163) rfl (by kernel_rfl) 2000 [.f, .f, .t, .c (.v (.tuple #[(.agg #[(.int .i64 (i0)), (.int .i64 (i1))]), (.int .i64 (i2))])) [] 0] (by kernel_rfl) (cj h0 (cj h1 (cj h2 (cj h3 cj0))))
theorem pIn_4 (op a b : Int) (h0 : (op == 6) = false) (h1 : (op == 9) = false) (h2 : (op == 10) = false) (h3 : (b == 0) = true) : Does cE 163 [] 0 [.v (it op), .v (it a), .v (it b)] (.v (.tuple #[(.int .i64 (0)), (.int .i64 (33))])) [] 0 :=
  does_path (ct := ct) ctOk mixed (fn := Tryz.f163) rfl (by kernel_rfl) 2000 [.f, .f, .f, .t] (by kernel_rfl) (cj h0 (cj h1 (cj h2 (cj h3 cj0))))
theorem pIn_5 (op a b : Int) (h0 : (op == 6) = false) (h1 : (op == 9) = false) (h2 : (op == 10) = false) (h3 : (b == 0) = false) (h4 : (op == 8) = true) : Does cE 163 [] 0 [.v (it op), .v (it a), .v (it b)] (.v (.tuple #[(.int .i64 (a.tmod b)), (.int .i64 (0))])) [] 0 :=
  does_path (ct := ct) ctOk mixed (fn := Tryz.f163) rfl (by kernel_rfl) 2000 [.f, .f, .f, .f, .t, .f] (by kernel_rfl) (cj h0 (cj h1 (cj h2 (cj h3 (cj h4 (cj h3 cj0))))))
theorem pIn_6 (op a b : Int) (h0 : (op == 6) = false) (h1 : (op == 9) = false) (h2 : (op == 10) = false) (h3 : (b == 0) = false) (h4 : (op == 8) = false) (h5 : (b == -1) = true) (h6 : (a == IntKind.i64.wrap (0 - a)) = true) (h7 : (a != 0) = true) : Does cE 163 [] 0 [.v (it op), .v (it a), .v (it b)] (.v (.tuple #[(.int .i64 (0)), (.int .i64 (32))])) [] 0 :=
  does_path (ct := ct) ctOk mixed (fn := Tryz.f163) rfl (by kernel_rfl) 2000 [.f, .f, .f, .f, .f, .t, .t, .t, .t, .t, .t, .t, .t, .t] (by kernel_rfl) (cj h0 (cj h1 (cj h2 (cj h3 (cj h4 (cj h5 (cj h5 (cj h5 (cj h5 (cj h5 (cj h6 (cj h6 (cj h6 (cj h7 cj0))))))))))))))
theorem pIn_7 (op a b : Int) (h0 : (op == 6) = false) (h1 : (op == 9) = false) (h2 : (op == 10) = false) (h3 : (b == 0) = false) (h4 : (op == 8) = false) (h5 : (b == -1) = true) (h6 : (a == IntKind.i64.wrap (0 - a)) = true) (h7 : (a != 0) = false) : Does cE 163 [] 0 [.v (it op), .v (it a), .v (it b)] (.v (.tuple #[(.int .i64 (IntKind.i64.wrap (a.tdiv b))), (.int .i64 (0))])) [] 0 :=
  does_path (ct := ct) ctOk mixed (fn := Tryz.f163) rfl (by kernel_rfl) 2000 [.f, .f, .f, .f, .f, .t, .t, .t, .t, .t, .t, .t, .t, .f, .f] (by kernel_rfl) (cj h0 (cj h1 (cj h2 (cj h3 (cj h4 (cj h5 (cj h5 (cj h5 (cj h5 (cj h5 (cj h6 (cj h6 (cj h6 (cj h7 (cj h3 cj0)))))))))))))))
theorem pIn_8 (op a b : Int) (h0 : (op == 6) = false) (h1 : (op == 9) = false) (h2 : (op == 10) = false) (h3 : (b == 0) = false) (h4 : (op == 8) = false) (h5 : (b == -1) = true) (h6 : (a == IntKind.i64.wrap (0 - a)) = false) : Does cE 163 [] 0 [.v (it op), .v (it a), .v (it b)] (.v (.tuple #[(.int .i64 (IntKind.i64.wrap (a.tdiv b))), (.int .i64 (0))])) [] 0 :=
  does_path (ct := ct) ctOk mixed (fn := Tryz.f163) rfl (by kernel_rfl) 2000 [.f, .f, .f, .f, .f, .t, .t, .t, .t, .t, .f, .f, .f, .l, .f] (by kernel_rfl) (cj h0 (cj h1 (cj h2 (cj h3 (cj h4 (cj h5 (cj h5 (cj h5 (cj h5 (cj h5 (cj h6 (cj h6 (cj h6 (cj h3 cj0))))))))))))))
theorem pIn_9 (op a b : Int) (h0 : (op == 6) = false) (h1 : (op == 9) = false) (h2 : (op == 10) = false) (h3 : (b == 0) = false) (h4 : (op == 8) = false) (h5 : (b == -1) = false) : Does cE 163 [] 0 [.v (it op), .v (it a), .v (it b)] (.v (.tuple #[(.int .i64 (IntKind.i64.wrap (a.tdiv b))), (.int .i64 (0))])) [] 0 :=
  does_path (ct := ct) ctOk mixed (fn := Tryz.f163) rfl (by kernel_rfl) 2000 [.f, .f, .f, .f, .f, .f, .f, .f, .f, .f, .l, .f, .f, .l, .f] (by kernel_rfl) (cj h0 (cj h1 (cj h2 (cj h3 (cj h4 (cj h5 (cj h5 (cj h5 (cj h5 (cj h5 (cj (rfl : false = false) (cj (rfl : false = false) (cj h3 cj0)))))))))))))
theorem pLo_1 (op k n m j p q : Int) (s u : ByteArray) (i0 : Int) (b1 : Bool) (i2 : Int) (b3 : Bool) (h0 : Does cE 82 [] 0 [.v (.agg #[(.int .i64 (k)), (.int .i64 (n)), (.int .i64 (m)), (.string (s))])] (.v (.tuple #[(.int .i64 (i0)), (.bool (b1))])) [] 0) (h1 : Does cE 82 [] 0 [.v (.agg #[(.int .i64 (j)), (.int .i64 (p)), (.int .i64 (q)), (.string (u))])] (.v (.tuple #[(.int .i64 (i2)), (.bool (b3))])) [] 0) (h2 : (!b1) = true) : Does cE 90 [] 0 [.v (it op), .v (vl k n m s), .v (vl j p q u)] (.v (.tuple #[(.agg #[(.int .i64 (0)), (.int .i64 (0)), (.int .i64 (0)), (.string ((ByteArray.mk #[])))]), (.int .i64 (31))])) [] 0 :=
  does_path (ct := ct) ctOk mixed (fn := Tryz.f90) rfl (by kernel_rfl) 2000 [.c (.v (.tuple #[(.int .i64 (i0)), (.bool (b1))])) [] 0, .c (.v (.tuple #[(.int .i64 (i2)), (.bool (b3))])) [] 0, .t, .t, .t, .l] (by kernel_rfl) (cj h0 (cj h1 (cj h2 (cj h2 (cj h2 cj0)))))
theorem pLo_2 (op k n m j p q : Int) (s u : ByteArray) (i0 : Int) (b1 : Bool) (i2 : Int) (b3 : Bool) (h0 : Does cE 82 [] 0 [.v (.agg #[(.int .i64 (k)), (.int .i64 (n)), (.int .i64 (m)), (.string (s))])] (.v (.tuple #[(.int .i64 (i0)), (.bool (b1))])) [] 0) (h1 : Does cE 82 [] 0 [.v (.agg #[(.int .i64 (j)), (.int .i64 (p)), (.int .i64 (q)), (.string (u))])] (.v (.tuple #[(.int .i64 (i2)), (.bool (b3))])) [] 0) (h2 : (!b1) = false) (h3 : (!b3) = true) : Does cE 90 [] 0 [.v (it op), .v (vl k n m s), .v (vl j p q u)] (.v (.tuple #[(.agg #[(.int .i64 (0)), (.int .i64 (0)), (.int .i64 (0)), (.string ((ByteArray.mk #[])))]), (.int .i64 (31))])) [] 0 :=
  does_path (ct := ct) ctOk mixed (fn := Tryz.f90) rfl (by kernel_rfl) 2000 [.c (.v (.tuple #[(.int .i64 (i0)), (.bool (b1))])) [] 0, .c (.v (.tuple #[(.int .i64 (i2)), (.bool (b3))])) [] 0, .f, .f, .f, .t] (by kernel_rfl) (cj h0 (cj h1 (cj h2 (cj h2 (cj h2 (cj h3 cj0))))))
theorem pLo_3 (op k n m j p q : Int) (s u : ByteArray) (i0 : Int) (b1 : Bool) (i2 : Int) (b3 : Bool) (i4 : Int) (i5 : Int) (i6 : Int) (i7 : Int) (s8 : ByteArray) (h0 : Does cE 82 [] 0 [.v (.agg #[(.int .i64 (k)), (.int .i64 (n)), (.int .i64 (m)), (.string (s))])] (.v (.tuple #[(.int .i64 (i0)), (.bool (b1))])) [] 0) (h1 : Does cE 82 [] 0 [.v (.agg #[(.int .i64 (j)), (.int .i64 (p)), (.int .i64 (q)), (.string (u))])] (.v (.tuple #[(.int .i64 (i2)), (.bool (b3))])) [] 0) (h2 : (!b1) = false) (h3 : (!b3) = false) (h4 : (op == 17) = true) (h5 : Does cE 45 [] 0 [.v (.int .i64 (i0)), .v (.int .i64 (i2))] (.v (.int .i64 (i4))) [] 0) (h6 : Does cE 83 [] 0 [.v (.int .i64 (i4))] (.v (.agg #[(.int .i64 (i5)), (.int .i64 (i6)), (.int .i64 (i7)), (.string (s8))])) [] 0) : Does cE 90 [] 0 [.v (it op), .v (vl k n m s), .v (vl j p q u)] (.v (.tuple #[(.agg #[(.int .i64 (i5)), (.int .i64 (i6)), (.int .i64 (i7)), (.string (s8))]), (.int .i64 (0))])) [] 0 :=
  does_path (ct := ct) ctOk mixed (fn := Tryz.f90) rfl (by kernel_rfl) 2000 [.c (.v (.tuple #[(.int .i64 (i0)), (.bool (b1))])) [] 0, .c (.v (.tuple #[(.int .i64 (i2)), (.bool (b3))])) [] 0, .f, .f, .f, .f, .t, .c (.v (.int .i64 (i4))) [] 0, .c (.v (.agg #[(.int .i64 (i5)), (.int .i64 (i6)), (.int .i64 (i7)), (.string (s8))])) [] 0] (by kernel_rfl) (cj h0 (cj h1 (cj h2 (cj h2 (cj h2 (cj h3 (cj h4 (cj h5 (cj h6 cj0)))))))))
theorem pLo_4 (op k n m j p q : Int) (s u : ByteArray) (i0 : Int) (b1 : Bool) (i2 : Int) (b3 : Bool) (i4 : Int) (i5 : Int) (i6 : Int) (i7 : Int) (s8 : ByteArray) (h0 : Does cE 82 [] 0 [.v (.agg #[(.int .i64 (k)), (.int .i64 (n)), (.int .i64 (m)), (.string (s))])] (.v (.tuple #[(.int .i64 (i0)), (.bool (b1))])) [] 0) (h1 : Does cE 82 [] 0 [.v (.agg #[(.int .i64 (j)), (.int .i64 (p)), (.int .i64 (q)), (.string (u))])] (.v (.tuple #[(.int .i64 (i2)), (.bool (b3))])) [] 0) (h2 : (!b1) = false) (h3 : (!b3) = false) (h4 : (op == 17) = false) (h5 : Does cE 46 [] 0 [.v (.int .i64 (i0)), .v (.int .i64 (i2))] (.v (.int .i64 (i4))) [] 0) (h6 : Does cE 83 [] 0 [.v (.int .i64 (i4))] (.v (.agg #[(.int .i64 (i5)), (.int .i64 (i6)), (.int .i64 (i7)), (.string (s8))])) [] 0) : Does cE 90 [] 0 [.v (it op), .v (vl k n m s), .v (vl j p q u)] (.v (.tuple #[(.agg #[(.int .i64 (i5)), (.int .i64 (i6)), (.int .i64 (i7)), (.string (s8))]), (.int .i64 (0))])) [] 0 :=
  does_path (ct := ct) ctOk mixed (fn := Tryz.f90) rfl (by kernel_rfl) 2000 [.c (.v (.tuple #[(.int .i64 (i0)), (.bool (b1))])) [] 0, .c (.v (.tuple #[(.int .i64 (i2)), (.bool (b3))])) [] 0, .f, .f, .f, .f, .f, .c (.v (.int .i64 (i4))) [] 0, .c (.v (.agg #[(.int .i64 (i5)), (.int .i64 (i6)), (.int .i64 (i7)), (.string (s8))])) [] 0] (by kernel_rfl) (cj h0 (cj h1 (cj h2 (cj h2 (cj h2 (cj h3 (cj h4 (cj h5 (cj h6 cj0)))))))))
theorem rUn_1 (op k n m : Int) (s : ByteArray) (h0 : decide (op < 3) = true) : Does cE 24 [] 0 [.v (it op), .v (vl k n m s)] (.v (.tuple #[(.agg #[(.int .i64 (0)), (.int .i64 (0)), (.int .i64 (0)), (.string ((ByteArray.mk #[])))]), (.int .i64 (1))])) [] 0 :=
  does_path (ct := ct) ctOk mixed (fn := Tryz.f24) rfl (by kernel_rfl) 2000 [.t, .t, .t, .l, .l, .l, .l, .l] (by kernel_rfl) (cj h0 (cj h0 (cj h0 cj0)))
theorem rUn_2 (op k n m : Int) (s : ByteArray) (h0 : decide (op < 3) = false) (h1 : decide (op > 5) = true) : Does cE 24 [] 0 [.v (it op), .v (vl k n m s)] (.v (.tuple #[(.agg #[(.int .i64 (0)), (.int .i64 (0)), (.int .i64 (0)), (.string ((ByteArray.mk #[])))]), (.int .i64 (1))])) [] 0 :=
  does_path (ct := ct) ctOk mixed (fn := Tryz.f24) rfl (by kernel_rfl) 2000 [.f, .f, .f, .t, .t, .t, .t, .l] (by kernel_rfl) (cj h0 (cj h0 (cj h0 (cj h1 (cj h1 (cj h1 (cj h1 cj0)))))))
theorem rUn_3 (op k n m : Int) (s : ByteArray) (b0 : Bool) (h0 : decide (op < 3) = false) (h1 : decide (op > 5) = false) (h2 : Does cE 27 [] 0 [.v (.agg #[(.int .i64 (k)), (.int .i64 (n)), (.int .i64 (m)), (.string (s))])] (.v (.bool (b0))) [] 0) (h3 : (!b0) = true) : Does cE 24 [] 0 [.v (it op), .v (vl k n m s)] (.v (.tuple #[(.agg #[(.int .i64 (0)), (.int .i64 (0)), (.int .i64 (0)), (.string ((ByteArray.mk #[])))]), (.int .i64 (1))])) [] 0 :=
  does_path (ct := ct) ctOk mixed (fn := Tryz.f24) rfl (by kernel_rfl) 2000 [.f, .f, .f, .f, .f, .c (.v (.bool (b0))) [] 0, .f, .f, .t] (by kernel_rfl) (cj h0 (cj h0 (cj h0 (cj h1 (cj h1 (cj h2 (cj h1 (cj h1 (cj h3 cj0)))))))))
theorem rUn_4 (op k n m : Int) (s : ByteArray) (b0 : Bool) (i1 : Int) (i2 : Int) (i3 : Int) (s4 : ByteArray) (h0 : decide (op < 3) = false) (h1 : decide (op > 5) = false) (h2 : Does cE 27 [] 0 [.v (.agg #[(.int .i64 (k)), (.int .i64 (n)), (.int .i64 (m)), (.string (s))])] (.v (.bool (b0))) [] 0) (h3 : (!b0) = false) (h4 : (op == 5) = true) (h5 : (k == 0) = true) (h6 : Does cE 85 [] 0 [.v (.int .i64 (1))] (.v (.agg #[(.int .i64 (i1)), (.int .i64 (i2)), (.int .i64 (i3)), (.string (s4))])) [] 0) : Does cE 24 [] 0 [.v (it op), .v (vl k n m s)] (.v (.tuple #[(.agg #[(.int .i64 (i1)), (.int .i64 (i2)), (.int .i64 (i3)), (.string (s4))]), (.int .i64 (0))])) [] 0 :=
  does_path (ct := ct) ctOk mixed (fn := Tryz.f24) rfl (by kernel_rfl) 2000 [.f, .f, .f, .f, .f, .c (.v (.bool (b0))) [] 0, .f, .f, .f, .t, .e, .t, .c (.v (.agg #[(.int .i64 (i1)), (.int .i64 (i2)), (.int .i64 (i3)), (.string (s4))])) [] 0] (by kernel_rfl) (cj h0 (cj h0 (cj h0 (cj h1 (cj h1 (cj h2 (cj h1 (cj h1 (cj h3 (cj h4 (cj h5 (cj h6 cj0))))))))))))
theorem rUn_5 (op k n m : Int) (s : ByteArray) (b0 : Bool) (i1 : Int) (i2 : Int) (i3 : Int) (s4 : ByteArray) (h0 : decide (op < 3) = false) (h1 : decide (op > 5) = false) (h2 : Does cE 27 [] 0 [.v (.agg #[(.int .i64 (k)), (.int .i64 (n)), (.int .i64 (m)), (.string (s))])] (.v (.bool (b0))) [] 0) (h3 : (!b0) = false) (h4 : (op == 5) = true) (h5 : (k == 0) = false) (h6 : Does cE 85 [] 0 [.v (.int .i64 (0))] (.v (.agg #[(.int .i64 (i1)), (.int .i64 (i2)), (.int .i64 (i3)), (.string (s4))])) [] 0) : Does cE 24 [] 0 [.v (it op), .v (vl k n m s)] (.v (.tuple #[(.agg #[(.int .i64 (i1)), (.int .i64 (i2)), (.int .i64 (i3)), (.string (s4))]), (.int .i64 (0))])) [] 0 :=
  does_path (ct := ct) ctOk mixed (fn := Tryz.f24) rfl (by kernel_rfl) 2000 [.f, .f, .f, .f, .f, .c (.v (.bool (b0))) [] 0, .f, .f, .f, .t, .e, .f, .c (.v (.agg #[(.int .i64 (i1)), (.int .i64 (i2)), (.int .i64 (i3)), (.string (s4))])) [] 0] (by kernel_rfl) (cj h0 (cj h0 (cj h0 (cj h1 (cj h1 (cj h2 (cj h1 (cj h1 (cj h3 (cj h4 (cj h5 (cj h6 cj0))))))))))))
theorem rUn_6 (op k n m : Int) (s : ByteArray) (b0 : Bool) (i1 : Int) (b2 : Bool) (h0 : decide (op < 3) = false) (h1 : decide (op > 5) = false) (h2 : Does cE 27 [] 0 [.v (.agg #[(.int .i64 (k)), (.int .i64 (n)), (.int .i64 (m)), (.string (s))])] (.v (.bool (b0))) [] 0) (h3 : (!b0) = false) (h4 : (op == 5) = false) (h5 : (op == 4) = true) (h6 : Does cE 86 [] 0 [.v (.agg #[(.int .i64 (k)), (.int .i64 (n)), (.int .i64 (m)), (.string (s))])] (.v (.tuple #[(.int .i64 (i1)), (.bool (b2))])) [] 0) (h7 : (!b2) = true) : Does cE 24 [] 0 [.v (it op), .v (vl k n m s)] (.v (.tuple #[(.agg #[(.int .i64 (0)), (.int .i64 (0)), (.int .i64 (0)), (.string ((ByteArray.mk #[])))]), (.int .i64 (31))])) [] 0 :=
  does_path (ct := ct) ctOk mixed (fn := Tryz.f24) rfl (by kernel_rfl) 2000 [.f, .f, .f, .f, .f, .c (.v (.bool (b0))) [] 0, .f, .f, .f, .f, .t, .c (.v (.tuple #[(.int .i64 (i1)), (.bool (b2))])) [] 0, .t] (by kernel_rfl) (cj h0 (cj h0 (cj h0 (cj h1 (cj h1 (cj h2 (cj h1 (cj h1 (cj h3 (cj h4 (cj h5 (cj h6 (cj h7 cj0)))))))))))))
theorem rUn_7 (op k n m : Int) (s : ByteArray) (b0 : Bool) (i1 : Int) (b2 : Bool) (i3 : Int) (i4 : Int) (i5 : Int) (i6 : Int) (s7 : ByteArray) (h0 : decide (op < 3) = false) (h1 : decide (op > 5) = false) (h2 : Does cE 27 [] 0 [.v (.agg #[(.int .i64 (k)), (.int .i64 (n)), (.int .i64 (m)), (.string (s))])] (.v (.bool (b0))) [] 0) (h3 : (!b0) = false) (h4 : (op == 5) = false) (h5 : (op == 4) = true) (h6 : Does cE 86 [] 0 [.v (.agg #[(.int .i64 (k)), (.int .i64 (n)), (.int .i64 (m)), (.string (s))])] (.v (.tuple #[(.int .i64 (i1)), (.bool (b2))])) [] 0) (h7 : (!b2) = false) (h8 : Does cE 87 [] 0 [.v (.int .i64 (i1))] (.v (.int .i64 (i3))) [] 0) (h9 : Does cE 85 [] 0 [.v (.int .i64 (i3))] (.v (.agg #[(.int .i64 (i4)), (.int .i64 (i5)), (.int .i64 (i6)), (.string (s7))])) [] 0) : Does cE 24 [] 0 [.v (it op), .v (vl k n m s)] (.v (.tuple #[(.agg #[(.int .i64 (i4)), (.int .i64 (i5)), (.int .i64 (i6)), (.string (s7))]), (.int .i64 (0))])) [] 0 :=
  does_path (ct := ct) ctOk mixed (fn := Tryz.f24) rfl (by kernel_rfl) 2000 [.f, .f, .f, .f, .f, .c (.v (.bool (b0))) [] 0, .f, .f, .f, .f, .t, .c (.v (.tuple #[(.int .i64 (i1)), (.bool (b2))])) [] 0, .f, .c (.v (.int .i64 (i3))) [] 0, .c (.v (.agg #[(.int .i64 (i4)), (.int .i64 (i5)), (.int .i64 (i6)), (.string (s7))])) [] 0] (by kernel_rfl) (cj h0 (cj h0 (cj h0 (cj h1 (cj h1 (cj h2 (cj h1 (cj h1 (cj h3 (cj h4 (cj h5 (cj h6 (cj h7 (cj h8 (cj h9 cj0)))))))))))))))
theorem rUn_8 (op k n m : Int) (s : ByteArray) (b0 : Bool) (h0 : decide (op < 3) = false) (h1 : decide (op > 5) = false) (h2 : Does cE 27 [] 0 [.v (.agg #[(.int .i64 (k)), (.int .i64 (n)), (.int .i64 (m)), (.string (s))])] (.v (.bool (b0))) [] 0) (h3 : (!b0) = false) (h4 : (op == 5) = false) (h5 : (op == 4) = false) (h6 : (k == 0) = true) : Does cE 24 [] 0 [.v (it op), .v (vl k n m s)] (.v (.tuple #[(.agg #[(.int .i64 (0)), (.int .i64 (0)), (.int .i64 (0)), (.string ((ByteArray.mk #[])))]), (.int .i64 (0))])) [] 0 :=
  does_path (ct := ct) ctOk mixed (fn := Tryz.f24) rfl (by kernel_rfl) 2000 [.f, .f, .f, .f, .f, .c (.v (.bool (b0))) [] 0, .f, .f, .f, .f, .f, .e, .t] (by kernel_rfl) (cj h0 (cj h0 (cj h0 (cj h1 (cj h1 (cj h2 (cj h1 (cj h1 (cj h3 (cj h4 (cj h5 (cj h6 cj0))))))))))))
theorem rUn_9 (op k n m : Int) (s : ByteArray) (b0 : Bool) (i1 : Int) (i2 : Int) (i3 : Int) (h0 : decide (op < 3) = false) (h1 : decide (op > 5) = false) (h2 : Does cE 27 [] 0 [.v (.agg #[(.int .i64 (k)), (.int .i64 (n)), (.int .i64 (m)), (.string (s))])] (.v (.bool (b0))) [] 0) (h3 : (!b0) = false) (h4 : (op == 5) = false) (h5 : (op == 4) = false) (h6 : (k == 0) = false) (h7 : (k == 1) = true) (h8 : Does cE 88 [] 0 [.v (.agg #[(.int .i64 (n)), (.int .i64 (m))])] (.v (.tuple #[(.agg #[(.int .i64 (i1)), (.int .i64 (i2))]), (.int .i64 (i3))])) [] 0) (h9 : (i3 != 0) = true) : Does cE 24 [] 0 [.v (it op), .v (vl k n m s)] (.v (.tuple #[(.agg #[(.int .i64 (0)), (.int .i64 (0)), (.int .i64 (0)), (.string ((ByteArray.mk #[])))]), (.int .i64 (i3))])) [] 0 :=
  does_path (ct := ct) ctOk mixed (fn := Tryz.f24) rfl (by kernel_rfl) 2000 [.f, .f, .f, .f, .f, .c (.v (.bool (b0))) [] 0, .f, .f, .f, .f, .f, .e, .f, .t, .e, .c (.v (.tuple #[(.agg #[(.int .i64 (i1)), (.int .i64 (i2))]), (.int .i64 (i3))])) [] 0, .e, .t] (by kernel_rfl) (cj h0 (cj h0 (cj h0 (cj h1 (cj h1 (cj h2 (cj h1 (cj h1 (cj h3 (cj h4 (cj h5 (cj h6 (cj h7 (cj h8 (cj h9 cj0)))))))))))))))
theorem rUn_10 (op k n m : Int) (s : ByteArray) (b0 : Bool) (i1 : Int) (i2 : Int) (i3 : Int) (h0 : decide (op < 3) = false) (h1 : decide (op > 5) = false) (h2 : Does cE 27 [] 0 [.v (.agg #[(.int .i64 (k)), (.int .i64 (n)), (.int .i64 (m)), (.string (s))])] (.v (.bool (b0))) [] 0) (h3 : (!b0) = false) (h4 : (op == 5) = false) (h5 : (op == 4) = false) (h6 : (k == 0) = false) (h7 : (k == 1) = true) (h8 : Does cE 88 [] 0 [.v (.agg #[(.int .i64 (n)), (.int .i64 (m))])] (.v (.tuple #[(.agg #[(.int .i64 (i1)), (.int .i64 (i2))]), (.int .i64 (i3))])) [] 0) (h9 : (i3 != 0) = false) : Does cE 24 [] 0 [.v (it op), .v (vl k n m s)] (.v (.tuple #[(.agg #[(.int .i64 (1)), (.int .i64 (i1)), (.int .i64 (0)), (.string ((ByteArray.mk #[])))]), (.int .i64 (0))])) [] 0 :=
  does_path (ct := ct) ctOk mixed (fn := Tryz.f24) rfl (by kernel_rfl) 2000 [.f, .f, .f, .f, .f, .c (.v (.bool (b0))) [] 0, .f, .f, .f, .f, .f, .e, .f, .t, .e, .c (.v (.tuple #[(.agg #[(.int .i64 (i1)), (.int .i64 (i2))]), (.int .i64 (i3))])) [] 0, .e, .f] (by kernel_rfl) (cj h0 (cj h0 (cj h0 (cj h1 (cj h1 (cj h2 (cj h1 (cj h1 (cj h3 (cj h4 (cj h5 (cj h6 (cj h7 (cj h8 (cj h9 cj0)))))))))))))))
theorem rUn_11 (op k n m : Int) (s : ByteArray) (b0 : Bool) (i1 : Int) (i2 : Int) (i3 : Int) (h0 : decide (op < 3) = false) (h1 : decide (op > 5) = false) (h2 : Does cE 27 [] 0 [.v (.agg #[(.int .i64 (k)), (.int .i64 (n)), (.int .i64 (m)), (.string (s))])] (.v (.bool (b0))) [] 0) (h3 : (!b0) = false) (h4 : (op == 5) = false) (h5 : (op == 4) = false) (h6 : (k == 0) = false) (h7 : (k == 1) = false) (h8 : (k == 2) = true) (h9 : Does cE 88 [] 0 [.v (.agg #[(.int .i64 (n)), (.int .i64 (m))])] (.v (.tuple #[(.agg #[(.int .i64 (i1)), (.int .i64 (i2))]), (.int .i64 (i3))])) [] 0) (h10 : (i3 != 0) = true) : Does cE 24 [] 0 [.v (it op), .v (vl k n m s)] (.v (.tuple #[(.agg #[(.int .i64 (0)), (.int .i64 (0)), (.int .i64 (0)), (.string ((ByteArray.mk #[])))]), (.int .i64 (i3))])) [] 0 :=
  does_path (ct := ct) ctOk mixed (fn := Tryz.f24) rfl (by kernel_rfl) 2000 [.f, .f, .f, .f, .f, .c (.v (.bool (b0))) [] 0, .f, .f, .f, .f, .f, .e, .f, .f, .t, .e, .c (.v (.tuple #[(.agg #[(.int .i64 (i1)), (.int .i64 (i2))]), (.int .i64 (i3))])) [] 0, .e, .t] (by kernel_rfl) (cj h0 (cj h0 (cj h0 (cj h1 (cj h1 (cj h2 (cj h1 (cj h1 (cj h3 (cj h4 (cj h5 (cj h6 (cj h7 (cj h8 (cj h9 (cj h10 cj0))))))))))))))))
theorem rUn_12 (op k n m : Int) (s : ByteArray) (b0 : Bool) (i1 : Int) (i2 : Int) (i3 : Int) (h0 : decide (op < 3) = false) (h1 : decide (op > 5) = false) (h2 : Does cE 27 [] 0 [.v (.agg #[(.int .i64 (k)), (.int .i64 (n)), (.int .i64 (m)), (.string (s))])] (.v (.bool (b0))) [] 0) (h3 : (!b0) = false) (h4 : (op == 5) = false) (h5 : (op == 4) = false) (h6 : (k == 0) = false) (h7 : (k == 1) = false) (h8 : (k == 2) = true) (h9 : Does cE 88 [] 0 [.v (.agg #[(.int .i64 (n)), (.int .i64 (m))])] (.v (.tuple #[(.agg #[(.int .i64 (i1)), (.int .i64 (i2))]), (.int .i64 (i3))])) [] 0) (h10 : (i3 != 0) = false) : Does cE 24 [] 0 [.v (it op), .v (vl k n m s)] (.v (.tuple #[(.agg #[(.int .i64 (2)), (.int .i64 (i1)), (.int .i64 (i2)), (.string ((ByteArray.mk #[])))]), (.int .i64 (0))])) [] 0 :=
  does_path (ct := ct) ctOk mixed (fn := Tryz.f24) rfl (by kernel_rfl) 2000 [.f, .f, .f, .f, .f, .c (.v (.bool (b0))) [] 0, .f, .f, .f, .f, .f, .e, .f, .f, .t, .e, .c (.v (.tuple #[(.agg #[(.int .i64 (i1)), (.int .i64 (i2))]), (.int .i64 (i3))])) [] 0, .e, .f] (by kernel_rfl) (cj h0 (cj h0 (cj h0 (cj h1 (cj h1 (cj h2 (cj h1 (cj h1 (cj h3 (cj h4 (cj h5 (cj h6 (cj h7 (cj h8 (cj h9 (cj h10 cj0))))))))))))))))
theorem rUn_13 (op k n m : Int) (s : ByteArray) (b0 : Bool) (i1 : Int) (i2 : Int) (h0 : decide (op < 3) = false) (h1 : decide (op > 5) = false) (h2 : Does cE 27 [] 0 [.v (.agg #[(.int .i64 (k)), (.int .i64 (n)), (.int .i64 (m)), (.string (s))])] (.v (.bool (b0))) [] 0) (h3 : (!b0) = false) (h4 : (op == 5) = false) (h5 : (op == 4) = false) (h6 : (k == 0) = false) (h7 : (k == 1) = false) (h8 : (k == 2) = false) (h9 : (k == 5) = true) (h10 : Does cE 89 [] 0 [.v (.agg #[(.int .i64 (n)), (.int .i64 (m))]), .v (.int .i64 (2))] (.v (.agg #[(.int .i64 (i1)), (.int .i64 (i2))])) [] 0) : Does cE 24 [] 0 [.v (it op), .v (vl k n m s)] (.v (.tuple #[(.agg #[(.int .i64 (5)), (.int .i64 (i1)), (.int .i64 (i2)), (.string ((ByteArray.mk #[])))]), (.int .i64 (0))])) [] 0 :=
  does_path (ct := ct) ctOk mixed (fn := Tryz.f24) rfl (by kernel_rfl) 2000 [.f, .f, .f, .f, .f, .c (.v (.bool (b0))) [] 0, .f, .f, .f, .f, .f, .e, .f, .f, .f, .t, .e, .c (.v (.agg #[(.int .i64 (i1)), (.int .i64 (i2))])) [] 0, .e, .l] (by kernel_rfl) (cj h0 (cj h0 (cj h0 (cj h1 (cj h1 (cj h2 (cj h1 (cj h1 (cj h3 (cj h4 (cj h5 (cj h6 (cj h7 (cj h8 (cj h9 (cj h10 cj0))))))))))))))))
theorem rUn_14 (op k n m : Int) (s : ByteArray) (b0 : Bool) (h0 : decide (op < 3) = false) (h1 : decide (op > 5) = false) (h2 : Does cE 27 [] 0 [.v (.agg #[(.int .i64 (k)), (.int .i64 (n)), (.int .i64 (m)), (.string (s))])] (.v (.bool (b0))) [] 0) (h3 : (!b0) = false) (h4 : (op == 5) = false) (h5 : (op == 4) = false) (h6 : (k == 0) = false) (h7 : (k == 1) = false) (h8 : (k == 2) = false) (h9 : (k == 5) = false) : Does cE 24 [] 0 [.v (it op), .v (vl k n m s)] (.v (.tuple #[(.agg #[(.int .i64 (0)), (.int .i64 (0)), (.int .i64 (0)), (.string ((ByteArray.mk #[])))]), (.int .i64 (31))])) [] 0 :=
  does_path (ct := ct) ctOk mixed (fn := Tryz.f24) rfl (by kernel_rfl) 2000 [.f, .f, .f, .f, .f, .c (.v (.bool (b0))) [] 0, .f, .f, .f, .f, .f, .e, .f, .f, .f, .f] (by kernel_rfl) (cj h0 (cj h0 (cj h0 (cj h1 (cj h1 (cj h2 (cj h1 (cj h1 (cj h3 (cj h4 (cj h5 (cj h6 (cj h7 (cj h8 (cj h9 cj0)))))))))))))))
theorem rIn_1 (op a b : Int) (i0 : Int) (i1 : Int) (h0 : (op == 6) = true) (h1 : Does cE 232 [] 0 [.v (.int .i64 (a)), .v (.int .i64 (b))] (.v (.tuple #[(.int .i64 (i0)), (.int .i64 (i1))])) [] 0) : Does cE 176 [] 0 [.v (it op), .v (it a), .v (it b)] (.v (.tuple #[(.int .i64 (i0)), (.int .i64 (i1))])) [] 0 :=
  does_path (ct := ct) ctOk mixed (fn := Tryz.f176) rfl (by kernel_rfl) 2000 [.t, .c (.v (.tuple #[(.int .i64 (i0)), (.int .i64 (i1))])) [] 0] (by kernel_rfl) (cj h0 (cj h1 cj0))
theorem rIn_2 (op a b : Int) (i0 : Int) (i1 : Int) (h0 : (op == 6) = false) (h1 : (op == 9) = true) (h2 : Does cE 233 [] 0 [.v (.int .i64 (a)), .v (.int .i64 (b))] (.v (.tuple #[(.int .i64 (i0)), (.int .i64 (i1))])) [] 0) : Does cE 176 [] 0 [.v (it op), .v (it a), .v (it b)] (.v (.tuple #[(.int .i64 (i0)), (.int .i64 (i1))])) [] 0 :=
  does_path (ct := ct) ctOk mixed (fn := Tryz.f176) rfl (by kernel_rfl) 2000 [.f, .t, .c (.v (.tuple #[(.int .i64 (i0)), (.int .i64 (i1))])) [] 0] (by kernel_rfl) (cj h0 (cj h1 (cj h2 cj0)))
theorem rIn_3 (op a b : Int) (i0 : Int) (i1 : Int) (i2 : Int) (h0 : (op == 6) = false) (h1 : (op == 9) = false) (h2 : (op == 10) = true) (h3 : Does cE 162 [] 0 [.v (.agg #[(.int .i64 (a)), (.int .i64 (0))]), .v (.agg #[(.int .i64 (b)), (.int .i64 (0))])] (.v (.tuple #[(.agg #[(.int .i64 (i0)), (.int .i64 (i1))]), (.int .i64 (i2))])) [] 0) : Does cE 176 [] 0 [.v (it op), .v (it a), .v (it b)] (.v (.tuple #[(.int .i64 (i0)), (.int .i64 (i2))])) [] 0 :=
  does_path (ct := ct) ctOk mixed (fn := Tryz.f176) rfl (by kernel_rfl) 2000 [.f, .f, .t, .c (.v (.tuple #[(.agg #[(.int .i64 (i0)), (.int .i64 (i1))]), (.int .i64 (i2))])) [] 0] (by kernel_rfl) (cj h0 (cj h1 (cj h2 (cj h3 cj0))))
theorem rIn_4 (op a b : Int) (h0 : (op == 6) = false) (h1 : (op == 9) = false) (h2 : (op == 10) = false) (h3 : (b == 0) = true) : Does cE 176 [] 0 [.v (it op), .v (it a), .v (it b)] (.v (.tuple #[(.int .i64 (0)), (.int .i64 (33))])) [] 0 :=
  does_path (ct := ct) ctOk mixed (fn := Tryz.f176) rfl (by kernel_rfl) 2000 [.f, .f, .f, .t] (by kernel_rfl) (cj h0 (cj h1 (cj h2 (cj h3 cj0))))
theorem rIn_5 (op a b : Int) (h0 : (op == 6) = false) (h1 : (op == 9) = false) (h2 : (op == 10) = false) (h3 : (b == 0) = false) (h4 : (b == -1) = true) (h5 : (op == 8) = true) : Does cE 176 [] 0 [.v (it op), .v (it a), .v (it b)] (.v (.tuple #[(.int .i64 (0)), (.int .i64 (0))])) [] 0 :=
  does_path (ct := ct) ctOk mixed (fn := Tryz.f176) rfl (by kernel_rfl) 2000 [.f, .f, .f, .f, .t, .t, .t, .t] (by kernel_rfl) (cj h0 (cj h1 (cj h2 (cj h3 (cj h4 (cj h4 (cj h4 (cj h5 cj0))))))))
theorem rIn_6 (op a b : Int) (i0 : Int) (i1 : Int) (h0 : (op == 6) = false) (h1 : (op == 9) = false) (h2 : (op == 10) = false) (h3 : (b == 0) = false) (h4 : (b == -1) = true) (h5 : (op == 8) = false) (h6 : Does cE 232 [] 0 [.v (.int .i64 (a)), .v (.int .i64 (-1))] (.v (.tuple #[(.int .i64 (i0)), (.int .i64 (i1))])) [] 0) : Does cE 176 [] 0 [.v (it op), .v (it a), .v (it b)] (.v (.tuple #[(.int .i64 (i0)), (.int .i64 (i1))])) [] 0 :=
  does_path (ct := ct) ctOk mixed (fn := Tryz.f176) rfl (by kernel_rfl) 2000 [.f, .f, .f, .f, .t, .t, .t, .f, .t, .c (.v (.tuple #[(.int .i64 (i0)), (.int .i64 (i1))])) [] 0] (by kernel_rfl) (cj h0 (cj h1 (cj h2 (cj h3 (cj h4 (cj h4 (cj h4 (cj h5 (cj h4 (cj h6 cj0))))))))))
theorem rIn_7 (op a b : Int) (h0 : (op == 6) = false) (h1 : (op == 9) = false) (h2 : (op == 10) = false) (h3 : (b == 0) = false) (h4 : (b == -1) = false) (h5 : (op == 7) = true) : Does cE 176 [] 0 [.v (it op), .v (it a), .v (it b)] (.v (.tuple #[(.int .i64 (IntKind.i64.wrap (a.tdiv b))), (.int .i64 (0))])) [] 0 :=
  does_path (ct := ct) ctOk mixed (fn := Tryz.f176) rfl (by kernel_rfl) 2000 [.f, .f, .f, .f, .f, .f, .f, .l, .f, .t, .f] (by kernel_rfl) (cj h0 (cj h1 (cj h2 (cj h3 (cj h4 (cj h4 (cj h4 (cj h4 (cj h5 (cj h3 cj0))))))))))
theorem rIn_8 (op a b : Int) (h0 : (op == 6) = false) (h1 : (op == 9) = false) (h2 : (op == 10) = false) (h3 : (b == 0) = false) (h4 : (b == -1) = false) (h5 : (op == 7) = false) : Does cE 176 [] 0 [.v (it op), .v (it a), .v (it b)] (.v (.tuple #[(.int .i64 (a.tmod b)), (.int .i64 (0))])) [] 0 :=
  does_path (ct := ct) ctOk mixed (fn := Tryz.f176) rfl (by kernel_rfl) 2000 [.f, .f, .f, .f, .f, .f, .f, .l, .f, .f, .f] (by kernel_rfl) (cj h0 (cj h1 (cj h2 (cj h3 (cj h4 (cj h4 (cj h4 (cj h4 (cj h5 (cj h3 cj0))))))))))
theorem rDe_1 (op n m p q : Int) (i0 : Int) (i1 : Int) (i2 : Int) (h0 : (op == 6) = true) (h1 : Does cE 234 [] 0 [.v (.agg #[(.int .i64 (n)), (.int .i64 (m))]), .v (.agg #[(.int .i64 (p)), (.int .i64 (q))])] (.v (.tuple #[(.agg #[(.int .i64 (i0)), (.int .i64 (i1))]), (.int .i64 (i2))])) [] 0) (h2 : (i2 != 0) = true) : Does cE 177 [] 0 [.v (it op), .v (dc n m), .v (dc p q)] (.v (.tuple #[(.agg #[(.int .i64 (0)), (.int .i64 (0)), (.int .i64 (0)), (.string ((ByteArray.mk #[])))]), (.int .i64 (i2))])) [] 0 :=
  does_path (ct := ct) ctOk mixed (fn := Tryz.f177) rfl (by kernel_rfl) 2000 [.t, .c (.v (.tuple #[(.agg #[(.int .i64 (i0)), (.int .i64 (i1))]), (.int .i64 (i2))])) [] 0, .e, .t] (by kernel_rfl) (cj h0 (cj h1 (cj h2 cj0)))
theorem rDe_2 (op n m p q : Int) (i0 : Int) (i1 : Int) (i2 : Int) (h0 : (op == 6) = true) (h1 : Does cE 234 [] 0 [.v (.agg #[(.int .i64 (n)), (.int .i64 (m))]), .v (.agg #[(.int .i64 (p)), (.int .i64 (q))])] (.v (.tuple #[(.agg #[(.int .i64 (i0)), (.int .i64 (i1))]), (.int .i64 (i2))])) [] 0) (h2 : (i2 != 0) = false) : Does cE 177 [] 0 [.v (it op), .v (dc n m), .v (dc p q)] (.v (.tuple #[(.agg #[(.int .i64 (2)), (.int .i64 (i0)), (.int .i64 (i1)), (.string ((ByteArray.mk #[])))]), (.int .i64 (0))])) [] 0 :=
  does_path (ct := ct) ctOk mixed (fn := Tryz.f177) rfl (by kernel_rfl) 2000 [.t, .c (.v (.tuple #[(.agg #[(.int .i64 (i0)), (.int .i64 (i1))]), (.int .i64 (i2))])) [] 0, .e, .f] (by kernel_rfl) (cj h0 (cj h1 (cj h2 cj0)))
theorem rDe_3 (op n m p q : Int) (i0 : Int) (i1 : Int) (i2 : Int) (h0 : (op == 6) = false) (h1 : (op == 7) = true) (h2 : Does cE 235 [] 0 [.v (.agg #[(.int .i64 (n)), (.int .i64 (m))]), .v (.agg #[(.int .i64 (p)), (.int .i64 (q))]), .v (.int .i64 (6))] (.v (.tuple #[(.agg #[(.int .i64 (i0)), (.int .i64 (i1))]), (.int .i64 (i2))])) [] 0) (h3 : (i2 != 0) = true) : Does cE 177 [] 0 [.v (it op), .v (dc n m), .v (dc p q)] (.v (.tuple #[(.agg #[(.int .i64 (0)), (.int .i64 (0)), (.int .i64 (0)), (.string ((ByteArray.mk #[])))]), (.int .i64 (i2))])) [] 0 :=
  does_path (ct := ct) ctOk mixed (fn := Tryz.f177) rfl (by kernel_rfl) 2000 [.f, .t, .c (.v (.tuple #[(.agg #[(.int .i64 (i0)), (.int .i64 (i1))]), (.int .i64 (i2))])) [] 0, .e, .t] (by kernel_rfl) (cj h0 (cj h1 (cj h2 (cj h3 cj0))))
theorem rDe_4 (op n m p q : Int) (i0 : Int) (i1 : Int) (i2 : Int) (h0 : (op == 6) = false) (h1 : (op == 7) = true) (h2 : Does cE 235 [] 0 [.v (.agg #[(.int .i64 (n)), (.int .i64 (m))]), .v (.agg #[(.int .i64 (p)), (.int .i64 (q))]), .v (.int .i64 (6))] (.v (.tuple #[(.agg #[(.int .i64 (i0)), (.int .i64 (i1))]), (.int .i64 (i2))])) [] 0) (h3 : (i2 != 0) = false) : Does cE 177 [] 0 [.v (it op), .v (dc n m), .v (dc p q)] (.v (.tuple #[(.agg #[(.int .i64 (2)), (.int .i64 (i0)), (.int .i64 (i1)), (.string ((ByteArray.mk #[])))]), (.int .i64 (0))])) [] 0 :=
  does_path (ct := ct) ctOk mixed (fn := Tryz.f177) rfl (by kernel_rfl) 2000 [.f, .t, .c (.v (.tuple #[(.agg #[(.int .i64 (i0)), (.int .i64 (i1))]), (.int .i64 (i2))])) [] 0, .e, .f] (by kernel_rfl) (cj h0 (cj h1 (cj h2 (cj h3 cj0))))
theorem rDe_5 (op n m p q : Int) (i0 : Int) (i1 : Int) (i2 : Int) (h0 : (op == 6) = false) (h1 : (op == 7) = false) (h2 : (op == 9) = true) (h3 : Does cE 236 [] 0 [.v (.agg #[(.int .i64 (n)), (.int .i64 (m))]), .v (.agg #[(.int .i64 (p)), (.int .i64 (q))])] (.v (.tuple #[(.agg #[(.int .i64 (i0)), (.int .i64 (i1))]), (.int .i64 (i2))])) [] 0) (h4 : (i2 != 0) = true) : Does cE 177 [] 0 [.v (it op), .v (dc n m), .v (dc p q)] (.v (.tuple #[(.agg #[(.int .i64 (0)), (.int .i64 (0)), (.int .i64 (0)), (.string ((ByteArray.mk #[])))]), (.int .i64 (i2))])) [] 0 :=
  does_path (ct := ct) ctOk mixed (fn := Tryz.f177) rfl (by kernel_rfl) 2000 [.f, .f, .t, .c (.v (.tuple #[(.agg #[(.int .i64 (i0)), (.int .i64 (i1))]), (.int .i64 (i2))])) [] 0, .e, .t] (by kernel_rfl) (cj h0 (cj h1 (cj h2 (cj h3 (cj h4 cj0)))))
theorem rDe_6 (op n m p q : Int) (i0 : Int) (i1 : Int) (i2 : Int) (h0 : (op == 6) = false) (h1 : (op == 7) = false) (h2 : (op == 9) = true) (h3 : Does cE 236 [] 0 [.v (.agg #[(.int .i64 (n)), (.int .i64 (m))]), .v (.agg #[(.int .i64 (p)), (.int .i64 (q))])] (.v (.tuple #[(.agg #[(.int .i64 (i0)), (.int .i64 (i1))]), (.int .i64 (i2))])) [] 0) (h4 : (i2 != 0) = false) : Does cE 177 [] 0 [.v (it op), .v (dc n m), .v (dc p q)] (.v (.tuple #[(.agg #[(.int .i64 (2)), (.int .i64 (i0)), (.int .i64 (i1)), (.string ((ByteArray.mk #[])))]), (.int .i64 (0))])) [] 0 :=
  does_path (ct := ct) ctOk mixed (fn := Tryz.f177) rfl (by kernel_rfl) 2000 [.f, .f, .t, .c (.v (.tuple #[(.agg #[(.int .i64 (i0)), (.int .i64 (i1))]), (.int .i64 (i2))])) [] 0, .e, .f] (by kernel_rfl) (cj h0 (cj h1 (cj h2 (cj h3 (cj h4 cj0)))))
theorem rDe_7 (op n m p q : Int) (i0 : Int) (i1 : Int) (i2 : Int) (h0 : (op == 6) = false) (h1 : (op == 7) = false) (h2 : (op == 9) = false) (h3 : (op == 10) = true) (h4 : Does cE 162 [] 0 [.v (.agg #[(.int .i64 (n)), (.int .i64 (m))]), .v (.agg #[(.int .i64 (p)), (.int .i64 (q))])] (.v (.tuple #[(.agg #[(.int .i64 (i0)), (.int .i64 (i1))]), (.int .i64 (i2))])) [] 0) (h5 : (i2 != 0) = true) : Does cE 177 [] 0 [.v (it op), .v (dc n m), .v (dc p q)] (.v (.tuple #[(.agg #[(.int .i64 (0)), (.int .i64 (0)), (.int .i64 (0)), (.string ((ByteArray.mk #[])))]), (.int .i64 (i2))])) [] 0 :=
  does_path (ct := ct) ctOk mixed (fn := Tryz.f177) rfl (by kernel_rfl) 2000 [.f, .f, .f, .t, .c (.v (.tuple #[(.agg #[(.int .i64 (i0)), (.int .i64 (i1))]), (.int .i64 (i2))])) [] 0, .e, .t] (by kernel_rfl) (cj h0 (cj h1 (cj h2 (cj h3 (cj h4 (cj h5 cj0))))))
theorem rDe_8 (op n m p q : Int) (i0 : Int) (i1 : Int) (i2 : Int) (h0 : (op == 6) = false) (h1 : (op == 7) = false) (h2 : (op == 9) = false) (h3 : (op == 10) = true) (h4 : Does cE 162 [] 0 [.v (.agg #[(.int .i64 (n)), (.int .i64 (m))]), .v (.agg #[(.int .i64 (p)), (.int .i64 (q))])] (.v (.tuple #[(.agg #[(.int .i64 (i0)), (.int .i64 (i1))]), (.int .i64 (i2))])) [] 0) (h5 : (i2 != 0) = false) : Does cE 177 [] 0 [.v (it op), .v (dc n m), .v (dc p q)] (.v (.tuple #[(.agg #[(.int .i64 (2)), (.int .i64 (i0)), (.int .i64 (i1)), (.string ((ByteArray.mk #[])))]), (.int .i64 (0))])) [] 0 :=
  does_path (ct := ct) ctOk mixed (fn := Tryz.f177) rfl (by kernel_rfl) 2000 [.f, .f, .f, .t, .c (.v (.tuple #[(.agg #[(.int .i64 (i0)), (.int .i64 (i1))]), (.int .i64 (i2))])) [] 0, .e, .f] (by kernel_rfl) (cj h0 (cj h1 (cj h2 (cj h3 (cj h4 (cj h5 cj0))))))
theorem rDe_9 (op n m p q : Int) (h0 : (op == 6) = false) (h1 : (op == 7) = false) (h2 : (op == 9) = false) (h3 : (op == 10) = false) : Does cE 177 [] 0 [.v (it op), .v (dc n m), .v (dc p q)] (.v (.tuple #[(.agg #[(.int .i64 (0)), (.int .i64 (0)), (.int .i64 (0)), (.string ((ByteArray.mk #[])))]), (.int .i64 (31))])) [] 0 :=
  does_path (ct := ct) ctOk mixed (fn := Tryz.f177) rfl (by kernel_rfl) 2000 [.f, .f, .f, .f] (by kernel_rfl) (cj h0 (cj h1 (cj h2 (cj h3 cj0))))
theorem rPo_1 (op n m p q : Int) (i0 : Int) (i1 : Int) (i2 : Int) (h0 : (op == 6) = true) (h1 : Does cE 237 [] 0 [.v (.agg #[(.int .i64 (n)), (.int .i64 (m))]), .v (.agg #[(.int .i64 (p)), (.int .i64 (q))])] (.v (.tuple #[(.agg #[(.int .i64 (i0)), (.int .i64 (i1))]), (.int .i64 (i2))])) [] 0) (h2 : (i2 != 0) = true) : Does cE 178 [] 0 [.v (it op), .v (dc n m), .v (dc p q)] (.v (.tuple #[(.agg #[(.int .i64 (0)), (.int .i64 (0)), (.int .i64 (0)), (.string ((ByteArray.mk #[])))]), (.int .i64 (i2))])) [] 0 :=
  does_path (ct := ct) ctOk mixed (fn := Tryz.f178) rfl (by kernel_rfl) 2000 [.t, .c (.v (.tuple #[(.agg #[(.int .i64 (i0)), (.int .i64 (i1))]), (.int .i64 (i2))])) [] 0, .e, .t] (by kernel_rfl) (cj h0 (cj h1 (cj h2 cj0)))
theorem rPo_2 (op n m p q : Int) (i0 : Int) (i1 : Int) (i2 : Int) (h0 : (op == 6) = true) (h1 : Does cE 237 [] 0 [.v (.agg #[(.int .i64 (n)), (.int .i64 (m))]), .v (.agg #[(.int .i64 (p)), (.int .i64 (q))])] (.v (.tuple #[(.agg #[(.int .i64 (i0)), (.int .i64 (i1))]), (.int .i64 (i2))])) [] 0) (h2 : (i2 != 0) = false) : Does cE 178 [] 0 [.v (it op), .v (dc n m), .v (dc p q)] (.v (.tuple #[(.agg #[(.int .i64 (5)), (.int .i64 (i0)), (.int .i64 (i1)), (.string ((ByteArray.mk #[])))]), (.int .i64 (0))])) [] 0 :=
  does_path (ct := ct) ctOk mixed (fn := Tryz.f178) rfl (by kernel_rfl) 2000 [.t, .c (.v (.tuple #[(.agg #[(.int .i64 (i0)), (.int .i64 (i1))]), (.int .i64 (i2))])) [] 0, .e, .f] (by kernel_rfl) (cj h0 (cj h1 (cj h2 cj0)))
theorem rPo_3 (op n m p q : Int) (i0 : Int) (i1 : Int) (i2 : Int) (h0 : (op == 6) = false) (h1 : (op == 9) = true) (h2 : Does cE 238 [] 0 [.v (.agg #[(.int .i64 (n)), (.int .i64 (m))]), .v (.agg #[(.int .i64 (p)), (.int .i64 (q))])] (.v (.tuple #[(.agg #[(.int .i64 (i0)), (.int .i64 (i1))]), (.int .i64 (i2))])) [] 0) (h3 : (i2 != 0) = true) : Does cE 178 [] 0 [.v (it op), .v (dc n m), .v (dc p q)] (.v (.tuple #[(.agg #[(.int .i64 (0)), (.int .i64 (0)), (.int .i64 (0)), (.string ((ByteArray.mk #[])))]), (.int .i64 (i2))])) [] 0 :=
  does_path (ct := ct) ctOk mixed (fn := Tryz.f178) rfl (by kernel_rfl) 2000 [.f, .t, .c (.v (.tuple #[(.agg #[(.int .i64 (i0)), (.int .i64 (i1))]), (.int .i64 (i2))])) [] 0, .e, .t] (by kernel_rfl) (cj h0 (cj h1 (cj h2 (cj h3 cj0))))
theorem rPo_4 (op n m p q : Int) (i0 : Int) (i1 : Int) (i2 : Int) (h0 : (op == 6) = false) (h1 : (op == 9) = true) (h2 : Does cE 238 [] 0 [.v (.agg #[(.int .i64 (n)), (.int .i64 (m))]), .v (.agg #[(.int .i64 (p)), (.int .i64 (q))])] (.v (.tuple #[(.agg #[(.int .i64 (i0)), (.int .i64 (i1))]), (.int .i64 (i2))])) [] 0) (h3 : (i2 != 0) = false) : Does cE 178 [] 0 [.v (it op), .v (dc n m), .v (dc p q)] (.v (.tuple #[(.agg #[(.int .i64 (5)), (.int .i64 (i0)), (.int .i64 (i1)), (.string ((ByteArray.mk #[])))]), (.int .i64 (0))])) [] 0 :=
  does_path (ct := ct) ctOk mixed (fn := Tryz.f178) rfl (by kernel_rfl) 2000 [.f, .t, .c (.v (.tuple #[(.agg #[(.int .i64 (i0)), (.int .i64 (i1))]), (.int .i64 (i2))])) [] 0, .e, .f] (by kernel_rfl) (cj h0 (cj h1 (cj h2 (cj h3 cj0))))
theorem rPo_5 (op n m p q : Int) (i0 : Int) (i1 : Int) (i2 : Int) (h0 : (op == 6) = false) (h1 : (op == 9) = false) (h2 : (op == 10) = true) (h3 : Does cE 239 [] 0 [.v (.agg #[(.int .i64 (n)), (.int .i64 (m))]), .v (.agg #[(.int .i64 (p)), (.int .i64 (q))])] (.v (.tuple #[(.agg #[(.int .i64 (i0)), (.int .i64 (i1))]), (.int .i64 (i2))])) [] 0) (h4 : (i2 != 0) = true) : Does cE 178 [] 0 [.v (it op), .v (dc n m), .v (dc p q)] (.v (.tuple #[(.agg #[(.int .i64 (0)), (.int .i64 (0)), (.int .i64 (0)), (.string ((ByteArray.mk #[])))]), (.int .i64 (i2))])) [] 0 :=
  does_path (ct := ct) ctOk mixed (fn := Tryz.f178) rfl (by kernel_rfl) 2000 [.f, .f, .t, .c (.v (.tuple #[(.agg #[(.int .i64 (i0)), (.int .i64 (i1))]), (.int .i64 (i2))])) [] 0, .e, .t] (by kernel_rfl) (cj h0 (cj h1 (cj h2 (cj h3 (cj h4 cj0)))))
theorem rPo_6 (op n m p q : Int) (i0 : Int) (i1 : Int) (i2 : Int) (h0 : (op == 6) = false) (h1 : (op == 9) = false) (h2 : (op == 10) = true) (h3 : Does cE 239 [] 0 [.v (.agg #[(.int .i64 (n)), (.int .i64 (m))]), .v (.agg #[(.int .i64 (p)), (.int .i64 (q))])] (.v (.tuple #[(.agg #[(.int .i64 (i0)), (.int .i64 (i1))]), (.int .i64 (i2))])) [] 0) (h4 : (i2 != 0) = false) : Does cE 178 [] 0 [.v (it op), .v (dc n m), .v (dc p q)] (.v (.tuple #[(.agg #[(.int .i64 (5)), (.int .i64 (i0)), (.int .i64 (i1)), (.string ((ByteArray.mk #[])))]), (.int .i64 (0))])) [] 0 :=
  does_path (ct := ct) ctOk mixed (fn := Tryz.f178) rfl (by kernel_rfl) 2000 [.f, .f, .t, .c (.v (.tuple #[(.agg #[(.int .i64 (i0)), (.int .i64 (i1))]), (.int .i64 (i2))])) [] 0, .e, .f] (by kernel_rfl) (cj h0 (cj h1 (cj h2 (cj h3 (cj h4 cj0)))))
theorem rPo_7 (op n m p q : Int) (i0 : Int) (i1 : Int) (i2 : Int) (i3 : Int) (i4 : Int) (h0 : (op == 6) = false) (h1 : (op == 9) = false) (h2 : (op == 10) = false) (h3 : Does cE 240 [] 0 [.v (.agg #[(.int .i64 (n)), (.int .i64 (m))]), .v (.agg #[(.int .i64 (p)), (.int .i64 (q))])] (.v (.tuple #[(.agg #[(.int .i64 (i0)), (.int .i64 (i1))]), (.agg #[(.int .i64 (i2)), (.int .i64 (i3))]), (.int .i64 (i4))])) [] 0) (h4 : (op == 7) = true) (h5 : (i4 != 0) = true) : Does cE 178 [] 0 [.v (it op), .v (dc n m), .v (dc p q)] (.v (.tuple #[(.agg #[(.int .i64 (0)), (.int .i64 (0)), (.int .i64 (0)), (.string ((ByteArray.mk #[])))]), (.int .i64 (i4))])) [] 0 :=
  does_path (ct := ct) ctOk mixed (fn := Tryz.f178) rfl (by kernel_rfl) 2000 [.f, .f, .f, .c (.v (.tuple #[(.agg #[(.int .i64 (i0)), (.int .i64 (i1))]), (.agg #[(.int .i64 (i2)), (.int .i64 (i3))]), (.int .i64 (i4))])) [] 0, .t, .e, .t] (by kernel_rfl) (cj h0 (cj h1 (cj h2 (cj h3 (cj h4 (cj h5 cj0))))))
theorem rPo_8 (op n m p q : Int) (i0 : Int) (i1 : Int) (i2 : Int) (i3 : Int) (i4 : Int) (h0 : (op == 6) = false) (h1 : (op == 9) = false) (h2 : (op == 10) = false) (h3 : Does cE 240 [] 0 [.v (.agg #[(.int .i64 (n)), (.int .i64 (m))]), .v (.agg #[(.int .i64 (p)), (.int .i64 (q))])] (.v (.tuple #[(.agg #[(.int .i64 (i0)), (.int .i64 (i1))]), (.agg #[(.int .i64 (i2)), (.int .i64 (i3))]), (.int .i64 (i4))])) [] 0) (h4 : (op == 7) = true) (h5 : (i4 != 0) = false) : Does cE 178 [] 0 [.v (it op), .v (dc n m), .v (dc p q)] (.v (.tuple #[(.agg #[(.int .i64 (5)), (.int .i64 (i0)), (.int .i64 (i1)), (.string ((ByteArray.mk #[])))]), (.int .i64 (0))])) [] 0 :=
  does_path (ct := ct) ctOk mixed (fn := Tryz.f178) rfl (by kernel_rfl) 2000 [.f, .f, .f, .c (.v (.tuple #[(.agg #[(.int .i64 (i0)), (.int .i64 (i1))]), (.agg #[(.int .i64 (i2)), (.int .i64 (i3))]), (.int .i64 (i4))])) [] 0, .t, .e, .f] (by kernel_rfl) (cj h0 (cj h1 (cj h2 (cj h3 (cj h4 (cj h5 cj0))))))
theorem rPo_9 (op n m p q : Int) (i0 : Int) (i1 : Int) (i2 : Int) (i3 : Int) (i4 : Int) (h0 : (op == 6) = false) (h1 : (op == 9) = false) (h2 : (op == 10) = false) (h3 : Does cE 240 [] 0 [.v (.agg #[(.int .i64 (n)), (.int .i64 (m))]), .v (.agg #[(.int .i64 (p)), (.int .i64 (q))])] (.v (.tuple #[(.agg #[(.int .i64 (i0)), (.int .i64 (i1))]), (.agg #[(.int .i64 (i2)), (.int .i64 (i3))]), (.int .i64 (i4))])) [] 0) (h4 : (op == 7) = false) (h5 : (i4 != 0) = true) : Does cE 178 [] 0 [.v (it op), .v (dc n m), .v (dc p q)] (.v (.tuple #[(.agg #[(.int .i64 (0)), (.int .i64 (0)), (.int .i64 (0)), (.string ((ByteArray.mk #[])))]), (.int .i64 (i4))])) [] 0 :=
  does_path (ct := ct) ctOk mixed (fn := Tryz.f178) rfl (by kernel_rfl) 2000 [.f, .f, .f, .c (.v (.tuple #[(.agg #[(.int .i64 (i0)), (.int .i64 (i1))]), (.agg #[(.int .i64 (i2)), (.int .i64 (i3))]), (.int .i64 (i4))])) [] 0, .f, .e, .t] (by kernel_rfl) (cj h0 (cj h1 (cj h2 (cj h3 (cj h4 (cj h5 cj0))))))
theorem rPo_10 (op n m p q : Int) (i0 : Int) (i1 : Int) (i2 : Int) (i3 : Int) (i4 : Int) (h0 : (op == 6) = false) (h1 : (op == 9) = false) (h2 : (op == 10) = false) (h3 : Does cE 240 [] 0 [.v (.agg #[(.int .i64 (n)), (.int .i64 (m))]), .v (.agg #[(.int .i64 (p)), (.int .i64 (q))])] (.v (.tuple #[(.agg #[(.int .i64 (i0)), (.int .i64 (i1))]), (.agg #[(.int .i64 (i2)), (.int .i64 (i3))]), (.int .i64 (i4))])) [] 0) (h4 : (op == 7) = false) (h5 : (i4 != 0) = false) : Does cE 178 [] 0 [.v (it op), .v (dc n m), .v (dc p q)] (.v (.tuple #[(.agg #[(.int .i64 (5)), (.int .i64 (i2)), (.int .i64 (i3)), (.string ((ByteArray.mk #[])))]), (.int .i64 (0))])) [] 0 :=
  does_path (ct := ct) ctOk mixed (fn := Tryz.f178) rfl (by kernel_rfl) 2000 [.f, .f, .f, .c (.v (.tuple #[(.agg #[(.int .i64 (i0)), (.int .i64 (i1))]), (.agg #[(.int .i64 (i2)), (.int .i64 (i3))]), (.int .i64 (i4))])) [] 0, .f, .e, .f] (by kernel_rfl) (cj h0 (cj h1 (cj h2 (cj h3 (cj h4 (cj h5 cj0))))))
theorem rHo_1 (op a : Int) (h0 : (op == 11) = true) : Does cE 99 [] 0 [.v (it op), .v (it a)] (.v (.bool (a == 0))) [] 0 :=
  does_path (ct := ct) ctOk mixed (fn := Tryz.f99) rfl (by kernel_rfl) 2000 [.t] (by kernel_rfl) (cj h0 cj0)
theorem rHo_2 (op a : Int) (h0 : (op == 11) = false) (h1 : (op == 12) = true) : Does cE 99 [] 0 [.v (it op), .v (it a)] (.v (.bool (a != 0))) [] 0 :=
  does_path (ct := ct) ctOk mixed (fn := Tryz.f99) rfl (by kernel_rfl) 2000 [.f, .t] (by kernel_rfl) (cj h0 (cj h1 cj0))
theorem rHo_3 (op a : Int) (h0 : (op == 11) = false) (h1 : (op == 12) = false) (h2 : (op == 13) = true) : Does cE 99 [] 0 [.v (it op), .v (it a)] (.v (.bool (decide (a < 0)))) [] 0 :=
  does_path (ct := ct) ctOk mixed (fn := Tryz.f99) rfl (by kernel_rfl) 2000 [.f, .f, .t] (by kernel_rfl) (cj h0 (cj h1 (cj h2 cj0)))
theorem rHo_4 (op a : Int) (h0 : (op == 11) = false) (h1 : (op == 12) = false) (h2 : (op == 13) = false) (h3 : (op == 14) = true) : Does cE 99 [] 0 [.v (it op), .v (it a)] (.v (.bool (decide (a ≤ 0)))) [] 0 :=
  does_path (ct := ct) ctOk mixed (fn := Tryz.f99) rfl (by kernel_rfl) 2000 [.f, .f, .f, .t] (by kernel_rfl) (cj h0 (cj h1 (cj h2 (cj h3 cj0))))
theorem rHo_5 (op a : Int) (h0 : (op == 11) = false) (h1 : (op == 12) = false) (h2 : (op == 13) = false) (h3 : (op == 14) = false) (h4 : (op == 15) = true) : Does cE 99 [] 0 [.v (it op), .v (it a)] (.v (.bool (decide (a > 0)))) [] 0 :=
  does_path (ct := ct) ctOk mixed (fn := Tryz.f99) rfl (by kernel_rfl) 2000 [.f, .f, .f, .f, .t] (by kernel_rfl) (cj h0 (cj h1 (cj h2 (cj h3 (cj h4 cj0)))))
theorem rHo_6 (op a : Int) (h0 : (op == 11) = false) (h1 : (op == 12) = false) (h2 : (op == 13) = false) (h3 : (op == 14) = false) (h4 : (op == 15) = false) : Does cE 99 [] 0 [.v (it op), .v (it a)] (.v (.bool (decide (a ≥ 0)))) [] 0 :=
  does_path (ct := ct) ctOk mixed (fn := Tryz.f99) rfl (by kernel_rfl) 2000 [.f, .f, .f, .f, .f] (by kernel_rfl) (cj h0 (cj h1 (cj h2 (cj h3 (cj h4 cj0)))))
theorem rTb_1 (t : Bool) (i0 : Int) (i1 : Int) (i2 : Int) (s3 : ByteArray) (h0 : t = true) (h1 : Does cE 85 [] 0 [.v (.int .i64 (1))] (.v (.agg #[(.int .i64 (i0)), (.int .i64 (i1)), (.int .i64 (i2)), (.string (s3))])) [] 0) : Does cE 98 [] 0 [.v (.bool t)] (.v (.agg #[(.int .i64 (i0)), (.int .i64 (i1)), (.int .i64 (i2)), (.string (s3))])) [] 0 :=
  does_path (ct := ct) ctOk mixed (fn := Tryz.f98) rfl (by kernel_rfl) 2000 [.t, .c (.v (.agg #[(.int .i64 (i0)), (.int .i64 (i1)), (.int .i64 (i2)), (.string (s3))])) [] 0] (by kernel_rfl) (cj h0 (cj h1 cj0))
theorem rTb_2 (t : Bool) (i0 : Int) (i1 : Int) (i2 : Int) (s3 : ByteArray) (h0 : t = false) (h1 : Does cE 85 [] 0 [.v (.int .i64 (0))] (.v (.agg #[(.int .i64 (i0)), (.int .i64 (i1)), (.int .i64 (i2)), (.string (s3))])) [] 0) : Does cE 98 [] 0 [.v (.bool t)] (.v (.agg #[(.int .i64 (i0)), (.int .i64 (i1)), (.int .i64 (i2)), (.string (s3))])) [] 0 :=
  does_path (ct := ct) ctOk mixed (fn := Tryz.f98) rfl (by kernel_rfl) 2000 [.f, .c (.v (.agg #[(.int .i64 (i0)), (.int .i64 (i1)), (.int .i64 (i2)), (.string (s3))])) [] 0] (by kernel_rfl) (cj h0 (cj h1 cj0))
end Go.Proofs.YtnchjdhepakokaaGreatDoorC
namespace Go.Proofs.YtnchjdhepakokaaGreatDoorC
open Go.Proofs Go.Proofs.YtnchjdhepakokaaGreatDoorSx Go.Lib
set_option maxRecDepth 100000
set_option linter.unusedVariables false
set_option linter.unusedSimpArgs false
def pNg_v (k n m : Int) (s : ByteArray) : Value :=
  bif (k == 0) then (.tuple #[(.agg #[(.int .i64 (k)), (.int .i64 (n)), (.int .i64 (m)), (.string (s))]), (.int .i64 (0))])
  else bif (k == 1) then bif (((sumM 0 m n m true).2.2) != 0) then (.tuple #[(.agg #[(.int .i64 (0)), (.int .i64 (0)), (.int .i64 (0)), (.string ((ByteArray.mk #[])))]), (.int .i64 (((sumM 0 m n m true).2.2)))])
    else (.tuple #[(.agg #[(.int .i64 (1)), (.int .i64 (((sumM 0 m n m true).1))), (.int .i64 (0)), (.string ((ByteArray.mk #[])))]), (.int .i64 (0))])
  else bif (k == 2) then bif (((sumM 0 m n m true).2.2) != 0) then (.tuple #[(.agg #[(.int .i64 (0)), (.int .i64 (0)), (.int .i64 (0)), (.string ((ByteArray.mk #[])))]), (.int .i64 (((sumM 0 m n m true).2.2)))])
    else (.tuple #[(.agg #[(.int .i64 (2)), (.int .i64 (((sumM 0 m n m true).1))), (.int .i64 (((sumM 0 m n m true).2.1))), (.string ((ByteArray.mk #[])))]), (.int .i64 (0))])
  else bif (k == 5) then (.tuple #[(.agg #[(.int .i64 (5)), (.int .i64 (((tnV n m 2).1))), (.int .i64 (((tnV n m 2).2))), (.string ((ByteArray.mk #[])))]), (.int .i64 (0))])
  else (.tuple #[(.agg #[(.int .i64 (0)), (.int .i64 (0)), (.int .i64 (0)), (.string ((ByteArray.mk #[])))]), (.int .i64 (31))])
theorem pNg_v_does (k n m : Int) (s : ByteArray) (hn : I64 n) (hm : I64 m) (hs : s.size ≤ 140737488351232) : Does cE 84 [] 0 [.v (vl k n m s)] (.v (pNg_v k n m s)) [] 0 := by
  unfold pNg_v
  refine dbif (fun c1 => ?_) (fun c1 => ?_)
  · exact pNg_1 (k := k) (n := n) (m := m) (s := s) (h0 := c1)
  · refine dbif (fun c2 => ?_) (fun c2 => ?_)
    · refine dbif (fun c3 => ?_) (fun c3 => ?_)
      · exact pNg_2 (k := k) (n := n) (m := m) (s := s) (h0 := c1) (h1 := c2) (h2 := pneg_does (u := n) (x := m) (by first | assumption | decide) (by first | assumption | decide)) (h3 := c3)
      · exact pNg_3 (k := k) (n := n) (m := m) (s := s) (h0 := c1) (h1 := c2) (h2 := pneg_does (u := n) (x := m) (by first | assumption | decide) (by first | assumption | decide)) (h3 := c3)
    · refine dbif (fun c4 => ?_) (fun c4 => ?_)
      · refine dbif (fun c5 => ?_) (fun c5 => ?_)
        · exact pNg_4 (k := k) (n := n) (m := m) (s := s) (h0 := c1) (h1 := c2) (h2 := c4) (h3 := pneg_does (u := n) (x := m) (by first | assumption | decide) (by first | assumption | decide)) (h4 := c5)
        · exact pNg_5 (k := k) (n := n) (m := m) (s := s) (h0 := c1) (h1 := c2) (h2 := c4) (h3 := pneg_does (u := n) (x := m) (by first | assumption | decide) (by first | assumption | decide)) (h4 := c5)
      · refine dbif (fun c6 => ?_) (fun c6 => ?_)
        · exact pNg_6 (k := k) (n := n) (m := m) (s := s) (h0 := c1) (h1 := c2) (h2 := c4) (h3 := c6) (h4 := turn_does n m 2)
        · exact pNg_7 (k := k) (n := n) (m := m) (s := s) (h0 := c1) (h1 := c2) (h2 := c4) (h3 := c6)
def rUn_v (op k n m : Int) (s : ByteArray) : Value :=
  bif (decide (op < 3)) then (.tuple #[(.agg #[(.int .i64 (0)), (.int .i64 (0)), (.int .i64 (0)), (.string ((ByteArray.mk #[])))]), (.int .i64 (1))])
  else bif (decide (op > 5)) then (.tuple #[(.agg #[(.int .i64 (0)), (.int .i64 (0)), (.int .i64 (0)), (.string ((ByteArray.mk #[])))]), (.int .i64 (1))])
  else bif (!(okV k n m s)) then (.tuple #[(.agg #[(.int .i64 (0)), (.int .i64 (0)), (.int .i64 (0)), (.string ((ByteArray.mk #[])))]), (.int .i64 (1))])
  else bif (op == 5) then bif (k == 0) then (.tuple #[(.agg #[(.int .i64 ((ofK 1))), (.int .i64 ((ofN 1))), (.int .i64 (0)), (.string (bE))]), (.int .i64 (0))])
    else (.tuple #[(.agg #[(.int .i64 ((ofK 0))), (.int .i64 ((ofN 0))), (.int .i64 (0)), (.string (bE))]), (.int .i64 (0))])
  else bif (op == 4) then bif (!(trB k n m s)) then (.tuple #[(.agg #[(.int .i64 (0)), (.int .i64 (0)), (.int .i64 (0)), (.string ((ByteArray.mk #[])))]), (.int .i64 (31))])
    else (.tuple #[(.agg #[(.int .i64 ((ofK (notV (trN k n m s))))), (.int .i64 ((ofN (notV (trN k n m s))))), (.int .i64 (0)), (.string (bE))]), (.int .i64 (0))])
  else bif (k == 0) then (.tuple #[(.agg #[(.int .i64 (0)), (.int .i64 (0)), (.int .i64 (0)), (.string ((ByteArray.mk #[])))]), (.int .i64 (0))])
  else bif (k == 1) then bif (((sumM 0 m n m true).2.2) != 0) then (.tuple #[(.agg #[(.int .i64 (0)), (.int .i64 (0)), (.int .i64 (0)), (.string ((ByteArray.mk #[])))]), (.int .i64 (((sumM 0 m n m true).2.2)))])
    else (.tuple #[(.agg #[(.int .i64 (1)), (.int .i64 (((sumM 0 m n m true).1))), (.int .i64 (0)), (.string ((ByteArray.mk #[])))]), (.int .i64 (0))])
  else bif (k == 2) then bif (((sumM 0 m n m true).2.2) != 0) then (.tuple #[(.agg #[(.int .i64 (0)), (.int .i64 (0)), (.int .i64 (0)), (.string ((ByteArray.mk #[])))]), (.int .i64 (((sumM 0 m n m true).2.2)))])
    else (.tuple #[(.agg #[(.int .i64 (2)), (.int .i64 (((sumM 0 m n m true).1))), (.int .i64 (((sumM 0 m n m true).2.1))), (.string ((ByteArray.mk #[])))]), (.int .i64 (0))])
  else bif (k == 5) then (.tuple #[(.agg #[(.int .i64 (5)), (.int .i64 (((tnV n m 2).1))), (.int .i64 (((tnV n m 2).2))), (.string ((ByteArray.mk #[])))]), (.int .i64 (0))])
  else (.tuple #[(.agg #[(.int .i64 (0)), (.int .i64 (0)), (.int .i64 (0)), (.string ((ByteArray.mk #[])))]), (.int .i64 (31))])
theorem rUn_v_does (op k n m : Int) (s : ByteArray) (hn : I64 n) (hm : I64 m) (hs : s.size ≤ 140737488351232) : Does cE 24 [] 0 [.v (it op), .v (vl k n m s)] (.v (rUn_v op k n m s)) [] 0 := by
  unfold rUn_v
  refine dbif (fun c1 => ?_) (fun c1 => ?_)
  · exact rUn_1 (op := op) (k := k) (n := n) (m := m) (s := s) (h0 := c1)
  · refine dbif (fun c2 => ?_) (fun c2 => ?_)
    · exact rUn_2 (op := op) (k := k) (n := n) (m := m) (s := s) (h0 := c1) (h1 := c2)
    · refine dbif (fun c3 => ?_) (fun c3 => ?_)
      · exact rUn_3 (op := op) (k := k) (n := n) (m := m) (s := s) (h0 := c1) (h1 := c2) (h2 := right4_does k n m s hs) (h3 := c3)
      · refine dbif (fun c4 => ?_) (fun c4 => ?_)
        · refine dbif (fun c5 => ?_) (fun c5 => ?_)
          · exact rUn_4 (op := op) (k := k) (n := n) (m := m) (s := s) (h0 := c1) (h1 := c2) (h2 := right4_does k n m s hs) (h3 := c3) (h4 := c4) (h5 := c5) (h6 := rof4_does 1)
          · exact rUn_5 (op := op) (k := k) (n := n) (m := m) (s := s) (h0 := c1) (h1 := c2) (h2 := right4_does k n m s hs) (h3 := c3) (h4 := c4) (h5 := c5) (h6 := rof4_does 0)
        · refine dbif (fun c6 => ?_) (fun c6 => ?_)
          · refine dbif (fun c7 => ?_) (fun c7 => ?_)
            · exact rUn_6 (op := op) (k := k) (n := n) (m := m) (s := s) (h0 := c1) (h1 := c2) (h2 := right4_does k n m s hs) (h3 := c3) (h4 := c4) (h5 := c6) (h6 := truth4_does k n m s hs) (h7 := c7)
            · exact rUn_7 (op := op) (k := k) (n := n) (m := m) (s := s) (h0 := c1) (h1 := c2) (h2 := right4_does k n m s hs) (h3 := c3) (h4 := c4) (h5 := c6) (h6 := truth4_does k n m s hs) (h7 := c7) (h8 := rnot_does (trN k n m s)) (h9 := rof4_does (notV (trN k n m s)))
          · refine dbif (fun c8 => ?_) (fun c8 => ?_)
            · exact rUn_8 (op := op) (k := k) (n := n) (m := m) (s := s) (h0 := c1) (h1 := c2) (h2 := right4_does k n m s hs) (h3 := c3) (h4 := c4) (h5 := c6) (h6 := c8)
            · refine dbif (fun c9 => ?_) (fun c9 => ?_)
              · refine dbif (fun c10 => ?_) (fun c10 => ?_)
                · exact rUn_9 (op := op) (k := k) (n := n) (m := m) (s := s) (h0 := c1) (h1 := c2) (h2 := right4_does k n m s hs) (h3 := c3) (h4 := c4) (h5 := c6) (h6 := c8) (h7 := c9) (h8 := rneg_does (u := n) (x := m) (by first | assumption | decide) (by first | assumption | decide)) (h9 := c10)
                · exact rUn_10 (op := op) (k := k) (n := n) (m := m) (s := s) (h0 := c1) (h1 := c2) (h2 := right4_does k n m s hs) (h3 := c3) (h4 := c4) (h5 := c6) (h6 := c8) (h7 := c9) (h8 := rneg_does (u := n) (x := m) (by first | assumption | decide) (by first | assumption | decide)) (h9 := c10)
              · refine dbif (fun c11 => ?_) (fun c11 => ?_)
                · refine dbif (fun c12 => ?_) (fun c12 => ?_)
                  · exact rUn_11 (op := op) (k := k) (n := n) (m := m) (s := s) (h0 := c1) (h1 := c2) (h2 := right4_does k n m s hs) (h3 := c3) (h4 := c4) (h5 := c6) (h6 := c8) (h7 := c9) (h8 := c11) (h9 := rneg_does (u := n) (x := m) (by first | assumption | decide) (by first | assumption | decide)) (h10 := c12)
                  · exact rUn_12 (op := op) (k := k) (n := n) (m := m) (s := s) (h0 := c1) (h1 := c2) (h2 := right4_does k n m s hs) (h3 := c3) (h4 := c4) (h5 := c6) (h6 := c8) (h7 := c9) (h8 := c11) (h9 := rneg_does (u := n) (x := m) (by first | assumption | decide) (by first | assumption | decide)) (h10 := c12)
                · refine dbif (fun c13 => ?_) (fun c13 => ?_)
                  · exact rUn_13 (op := op) (k := k) (n := n) (m := m) (s := s) (h0 := c1) (h1 := c2) (h2 := right4_does k n m s hs) (h3 := c3) (h4 := c4) (h5 := c6) (h6 := c8) (h7 := c9) (h8 := c11) (h9 := c13) (h10 := rturn_does n m 2)
                  · exact rUn_14 (op := op) (k := k) (n := n) (m := m) (s := s) (h0 := c1) (h1 := c2) (h2 := right4_does k n m s hs) (h3 := c3) (h4 := c4) (h5 := c6) (h6 := c8) (h7 := c9) (h8 := c11) (h9 := c13)
def pIn_v (op a b : Int) : Value :=
  bif (op == 6) then (.tuple #[(.int .i64 (((mulM a 0 b 0).1))), (.int .i64 (((mulM a 0 b 0).2.2)))])
  else bif (op == 9) then (.tuple #[(.int .i64 (((sumM a 0 b 0 false).1))), (.int .i64 (((sumM a 0 b 0 false).2.2)))])
  else bif (op == 10) then (.tuple #[(.int .i64 (((sumM a 0 b 0 true).1))), (.int .i64 (((sumM a 0 b 0 true).2.2)))])
  else bif (b == 0) then (.tuple #[(.int .i64 (0)), (.int .i64 (33))])
  else bif (op == 8) then (.tuple #[(.int .i64 (a.tmod b)), (.int .i64 (0))])
  else bif (b == -1) then bif (a == IntKind.i64.wrap (0 - a)) then bif (a != 0) then (.tuple #[(.int .i64 (0)), (.int .i64 (32))])
      else (.tuple #[(.int .i64 (IntKind.i64.wrap (a.tdiv b))), (.int .i64 (0))])
    else (.tuple #[(.int .i64 (IntKind.i64.wrap (a.tdiv b))), (.int .i64 (0))])
  else (.tuple #[(.int .i64 (IntKind.i64.wrap (a.tdiv b))), (.int .i64 (0))])
theorem pIn_v_does (op a b : Int) (ha : I64 a) (hb : I64 b) : Does cE 163 [] 0 [.v (it op), .v (it a), .v (it b)] (.v (pIn_v op a b)) [] 0 := by
  unfold pIn_v
  refine dbif (fun c1 => ?_) (fun c1 => ?_)
  · exact pIn_1 (op := op) (a := a) (b := b) (h0 := c1) (h1 := pmuli_does (u := a) (v := b) (by first | assumption | decide) (by first | assumption | decide))
  · refine dbif (fun c2 => ?_) (fun c2 => ?_)
    · exact pIn_2 (op := op) (a := a) (b := b) (h0 := c1) (h1 := c2) (h2 := paddi_does (u := a) (v := b) (by first | assumption | decide) (by first | assumption | decide))
    · refine dbif (fun c3 => ?_) (fun c3 => ?_)
      · exact pIn_3 (op := op) (a := a) (b := b) (h0 := c1) (h1 := c2) (h2 := c3) (h3 := psub_does (u := a) (x := 0) (v := b) (y := 0) (by first | assumption | decide) (by first | assumption | decide) (by first | assumption | decide) (by first | assumption | decide))
      · refine dbif (fun c4 => ?_) (fun c4 => ?_)
        · exact pIn_4 (op := op) (a := a) (b := b) (h0 := c1) (h1 := c2) (h2 := c3) (h3 := c4)
        · refine dbif (fun c5 => ?_) (fun c5 => ?_)
          · exact pIn_5 (op := op) (a := a) (b := b) (h0 := c1) (h1 := c2) (h2 := c3) (h3 := c4) (h4 := c5)
          · refine dbif (fun c6 => ?_) (fun c6 => ?_)
            · refine dbif (fun c7 => ?_) (fun c7 => ?_)
              · refine dbif (fun c8 => ?_) (fun c8 => ?_)
                · exact pIn_6 (op := op) (a := a) (b := b) (h0 := c1) (h1 := c2) (h2 := c3) (h3 := c4) (h4 := c5) (h5 := c6) (h6 := c7) (h7 := c8)
                · exact pIn_7 (op := op) (a := a) (b := b) (h0 := c1) (h1 := c2) (h2 := c3) (h3 := c4) (h4 := c5) (h5 := c6) (h6 := c7) (h7 := c8)
              · exact pIn_8 (op := op) (a := a) (b := b) (h0 := c1) (h1 := c2) (h2 := c3) (h3 := c4) (h4 := c5) (h5 := c6) (h6 := c7)
            · exact pIn_9 (op := op) (a := a) (b := b) (h0 := c1) (h1 := c2) (h2 := c3) (h3 := c4) (h4 := c5) (h5 := c6)
def rIn_v (op a b : Int) : Value :=
  bif (op == 6) then (.tuple #[(.int .i64 (((mulM a 0 b 0).1))), (.int .i64 (((mulM a 0 b 0).2.2)))])
  else bif (op == 9) then (.tuple #[(.int .i64 (((sumM a 0 b 0 false).1))), (.int .i64 (((sumM a 0 b 0 false).2.2)))])
  else bif (op == 10) then (.tuple #[(.int .i64 (((sumM a 0 b 0 true).1))), (.int .i64 (((sumM a 0 b 0 true).2.2)))])
  else bif (b == 0) then (.tuple #[(.int .i64 (0)), (.int .i64 (33))])
  else bif (b == -1) then bif (op == 8) then (.tuple #[(.int .i64 (0)), (.int .i64 (0))])
    else (.tuple #[(.int .i64 (((mulM a 0 (-1) 0).1))), (.int .i64 (((mulM a 0 (-1) 0).2.2)))])
  else bif (op == 7) then (.tuple #[(.int .i64 (IntKind.i64.wrap (a.tdiv b))), (.int .i64 (0))])
  else (.tuple #[(.int .i64 (a.tmod b)), (.int .i64 (0))])
theorem rIn_v_does (op a b : Int) (ha : I64 a) (hb : I64 b) : Does cE 176 [] 0 [.v (it op), .v (it a), .v (it b)] (.v (rIn_v op a b)) [] 0 := by
  unfold rIn_v
  refine dbif (fun c1 => ?_) (fun c1 => ?_)
  · exact rIn_1 (op := op) (a := a) (b := b) (h0 := c1) (h1 := rmuli_does (u := a) (v := b) (by first | assumption | decide) (by first | assumption | decide))
  · refine dbif (fun c2 => ?_) (fun c2 => ?_)
    · exact rIn_2 (op := op) (a := a) (b := b) (h0 := c1) (h1 := c2) (h2 := raddi_does (u := a) (v := b) (by first | assumption | decide) (by first | assumption | decide))
    · refine dbif (fun c3 => ?_) (fun c3 => ?_)
      · exact rIn_3 (op := op) (a := a) (b := b) (h0 := c1) (h1 := c2) (h2 := c3) (h3 := rsub_does (u := a) (x := 0) (v := b) (y := 0) (by first | assumption | decide) (by first | assumption | decide) (by first | assumption | decide) (by first | assumption | decide))
      · refine dbif (fun c4 => ?_) (fun c4 => ?_)
        · exact rIn_4 (op := op) (a := a) (b := b) (h0 := c1) (h1 := c2) (h2 := c3) (h3 := c4)
        · refine dbif (fun c5 => ?_) (fun c5 => ?_)
          · refine dbif (fun c6 => ?_) (fun c6 => ?_)
            · exact rIn_5 (op := op) (a := a) (b := b) (h0 := c1) (h1 := c2) (h2 := c3) (h3 := c4) (h4 := c5) (h5 := c6)
            · exact rIn_6 (op := op) (a := a) (b := b) (h0 := c1) (h1 := c2) (h2 := c3) (h3 := c4) (h4 := c5) (h5 := c6) (h6 := rmuli_does (u := a) (v := (-1)) (by first | assumption | decide) (by first | assumption | decide))
          · refine dbif (fun c7 => ?_) (fun c7 => ?_)
            · exact rIn_7 (op := op) (a := a) (b := b) (h0 := c1) (h1 := c2) (h2 := c3) (h3 := c4) (h4 := c5) (h5 := c7)
            · exact rIn_8 (op := op) (a := a) (b := b) (h0 := c1) (h1 := c2) (h2 := c3) (h3 := c4) (h4 := c5) (h5 := c7)
def rDe_v (op n m p q : Int) : Value :=
  bif (op == 6) then bif (((mulM n m p q).2.2) != 0) then (.tuple #[(.agg #[(.int .i64 (0)), (.int .i64 (0)), (.int .i64 (0)), (.string ((ByteArray.mk #[])))]), (.int .i64 (((mulM n m p q).2.2)))])
    else (.tuple #[(.agg #[(.int .i64 (2)), (.int .i64 (((mulM n m p q).1))), (.int .i64 (((mulM n m p q).2.1))), (.string ((ByteArray.mk #[])))]), (.int .i64 (0))])
  else bif (op == 7) then bif (((divM n m p q 6).2.2) != 0) then (.tuple #[(.agg #[(.int .i64 (0)), (.int .i64 (0)), (.int .i64 (0)), (.string ((ByteArray.mk #[])))]), (.int .i64 (((divM n m p q 6).2.2)))])
    else (.tuple #[(.agg #[(.int .i64 (2)), (.int .i64 (((divM n m p q 6).1))), (.int .i64 (((divM n m p q 6).2.1))), (.string ((ByteArray.mk #[])))]), (.int .i64 (0))])
  else bif (op == 9) then bif (((sumM n m p q false).2.2) != 0) then (.tuple #[(.agg #[(.int .i64 (0)), (.int .i64 (0)), (.int .i64 (0)), (.string ((ByteArray.mk #[])))]), (.int .i64 (((sumM n m p q false).2.2)))])
    else (.tuple #[(.agg #[(.int .i64 (2)), (.int .i64 (((sumM n m p q false).1))), (.int .i64 (((sumM n m p q false).2.1))), (.string ((ByteArray.mk #[])))]), (.int .i64 (0))])
  else bif (op == 10) then bif (((sumM n m p q true).2.2) != 0) then (.tuple #[(.agg #[(.int .i64 (0)), (.int .i64 (0)), (.int .i64 (0)), (.string ((ByteArray.mk #[])))]), (.int .i64 (((sumM n m p q true).2.2)))])
    else (.tuple #[(.agg #[(.int .i64 (2)), (.int .i64 (((sumM n m p q true).1))), (.int .i64 (((sumM n m p q true).2.1))), (.string ((ByteArray.mk #[])))]), (.int .i64 (0))])
  else (.tuple #[(.agg #[(.int .i64 (0)), (.int .i64 (0)), (.int .i64 (0)), (.string ((ByteArray.mk #[])))]), (.int .i64 (31))])
theorem rDe_v_does (op n m p q : Int) (hn : I64 n) (hm : I64 m) (hp : I64 p) (hq : I64 q) : Does cE 177 [] 0 [.v (it op), .v (dc n m), .v (dc p q)] (.v (rDe_v op n m p q)) [] 0 := by
  unfold rDe_v
  refine dbif (fun c1 => ?_) (fun c1 => ?_)
  · refine dbif (fun c2 => ?_) (fun c2 => ?_)
    · exact rDe_1 (op := op) (n := n) (m := m) (p := p) (q := q) (h0 := c1) (h1 := rmul_does (u := n) (x := m) (v := p) (y := q) (by first | assumption | decide) (by first | assumption | decide) (by first | assumption | decide) (by first | assumption | decide)) (h2 := c2)
    · exact rDe_2 (op := op) (n := n) (m := m) (p := p) (q := q) (h0 := c1) (h1 := rmul_does (u := n) (x := m) (v := p) (y := q) (by first | assumption | decide) (by first | assumption | decide) (by first | assumption | decide) (by first | assumption | decide)) (h2 := c2)
  · refine dbif (fun c3 => ?_) (fun c3 => ?_)
    · refine dbif (fun c4 => ?_) (fun c4 => ?_)
      · exact rDe_3 (op := op) (n := n) (m := m) (p := p) (q := q) (h0 := c1) (h1 := c3) (h2 := rdiv_does (u := n) (x := m) (v := p) (y := q) (sc := 6) (by first | assumption | decide) (by first | assumption | decide) (by first | assumption | decide) (by first | assumption | decide) (by first | assumption | decide)) (h3 := c4)
      · exact rDe_4 (op := op) (n := n) (m := m) (p := p) (q := q) (h0 := c1) (h1 := c3) (h2 := rdiv_does (u := n) (x := m) (v := p) (y := q) (sc := 6) (by first | assumption | decide) (by first | assumption | decide) (by first | assumption | decide) (by first | assumption | decide) (by first | assumption | decide)) (h3 := c4)
    · refine dbif (fun c5 => ?_) (fun c5 => ?_)
      · refine dbif (fun c6 => ?_) (fun c6 => ?_)
        · exact rDe_5 (op := op) (n := n) (m := m) (p := p) (q := q) (h0 := c1) (h1 := c3) (h2 := c5) (h3 := radd_does (u := n) (x := m) (v := p) (y := q) (by first | assumption | decide) (by first | assumption | decide) (by first | assumption | decide) (by first | assumption | decide)) (h4 := c6)
        · exact rDe_6 (op := op) (n := n) (m := m) (p := p) (q := q) (h0 := c1) (h1 := c3) (h2 := c5) (h3 := radd_does (u := n) (x := m) (v := p) (y := q) (by first | assumption | decide) (by first | assumption | decide) (by first | assumption | decide) (by first | assumption | decide)) (h4 := c6)
      · refine dbif (fun c7 => ?_) (fun c7 => ?_)
        · refine dbif (fun c8 => ?_) (fun c8 => ?_)
          · exact rDe_7 (op := op) (n := n) (m := m) (p := p) (q := q) (h0 := c1) (h1 := c3) (h2 := c5) (h3 := c7) (h4 := rsub_does (u := n) (x := m) (v := p) (y := q) (by first | assumption | decide) (by first | assumption | decide) (by first | assumption | decide) (by first | assumption | decide)) (h5 := c8)
          · exact rDe_8 (op := op) (n := n) (m := m) (p := p) (q := q) (h0 := c1) (h1 := c3) (h2 := c5) (h3 := c7) (h4 := rsub_does (u := n) (x := m) (v := p) (y := q) (by first | assumption | decide) (by first | assumption | decide) (by first | assumption | decide) (by first | assumption | decide)) (h5 := c8)
        · exact rDe_9 (op := op) (n := n) (m := m) (p := p) (q := q) (h0 := c1) (h1 := c3) (h2 := c5) (h3 := c7)
def rHo_v (op a : Int) : Value :=
  bif (op == 11) then (.bool (a == 0))
  else bif (op == 12) then (.bool (a != 0))
  else bif (op == 13) then (.bool (decide (a < 0)))
  else bif (op == 14) then (.bool (decide (a ≤ 0)))
  else bif (op == 15) then (.bool (decide (a > 0)))
  else (.bool (decide (a ≥ 0)))
theorem rHo_v_does (op a : Int) : Does cE 99 [] 0 [.v (it op), .v (it a)] (.v (rHo_v op a)) [] 0 := by
  unfold rHo_v
  refine dbif (fun c1 => ?_) (fun c1 => ?_)
  · exact rHo_1 (op := op) (a := a) (h0 := c1)
  · refine dbif (fun c2 => ?_) (fun c2 => ?_)
    · exact rHo_2 (op := op) (a := a) (h0 := c1) (h1 := c2)
    · refine dbif (fun c3 => ?_) (fun c3 => ?_)
      · exact rHo_3 (op := op) (a := a) (h0 := c1) (h1 := c2) (h2 := c3)
      · refine dbif (fun c4 => ?_) (fun c4 => ?_)
        · exact rHo_4 (op := op) (a := a) (h0 := c1) (h1 := c2) (h2 := c3) (h3 := c4)
        · refine dbif (fun c5 => ?_) (fun c5 => ?_)
          · exact rHo_5 (op := op) (a := a) (h0 := c1) (h1 := c2) (h2 := c3) (h3 := c4) (h4 := c5)
          · exact rHo_6 (op := op) (a := a) (h0 := c1) (h1 := c2) (h2 := c3) (h3 := c4) (h4 := c5)
def rTb_v (t : Bool) : Value :=
  bif (t) then (.agg #[(.int .i64 ((ofK 1))), (.int .i64 ((ofN 1))), (.int .i64 (0)), (.string (bE))])
  else (.agg #[(.int .i64 ((ofK 0))), (.int .i64 ((ofN 0))), (.int .i64 (0)), (.string (bE))])
theorem rTb_v_does (t : Bool) : Does cE 98 [] 0 [.v (.bool t)] (.v (rTb_v t)) [] 0 := by
  unfold rTb_v
  refine dbif (fun c1 => ?_) (fun c1 => ?_)
  · exact rTb_1 (t := t) (h0 := c1) (h1 := rof4_does 1)
  · exact rTb_2 (t := t) (h0 := c1) (h1 := rof4_does 0)
end Go.Proofs.YtnchjdhepakokaaGreatDoorC
/- Negation, the reference's unary, holds and truth's value: told. -/
namespace Go.Proofs.YtnchjdhepakokaaGreatDoorC
open Go.Proofs Go.Proofs.YtnchjdhepakokaaGreatDoorSx Go.Lib
set_option maxRecDepth 100000
set_option linter.unusedVariables false
set_option linter.unusedSimpArgs false
theorem resV_if (c : Bool) (a b : Ans) : resV (bif c then a else b) = bif c then resV a else resV b := by cases c <;> rfl
theorem pNg_said (k n m : Int) (s : ByteArray) : pNg_v k n m s = resV (ngV k n m s) := by
  unfold pNg_v ngV mkI mkD
  simp only [resV_if]
theorem neg_does (k n m : Int) (s : ByteArray) (hn : I64 n) (hm : I64 m) (hs : s.size ≤ 140737488351232) : Does cE 84 [] 0 [.v (vl k n m s)] (.v (resV (ngV k n m s))) [] 0 := by
  rw [← pNg_said]; exact pNg_v_does k n m s hn hm hs
theorem ok_null {n m : Int} {s : ByteArray} (h : okV 0 n m s = true) : n = 0 ∧ m = 0 ∧ s = bE := by
  unfold okV at h
  change (n == 0 && m == 0 && eqE s) = true at h
  simp only [Bool.and_eq_true, beq_iff_eq] at h
  refine ⟨h.1.1, h.1.2, ?_⟩
  have h2 := h.2
  unfold eqE at h2
  rw [Go.ByteArray.toList_eq, Go.ByteArray.toList_eq] at h2
  have h3 := eq_of_beq h2
  cases s with
  | mk d =>
    simp at h3
    rw [h3]
theorem rUn_said (op k n m : Int) (s : ByteArray) : rUn_v op k n m s = resV (unV op k n m s) := by
  have e1 : okV k n m s = true → (bif (k == 0) then noV 0 else ngV k n m s) = ngV k n m s := by
    intro h
    by_cases h0 : k = 0
    · subst h0
      obtain ⟨a, b, c⟩ := ok_null h
      subst a; subst b; subst c
      rfl
    · rw [beq_eq_false_iff_ne.mpr h0]; rfl
  unfold rUn_v unV
  by_cases l3 : op < 3
  · have a : (op == 5) = false := by simp; omega
    have b : (op == 4) = false := by simp; omega
    have c : (op == 3) = false := by simp; omega
    rw [a, b, c, decide_eq_true l3]
    cases okV k n m s <;> rfl
  · rw [decide_eq_false l3]
    by_cases g5 : op > 5
    · have a : (op == 5) = false := by simp; omega
      have b : (op == 4) = false := by simp; omega
      have c : (op == 3) = false := by simp; omega
      rw [a, b, c, decide_eq_true g5]
      cases okV k n m s <;> rfl
    · rw [decide_eq_false g5]
      cases ho : okV k n m s
      · rfl
      · have e1 := e1 ho
        by_cases a5 : op = 5
        · subst a5; cases (k == 0) <;> rfl
        · by_cases a4 : op = 4
          · subst a4; cases trB k n m s <;> rfl
          · have a3 : op = 3 := by omega
            subst a3
            change _ = resV (ngV k n m s)
            rw [← e1]
            unfold ngV mkI mkD
            simp only [resV_if]
            cases (k == 0) <;> rfl
theorem run_does (op k n m : Int) (s : ByteArray) (hn : I64 n) (hm : I64 m) (hs : s.size ≤ 140737488351232) : Does cE 24 [] 0 [.v (it op), .v (vl k n m s)] (.v (resV (unV op k n m s))) [] 0 := by
  rw [← rUn_said]; exact rUn_v_does op k n m s hn hm hs
def hoV (op a : Int) : Bool := bif (op == 11) then (a == 0) else bif (op == 12) then (a != 0) else bif (op == 13) then decide (a < 0) else bif (op == 14) then decide (a ≤ 0) else bif (op == 15) then decide (a > 0) else decide (a ≥ 0)
theorem holds_does (op a : Int) : Does cE 99 [] 0 [.v (it op), .v (it a)] (.v (.bool (hoV op a))) [] 0 := by
  have h := rHo_v_does op a
  have e : rHo_v op a = .bool (hoV op a) := by
    unfold rHo_v hoV
    simp only [cond_bool]
  rw [e] at h
  exact h
abbrev tI (t : Bool) : Int := bif t then 1 else 0
theorem rtruth_does (t : Bool) : Does cE 98 [] 0 [.v (.bool t)] (.v (vl (ofK (tI t)) (ofN (tI t)) 0 bE)) [] 0 := by
  have h := rTb_v_does t
  have e : rTb_v t = vl (ofK (tI t)) (ofN (tI t)) 0 bE := by cases t <;> rfl
  rw [e] at h
  exact h
/-- of two decimals -/
def deV (op n m p q : Int) : Ans :=
  bif (op == 6) then mkD (mulM n m p q) else bif (op == 7) then mkD (divM n m p q 6) else bif (op == 9) then mkD (sumM n m p q false) else bif (op == 10) then mkD (sumM n m p q true) else noV 31
theorem rdecs_does (op n m p q : Int) (hn : I64 n) (hm : I64 m) (hp : I64 p) (hq : I64 q) : Does cE 177 [] 0 [.v (it op), .v (dc n m), .v (dc p q)] (.v (resV (deV op n m p q))) [] 0 := by
  have h := rDe_v_does op n m p q hn hm hp hq
  have e : rDe_v op n m p q = resV (deV op n m p q) := by
    unfold rDe_v deV mkD
    simp only [resV_if]
  rw [e] at h
  exact h
def gdV (x y z u : Int) : Int × Int × Int × Int × Int :=
  bif rt x y && rt z u then (bif z == 0 && u == 0 then (0, 0, 0, 0, 33) else bif rt (Go.Proofs.YtnchjdhepakokaaGreatDoorGG.qx x y z u) (Go.Proofs.YtnchjdhepakokaaGreatDoorGG.qy x y z u) && rt (Go.Proofs.YtnchjdhepakokaaGreatDoorGG.rx x y z u) (Go.Proofs.YtnchjdhepakokaaGreatDoorGG.ry x y z u) then (Go.Proofs.YtnchjdhepakokaaGreatDoorGG.qx x y z u, Go.Proofs.YtnchjdhepakokaaGreatDoorGG.qy x y z u, Go.Proofs.YtnchjdhepakokaaGreatDoorGG.rx x y z u, Go.Proofs.YtnchjdhepakokaaGreatDoorGG.ry x y z u, 0) else (0, 0, 0, 0, 32))
  else (0, 0, 0, 0, 1)
abbrev ans2 (r : Int × Int × Int × Int × Int) : Value := .tuple #[dc r.1 r.2.1, dc r.2.2.1 r.2.2.2.1, it r.2.2.2.2]
theorem gdV_said (x y z u : Int) : Go.Proofs.YtnchjdhepakokaaGreatDoorGG.divA x y z u = ans2 (gdV x y z u) := by
  unfold Go.Proofs.YtnchjdhepakokaaGreatDoorGG.divA gdV
  have e : ∀ (c : Bool) (a b : Int × Int × Int × Int × Int), ans2 (bif c then a else b) = bif c then ans2 a else ans2 b := fun c a b => by cases c <;> rfl
  rw [e, e, e]
theorem gdiv_does (x y z u : Int) : Does cE 171 [] 0 [.v (dc x y), .v (dc z u)] (.v (ans2 (gdV x y z u))) [] 0 := by
  rw [← gdV_said]; exact does_run (l := [dc x y, dc z u]) (Go.Proofs.YtnchjdhepakokaaGreatDoorGG.Div_spec x y z u)
theorem rgdiv_does (x y z u : Int) : Does cE 240 [] 0 [.v (dc x y), .v (dc z u)] (.v (ans2 (gdV x y z u))) [] 0 := by
  rw [← gdV_said]; exact does_run (l := [dc x y, dc z u]) (Go.Proofs.YtnchjdhepakokaaGreatDoorGG.rDiv_spec x y z u)
end Go.Proofs.YtnchjdhepakokaaGreatDoorC
namespace Go.Proofs.YtnchjdhepakokaaGreatDoorC
open Go.Proofs Go.Proofs.YtnchjdhepakokaaGreatDoorSx Go.Lib
set_option maxRecDepth 100000
set_option linter.unusedVariables false
set_option linter.unusedSimpArgs false
def pUn_v (op k n m : Int) (s : ByteArray) : Value :=
  bif (!(okV k n m s)) then (.tuple #[(.agg #[(.int .i64 (0)), (.int .i64 (0)), (.int .i64 (0)), (.string ((ByteArray.mk #[])))]), (.int .i64 (1))])
  else bif (op == 5) then bif (k == 0 && (n == 0 && (m == 0 && (s == (ByteArray.mk #[]) && true)))) then (.tuple #[(.agg #[(.int .i64 ((ofK 1))), (.int .i64 ((ofN 1))), (.int .i64 (0)), (.string (bE))]), (.int .i64 (0))])
    else (.tuple #[(.agg #[(.int .i64 ((ofK 0))), (.int .i64 ((ofN 0))), (.int .i64 (0)), (.string (bE))]), (.int .i64 (0))])
  else bif (op == 4) then bif (!(trB k n m s)) then (.tuple #[(.agg #[(.int .i64 (0)), (.int .i64 (0)), (.int .i64 (0)), (.string ((ByteArray.mk #[])))]), (.int .i64 (31))])
    else (.tuple #[(.agg #[(.int .i64 ((ofK (notV (trN k n m s))))), (.int .i64 ((ofN (notV (trN k n m s))))), (.int .i64 (0)), (.string (bE))]), (.int .i64 (0))])
  else bif (op == 3) then (.tuple #[(.agg #[(.int .i64 (((ngV k n m s).1))), (.int .i64 (((ngV k n m s).2.1))), (.int .i64 (((ngV k n m s).2.2.1))), (.string (((ngV k n m s).2.2.2.1)))]), (.int .i64 (((ngV k n m s).2.2.2.2)))])
  else (.tuple #[(.agg #[(.int .i64 (0)), (.int .i64 (0)), (.int .i64 (0)), (.string ((ByteArray.mk #[])))]), (.int .i64 (1))])
theorem pUn_v_does (op k n m : Int) (s : ByteArray) (hn : I64 n) (hm : I64 m) (hs : s.size ≤ 140737488351232) : Does cE 23 [] 0 [.v (it op), .v (vl k n m s)] (.v (pUn_v op k n m s)) [] 0 := by
  unfold pUn_v
  refine dbif (fun c1 => ?_) (fun c1 => ?_)
  · exact pUn_1 (op := op) (k := k) (n := n) (m := m) (s := s) (h0 := right_does k n m s (by assumption)) (h1 := c1)
  · refine dbif (fun c2 => ?_) (fun c2 => ?_)
    · refine dbif (fun c3 => ?_) (fun c3 => ?_)
      · exact pUn_2 (op := op) (k := k) (n := n) (m := m) (s := s) (h0 := right_does k n m s (by assumption)) (h1 := c1) (h2 := c2) (h3 := c3) (h4 := of_does 1)
      · exact pUn_3 (op := op) (k := k) (n := n) (m := m) (s := s) (h0 := right_does k n m s (by assumption)) (h1 := c1) (h2 := c2) (h3 := c3) (h4 := of_does 0)
    · refine dbif (fun c4 => ?_) (fun c4 => ?_)
      · refine dbif (fun c5 => ?_) (fun c5 => ?_)
        · exact pUn_4 (op := op) (k := k) (n := n) (m := m) (s := s) (h0 := right_does k n m s (by assumption)) (h1 := c1) (h2 := c2) (h3 := c4) (h4 := truth_does k n m s (by assumption)) (h5 := c5)
        · exact pUn_5 (op := op) (k := k) (n := n) (m := m) (s := s) (h0 := right_does k n m s (by assumption)) (h1 := c1) (h2 := c2) (h3 := c4) (h4 := truth_does k n m s (by assumption)) (h5 := c5) (h6 := not_does (trN k n m s)) (h7 := of_does (notV (trN k n m s)))
      · refine dbif (fun c6 => ?_) (fun c6 => ?_)
        · exact pUn_6 (op := op) (k := k) (n := n) (m := m) (s := s) (h0 := right_does k n m s (by assumption)) (h1 := c1) (h2 := c2) (h3 := c4) (h4 := c6) (h5 := neg_does k n m s (by assumption) (by assumption) (by assumption))
        · exact pUn_7 (op := op) (k := k) (n := n) (m := m) (s := s) (h0 := right_does k n m s (by assumption)) (h1 := c1) (h2 := c2) (h3 := c4) (h4 := c6)
def pLo_v (op k n m j p q : Int) (s u : ByteArray) : Value :=
  bif (!(trB k n m s)) then (.tuple #[(.agg #[(.int .i64 (0)), (.int .i64 (0)), (.int .i64 (0)), (.string ((ByteArray.mk #[])))]), (.int .i64 (31))])
  else bif (!(trB j p q u)) then (.tuple #[(.agg #[(.int .i64 (0)), (.int .i64 (0)), (.int .i64 (0)), (.string ((ByteArray.mk #[])))]), (.int .i64 (31))])
  else bif (op == 17) then (.tuple #[(.agg #[(.int .i64 ((ofK (andV (trN k n m s) (trN j p q u))))), (.int .i64 ((ofN (andV (trN k n m s) (trN j p q u))))), (.int .i64 (0)), (.string (bE))]), (.int .i64 (0))])
  else (.tuple #[(.agg #[(.int .i64 ((ofK (orV (trN k n m s) (trN j p q u))))), (.int .i64 ((ofN (orV (trN k n m s) (trN j p q u))))), (.int .i64 (0)), (.string (bE))]), (.int .i64 (0))])
theorem pLo_v_does (op k n m j p q : Int) (s u : ByteArray) (hn : I64 n) (hm : I64 m) (hs : s.size ≤ 140737488351232) (hp : I64 p) (hq : I64 q) (hu : u.size ≤ 140737488351232) : Does cE 90 [] 0 [.v (it op), .v (vl k n m s), .v (vl j p q u)] (.v (pLo_v op k n m j p q s u)) [] 0 := by
  unfold pLo_v
  refine dbif (fun c1 => ?_) (fun c1 => ?_)
  · exact pLo_1 (op := op) (k := k) (n := n) (m := m) (j := j) (p := p) (q := q) (s := s) (u := u) (h0 := truth_does k n m s (by assumption)) (h1 := truth_does j p q u (by assumption)) (h2 := c1)
  · refine dbif (fun c2 => ?_) (fun c2 => ?_)
    · exact pLo_2 (op := op) (k := k) (n := n) (m := m) (j := j) (p := p) (q := q) (s := s) (u := u) (h0 := truth_does k n m s (by assumption)) (h1 := truth_does j p q u (by assumption)) (h2 := c1) (h3 := c2)
    · refine dbif (fun c3 => ?_) (fun c3 => ?_)
      · exact pLo_3 (op := op) (k := k) (n := n) (m := m) (j := j) (p := p) (q := q) (s := s) (u := u) (h0 := truth_does k n m s (by assumption)) (h1 := truth_does j p q u (by assumption)) (h2 := c1) (h3 := c2) (h4 := c3) (h5 := and3_does (trN k n m s) (trN j p q u)) (h6 := of_does (andV (trN k n m s) (trN j p q u)))
      · exact pLo_4 (op := op) (k := k) (n := n) (m := m) (j := j) (p := p) (q := q) (s := s) (u := u) (h0 := truth_does k n m s (by assumption)) (h1 := truth_does j p q u (by assumption)) (h2 := c1) (h3 := c2) (h4 := c3) (h5 := or3_does (trN k n m s) (trN j p q u)) (h6 := of_does (orV (trN k n m s) (trN j p q u)))
def rPo_v (op n m p q : Int) : Value :=
  bif (op == 6) then bif (((gmul n m p q).2.2) != 0) then (.tuple #[(.agg #[(.int .i64 (0)), (.int .i64 (0)), (.int .i64 (0)), (.string ((ByteArray.mk #[])))]), (.int .i64 (((gmul n m p q).2.2)))])
    else (.tuple #[(.agg #[(.int .i64 (5)), (.int .i64 (((gmul n m p q).1))), (.int .i64 (((gmul n m p q).2.1))), (.string ((ByteArray.mk #[])))]), (.int .i64 (0))])
  else bif (op == 9) then bif (((gadd n m p q).2.2) != 0) then (.tuple #[(.agg #[(.int .i64 (0)), (.int .i64 (0)), (.int .i64 (0)), (.string ((ByteArray.mk #[])))]), (.int .i64 (((gadd n m p q).2.2)))])
    else (.tuple #[(.agg #[(.int .i64 (5)), (.int .i64 (((gadd n m p q).1))), (.int .i64 (((gadd n m p q).2.1))), (.string ((ByteArray.mk #[])))]), (.int .i64 (0))])
  else bif (op == 10) then bif (((gsub n m p q).2.2) != 0) then (.tuple #[(.agg #[(.int .i64 (0)), (.int .i64 (0)), (.int .i64 (0)), (.string ((ByteArray.mk #[])))]), (.int .i64 (((gsub n m p q).2.2)))])
    else (.tuple #[(.agg #[(.int .i64 (5)), (.int .i64 (((gsub n m p q).1))), (.int .i64 (((gsub n m p q).2.1))), (.string ((ByteArray.mk #[])))]), (.int .i64 (0))])
  else bif (op == 7) then bif (((gdV n m p q).2.2.2.2) != 0) then (.tuple #[(.agg #[(.int .i64 (0)), (.int .i64 (0)), (.int .i64 (0)), (.string ((ByteArray.mk #[])))]), (.int .i64 (((gdV n m p q).2.2.2.2)))])
    else (.tuple #[(.agg #[(.int .i64 (5)), (.int .i64 (((gdV n m p q).1))), (.int .i64 (((gdV n m p q).2.1))), (.string ((ByteArray.mk #[])))]), (.int .i64 (0))])
  else bif (((gdV n m p q).2.2.2.2) != 0) then (.tuple #[(.agg #[(.int .i64 (0)), (.int .i64 (0)), (.int .i64 (0)), (.string ((ByteArray.mk #[])))]), (.int .i64 (((gdV n m p q).2.2.2.2)))])
  else (.tuple #[(.agg #[(.int .i64 (5)), (.int .i64 (((gdV n m p q).2.2.1))), (.int .i64 (((gdV n m p q).2.2.2.1))), (.string ((ByteArray.mk #[])))]), (.int .i64 (0))])
theorem rPo_v_does (op n m p q : Int) : Does cE 178 [] 0 [.v (it op), .v (dc n m), .v (dc p q)] (.v (rPo_v op n m p q)) [] 0 := by
  unfold rPo_v
  refine dbif (fun c1 => ?_) (fun c1 => ?_)
  · refine dbif (fun c2 => ?_) (fun c2 => ?_)
    · exact rPo_1 (op := op) (n := n) (m := m) (p := p) (q := q) (h0 := c1) (h1 := rgmul_does n m p q) (h2 := c2)
    · exact rPo_2 (op := op) (n := n) (m := m) (p := p) (q := q) (h0 := c1) (h1 := rgmul_does n m p q) (h2 := c2)
  · refine dbif (fun c3 => ?_) (fun c3 => ?_)
    · refine dbif (fun c4 => ?_) (fun c4 => ?_)
      · exact rPo_3 (op := op) (n := n) (m := m) (p := p) (q := q) (h0 := c1) (h1 := c3) (h2 := rgadd_does n m p q) (h3 := c4)
      · exact rPo_4 (op := op) (n := n) (m := m) (p := p) (q := q) (h0 := c1) (h1 := c3) (h2 := rgadd_does n m p q) (h3 := c4)
    · refine dbif (fun c5 => ?_) (fun c5 => ?_)
      · refine dbif (fun c6 => ?_) (fun c6 => ?_)
        · exact rPo_5 (op := op) (n := n) (m := m) (p := p) (q := q) (h0 := c1) (h1 := c3) (h2 := c5) (h3 := rgsub_does n m p q) (h4 := c6)
        · exact rPo_6 (op := op) (n := n) (m := m) (p := p) (q := q) (h0 := c1) (h1 := c3) (h2 := c5) (h3 := rgsub_does n m p q) (h4 := c6)
      · refine dbif (fun c7 => ?_) (fun c7 => ?_)
        · refine dbif (fun c8 => ?_) (fun c8 => ?_)
          · exact rPo_7 (op := op) (n := n) (m := m) (p := p) (q := q) (h0 := c1) (h1 := c3) (h2 := c5) (h3 := rgdiv_does n m p q) (h4 := c7) (h5 := c8)
          · exact rPo_8 (op := op) (n := n) (m := m) (p := p) (q := q) (h0 := c1) (h1 := c3) (h2 := c5) (h3 := rgdiv_does n m p q) (h4 := c7) (h5 := c8)
        · refine dbif (fun c9 => ?_) (fun c9 => ?_)
          · exact rPo_9 (op := op) (n := n) (m := m) (p := p) (q := q) (h0 := c1) (h1 := c3) (h2 := c5) (h3 := rgdiv_does n m p q) (h4 := c7) (h5 := c9)
          · exact rPo_10 (op := op) (n := n) (m := m) (p := p) (q := q) (h0 := c1) (h1 := c3) (h2 := c5) (h3 := rgdiv_does n m p q) (h4 := c7) (h5 := c9)
end Go.Proofs.YtnchjdhepakokaaGreatDoorC
/- Unary, logic, points, whole numbers: told. -/
namespace Go.Proofs.YtnchjdhepakokaaGreatDoorC
open Go.Proofs Go.Proofs.YtnchjdhepakokaaGreatDoorSx Go.Lib
set_option maxRecDepth 100000
set_option linter.unusedVariables false
set_option linter.unusedSimpArgs false
theorem pUn_said (op k n m : Int) (s : ByteArray) : pUn_v op k n m s = resV (unV op k n m s) := by
  unfold pUn_v unV
  rw [beq_bE]
  cases ho : okV k n m s
  · rfl
  · have e : (k == 0 && (n == 0 && (m == 0 && (eqE s && true)))) = (k == 0) := by
      by_cases h0 : k = 0
      · subst h0
        obtain ⟨a, b, c⟩ := ok_null ho
        subst a; subst b; subst c
        have e : eqE bE = true := by unfold eqE; simp
        rw [e]; rfl
      · rw [beq_eq_false_iff_ne.mpr h0]; rfl
    rw [e]
    by_cases a5 : op = 5
    · subst a5; cases (k == 0) <;> rfl
    · by_cases a4 : op = 4
      · subst a4; cases trB k n m s <;> rfl
      · by_cases a3 : op = 3
        · subst a3; rfl
        · rw [beq_eq_false_iff_ne.mpr a5, beq_eq_false_iff_ne.mpr a4, beq_eq_false_iff_ne.mpr a3]; rfl
theorem un_does (op k n m : Int) (s : ByteArray) (hn : I64 n) (hm : I64 m) (hs : s.size ≤ 140737488351232) : Does cE 23 [] 0 [.v (it op), .v (vl k n m s)] (.v (resV (unV op k n m s))) [] 0 := by
  rw [← pUn_said]; exact pUn_v_does op k n m s hn hm hs
/-- And, Or of two values -/
def loV (op k n m : Int) (s : ByteArray) (j p q : Int) (u : ByteArray) : Ans :=
  bif !trB k n m s then noV 31 else bif !trB j p q u then noV 31
  else bif (op == 17) then ofV (andV (trN k n m s) (trN j p q u)) else ofV (orV (trN k n m s) (trN j p q u))
theorem logic_does (op k n m : Int) (s : ByteArray) (j p q : Int) (u : ByteArray) (hn : I64 n) (hm : I64 m) (hs : s.size ≤ 140737488351232) (hp : I64 p) (hq : I64 q) (hu : u.size ≤ 140737488351232) : Does cE 90 [] 0 [.v (it op), .v (vl k n m s), .v (vl j p q u)] (.v (resV (loV op k n m s j p q u))) [] 0 := by
  have h := pLo_v_does op k n m j p q s u hn hm hs hp hq hu
  have e : pLo_v op k n m j p q s u = resV (loV op k n m s j p q u) := by
    unfold pLo_v loV
    simp only [resV_if]
  rw [e] at h
  exact h
abbrev mk2 (e x y : Int) : Int × Int × Int := (x, y, e)
/-- of two points -/
def poV (op n m p q : Int) : Ans :=
  bif (op == 6) then mkP (gmul n m p q) else bif (op == 9) then mkP (gadd n m p q) else bif (op == 10) then mkP (gsub n m p q)
  else bif (op == 7) then mkP ((gdV n m p q).1, (gdV n m p q).2.1, (gdV n m p q).2.2.2.2)
  else mkP ((gdV n m p q).2.2.1, (gdV n m p q).2.2.2.1, (gdV n m p q).2.2.2.2)
theorem rpoints_does (op n m p q : Int) : Does cE 178 [] 0 [.v (it op), .v (dc n m), .v (dc p q)] (.v (resV (poV op n m p q))) [] 0 := by
  have h := rPo_v_does op n m p q
  have e : rPo_v op n m p q = resV (poV op n m p q) := by
    unfold rPo_v poV mkP
    simp only [resV_if]
  rw [e] at h
  exact h
/-- of two whole numbers: the number and the errno -/
def inV (op a b : Int) : Int × Int :=
  bif (op == 6) then ((mulM a 0 b 0).1, (mulM a 0 b 0).2.2)
  else bif (op == 9) then ((sumM a 0 b 0 false).1, (sumM a 0 b 0 false).2.2)
  else bif (op == 10) then ((sumM a 0 b 0 true).1, (sumM a 0 b 0 true).2.2)
  else bif (b == 0) then (0, 33)
  else bif (b == -1) then (bif (op == 8) then (0, 0) else ((mulM a 0 (-1) 0).1, (mulM a 0 (-1) 0).2.2))
  else bif (op == 7) then (IntKind.i64.wrap (a.tdiv b), 0)
  else (a.tmod b, 0)
abbrev inA (r : Int × Int) : Value := .tuple #[it r.1, it r.2]
theorem inA_if (c : Bool) (a b : Int × Int) : inA (bif c then a else b) = bif c then inA a else inA b := by cases c <;> rfl
theorem rints_does (op a b : Int) (ha : I64 a) (hb : I64 b) : Does cE 176 [] 0 [.v (it op), .v (it a), .v (it b)] (.v (inA (inV op a b))) [] 0 := by
  have h := rIn_v_does op a b ha hb
  have e : rIn_v op a b = inA (inV op a b) := by
    unfold rIn_v inV
    simp only [inA_if]
  rw [e] at h
  exact h
theorem neg_one {a : Int} (ha : I64 a) : mulM a 0 (-1) 0 = if a = -9223372036854775808 then (0, 0, 32) else (-a, 0, 0) := by
  unfold mulM
  rw [if_pos (by omega), if_neg (by omega)]
  have e0 : ab (-1) = 1 := rfl
  have e1 : ab a * ab (-1) = ab a := by rw [e0, Int.mul_one]
  have e2 : (ng a != ng (-1)) = !ng a := by cases ng a <;> rfl
  rw [e1, e2]
  by_cases h : a < 0
  · have e3 : ab a = -a := by unfold ab; omega
    have e4 : (!ng a) = false := by unfold ng; rw [decide_eq_true h]; rfl
    rw [e3, e4]
    unfold fitP
    by_cases hm : a = -9223372036854775808
    · rw [if_pos hm, if_neg (by unfold fits; rw [if_neg (by decide)]; omega)]
    · rw [if_neg hm, if_pos (by unfold fits; rw [if_neg (by decide)]; omega)]
      rfl
  · have e3 : ab a = a := by unfold ab; omega
    have e4 : (!ng a) = true := by unfold ng; rw [decide_eq_false h]; rfl
    rw [e3, e4, if_neg (by omega)]
    unfold fitP
    rw [if_pos (by unfold fits; rw [if_pos rfl]; omega)]
    rfl
theorem ints_does (op a b : Int) (ha : I64 a) (hb : I64 b) (h6 : 6 ≤ op) (h10 : op ≤ 10) : Does cE 163 [] 0 [.v (it op), .v (it a), .v (it b)] (.v (inA (inV op a b))) [] 0 := by
  have h := pIn_v_does op a b ha hb
  have e : pIn_v op a b = inA (inV op a b) := by
    unfold pIn_v inV
    simp only [inA_if]
    by_cases o6 : op = 6
    · subst o6; rfl
    by_cases o9 : op = 9
    · subst o9; rfl
    by_cases o10 : op = 10
    · subst o10; rfl
    rw [beq_eq_false_iff_ne.mpr o6, beq_eq_false_iff_ne.mpr o9, beq_eq_false_iff_ne.mpr o10]
    by_cases b0 : b = 0
    · subst b0; rfl
    rw [beq_eq_false_iff_ne.mpr b0]
    by_cases b1 : b = -1
    · subst b1
      rw [neg_one ha]
      by_cases o8 : op = 8
      · subst o8
        have e3 : a.tmod (-1) = 0 := by simp
        change Value.tuple #[it (a.tmod (-1)), it 0] = Value.tuple #[it 0, it 0]
        rw [e3]
      · rw [beq_eq_false_iff_ne.mpr o8]
        by_cases hm : a = -9223372036854775808
        · subst hm
          have w : IntKind.i64.wrap (0 - -9223372036854775808) = -9223372036854775808 := by decide
          rw [w]; rfl
        · have w : IntKind.i64.wrap (0 - a) = -a := by rw [wrap64 (by omega) (by omega)]; omega
          have w2 : a.tdiv (-1) = -a := by simp
          rw [w, w2, if_neg hm, wrap64 (n := -a) (by omega) (by omega)]
          by_cases z : a = 0
          · subst z; rfl
          · have z2 : (a == -a) = false := by simp; omega
            rw [z2]; rfl
    · rw [beq_eq_false_iff_ne.mpr b1]
      by_cases o8 : op = 8
      · subst o8; rfl
      · have o7 : op = 7 := by omega
        subst o7; rfl
  rw [e] at h
  exact h
end Go.Proofs.YtnchjdhepakokaaGreatDoorC
