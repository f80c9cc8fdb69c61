import Derived.Test.YtnchjdhepakokaaGreatDoorM05
import Derived.Test.YtnchjdhepakokaaGreatDoorM12
import Derived.KernelRfl
import Derived.Test.YtnchjdhepakokaaGreatDoorM10
/- Each path of each function: on which conditions it is taken, what it gives. Printed by a program (wip/tools/sxexp2.lean); Lean checks each. -/
namespace Go.Proofs.YtnchjdhepakokaaGreatDoorC
open Go.Proofs Go.Proofs.YtnchjdhepakokaaGreatDoorSx
set_option maxRecDepth 100000
set_option linter.unusedVariables false

theorem pRe_1 (op k n m j p q : Int) (s u : ByteArray) (i0 : Int) (i1 : Int) (h0 : (k == 1) = true) (h1 : (j == 1) = true) (h2 : Does cE 163 [] 0 [.v (.int .i64 (op)), .v (.int .i64 (n)), .v (.int .i64 (p))] (.v (.tuple #[(.int .i64 (i0)), (.int .i64 (i1))])) [] 0) (h3 : (i1 != 0) = true) : Does cE 91 [] 0 [.v (it op), .v (vl k n m s), .v (vl j p q u)] (.v (.tuple #[(.agg #[(.int .i64 (0)), (.int .i64 (0)), (.int .i64 (0)), (.string ((ByteArray.mk #[])))]), (.int .i64 (i1))])) [] 0 :=
  does_path (ct := ct) ctOk mixed (fn := Tryz.f91) rfl (by kernel_rfl) 2000 [.n 30, .t, .t, .t, .t, .t, .c (.v (.tuple #[(.int .i64 (i0)), (.int .i64 (i1))])) [] 0, .e, .t] (by kernel_rfl) (cj h0 (cj h0 (cj h0 (cj h0 (cj h1 (cj h2 (cj h3 cj0)))))))
theorem pRe_2 (op k n m j p q : Int) (s u : ByteArray) (i0 : Int) (i1 : Int) (h0 : (k == 1) = true) (h1 : (j == 1) = true) (h2 : Does cE 163 [] 0 [.v (.int .i64 (op)), .v (.int .i64 (n)), .v (.int .i64 (p))] (.v (.tuple #[(.int .i64 (i0)), (.int .i64 (i1))])) [] 0) (h3 : (i1 != 0) = false) : Does cE 91 [] 0 [.v (it op), .v (vl k n m s), .v (vl j p q u)] (.v (.tuple #[(.agg #[(.int .i64 (1)), (.int .i64 (i0)), (.int .i64 (0)), (.string ((ByteArray.mk #[])))]), (.int .i64 (0))])) [] 0 :=
  does_path (ct := ct) ctOk mixed (fn := Tryz.f91) rfl (by kernel_rfl) 2000 [.n 30, .t, .t, .t, .t, .t, .c (.v (.tuple #[(.int .i64 (i0)), (.int .i64 (i1))])) [] 0, .e, .f] (by kernel_rfl) (cj h0 (cj h0 (cj h0 (cj h0 (cj h1 (cj h2 (cj h3 cj0)))))))
theorem rRe_1 (op k n m j p q : Int) (s u : ByteArray) (i0 : Int) (i1 : Int) (h0 : (k == 1) = true) (h1 : (j == 1) = true) (h2 : Does cE 176 [] 0 [.v (.int .i64 (op)), .v (.int .i64 (n)), .v (.int .i64 (p))] (.v (.tuple #[(.int .i64 (i0)), (.int .i64 (i1))])) [] 0) (h3 : (i1 != 0) = true) : Does cE 97 [] 0 [.v (it op), .v (vl k n m s), .v (vl j p q u)] (.v (.tuple #[(.agg #[(.int .i64 (0)), (.int .i64 (0)), (.int .i64 (0)), (.string ((ByteArray.mk #[])))]), (.int .i64 (i1))])) [] 0 :=
  does_path (ct := ct) ctOk mixed (fn := Tryz.f97) rfl (by kernel_rfl) 2000 [.t, .t, .t, .t, .t, .c (.v (.tuple #[(.int .i64 (i0)), (.int .i64 (i1))])) [] 0, .e, .t] (by kernel_rfl) (cj h0 (cj h0 (cj h0 (cj h0 (cj h1 (cj h2 (cj h3 cj0)))))))
theorem rRe_2 (op k n m j p q : Int) (s u : ByteArray) (i0 : Int) (i1 : Int) (h0 : (k == 1) = true) (h1 : (j == 1) = true) (h2 : Does cE 176 [] 0 [.v (.int .i64 (op)), .v (.int .i64 (n)), .v (.int .i64 (p))] (.v (.tuple #[(.int .i64 (i0)), (.int .i64 (i1))])) [] 0) (h3 : (i1 != 0) = false) : Does cE 97 [] 0 [.v (it op), .v (vl k n m s), .v (vl j p q u)] (.v (.tuple #[(.agg #[(.int .i64 (1)), (.int .i64 (i0)), (.int .i64 (0)), (.string ((ByteArray.mk #[])))]), (.int .i64 (0))])) [] 0 :=
  does_path (ct := ct) ctOk mixed (fn := Tryz.f97) rfl (by kernel_rfl) 2000 [.t, .t, .t, .t, .t, .c (.v (.tuple #[(.int .i64 (i0)), (.int .i64 (i1))])) [] 0, .e, .f] (by kernel_rfl) (cj h0 (cj h0 (cj h0 (cj h0 (cj h1 (cj h2 (cj h3 cj0)))))))
theorem rRe_3 (op k n m j p q : Int) (s u : ByteArray) (i0 : Int) (i1 : Int) (i2 : Int) (s3 : ByteArray) (i4 : Int) (h0 : (k == 1) = true) (h1 : (j == 1) = false) (h2 : (j == 2) = true) (h3 : Does cE 177 [] 0 [.v (.int .i64 (op)), .v (.agg #[(.int .i64 (n)), (.int .i64 (m))]), .v (.agg #[(.int .i64 (p)), (.int .i64 (q))])] (.v (.tuple #[(.agg #[(.int .i64 (i0)), (.int .i64 (i1)), (.int .i64 (i2)), (.string (s3))]), (.int .i64 (i4))])) [] 0) : Does cE 97 [] 0 [.v (it op), .v (vl k n m s), .v (vl j p q u)] (.v (.tuple #[(.agg #[(.int .i64 (i0)), (.int .i64 (i1)), (.int .i64 (i2)), (.string (s3))]), (.int .i64 (i4))])) [] 0 :=
  does_path (ct := ct) ctOk mixed (fn := Tryz.f97) rfl (by kernel_rfl) 2000 [.t, .t, .t, .t, .f, .e, .t, .t, .t, .t, .l, .l, .e, .f, .f, .f, .f, .l, .t, .e, .e, .c (.v (.tuple #[(.agg #[(.int .i64 (i0)), (.int .i64 (i1)), (.int .i64 (i2)), (.string (s3))]), (.int .i64 (i4))])) [] 0] (by kernel_rfl) (cj h0 (cj h0 (cj h0 (cj h0 (cj h1 (cj h0 (cj h0 (cj h0 (cj h0 (cj h1 (cj h1 (cj h1 (cj h1 (cj h2 (cj h3 cj0)))))))))))))))
theorem rRe_4 (op k n m j p q : Int) (s u : ByteArray) (i0 : Int) (i1 : Int) (i2 : Int) (s3 : ByteArray) (i4 : Int) (h0 : (k == 1) = true) (h1 : (j == 1) = false) (h2 : (j == 2) = false) (h3 : (k == 5) = true) (h4 : (j == 5) = true) (h5 : Does cE 178 [] 0 [.v (.int .i64 (op)), .v (.agg #[(.int .i64 (n)), (.int .i64 (m))]), .v (.agg #[(.int .i64 (p)), (.int .i64 (q))])] (.v (.tuple #[(.agg #[(.int .i64 (i0)), (.int .i64 (i1)), (.int .i64 (i2)), (.string (s3))]), (.int .i64 (i4))])) [] 0) : Does cE 97 [] 0 [.v (it op), .v (vl k n m s), .v (vl j p q u)] (.v (.tuple #[(.agg #[(.int .i64 (i0)), (.int .i64 (i1)), (.int .i64 (i2)), (.string (s3))]), (.int .i64 (i4))])) [] 0 :=
  does_path (ct := ct) ctOk mixed (fn := Tryz.f97) rfl (by kernel_rfl) 2000 [.t, .t, .t, .t, .f, .e, .t, .t, .t, .t, .l, .l, .e, .f, .f, .f, .f, .l, .f, .t, .t, .t, .t, .t, .e, .e, .c (.v (.tuple #[(.agg #[(.int .i64 (i0)), (.int .i64 (i1)), (.int .i64 (i2)), (.string (s3))]), (.int .i64 (i4))])) [] 0] (by kernel_rfl) (cj h0 (cj h0 (cj h0 (cj h0 (cj h1 (cj h0 (cj h0 (cj h0 (cj h0 (cj h1 (cj h1 (cj h1 (cj h1 (cj h2 (cj h3 (cj h3 (cj h3 (cj h3 (cj h4 (cj h5 cj0))))))))))))))))))))
theorem rRe_5 (op k n m j p q : Int) (s u : ByteArray) (h0 : (k == 1) = true) (h1 : (j == 1) = false) (h2 : (j == 2) = false) (h3 : (k == 5) = true) (h4 : (j == 5) = false) (h5 : (k == 3) = true) (h6 : (j == 3) = true) (h7 : (op == 9) = true) (h8 : decide (IntKind.i64.wrap ((s.size : Int) + (u.size : Int)) > 256) = true) : Does cE 97 [] 0 [.v (it op), .v (vl k n m s), .v (vl j p q u)] (.v (.tuple #[(.agg #[(.int .i64 (0)), (.int .i64 (0)), (.int .i64 (0)), (.string ((ByteArray.mk #[])))]), (.int .i64 (32))])) [] 0 :=
  does_path (ct := ct) ctOk mixed (fn := Tryz.f97) rfl (by kernel_rfl) 2000 [.t, .t, .t, .t, .f, .e, .t, .t, .t, .t, .l, .l, .e, .f, .f, .f, .f, .l, .f, .t, .t, .t, .t, .f, .t, .t, .t, .t, .t, .t, .t, .t, .t] (by kernel_rfl) (cj h0 (cj h0 (cj h0 (cj h0 (cj h1 (cj h0 (cj h0 (cj h0 (cj h0 (cj h1 (cj h1 (cj h1 (cj h1 (cj h2 (cj h3 (cj h3 (cj h3 (cj h3 (cj h4 (cj h5 (cj h5 (cj h5 (cj h5 (cj h6 (cj h6 (cj h6 (cj h7 (cj h8 cj0))))))))))))))))))))))))))))
theorem rRe_6 (op k n m j p q : Int) (s u : ByteArray) (h0 : (k == 1) = true) (h1 : (j == 1) = false) (h2 : (j == 2) = false) (h3 : (k == 5) = true) (h4 : (j == 5) = false) (h5 : (k == 3) = true) (h6 : (j == 3) = true) (h7 : (op == 9) = true) (h8 : decide (IntKind.i64.wrap ((s.size : Int) + (u.size : Int)) > 256) = false) (h9 : s.size + u.size ≤ 9223372036854775807) : Does cE 97 [] 0 [.v (it op), .v (vl k n m s), .v (vl j p q u)] (.v (.tuple #[(.agg #[(.int .i64 (3)), (.int .i64 (0)), (.int .i64 (0)), (.string (s ++ u))]), (.int .i64 (0))])) [] 0 :=
  does_path (ct := ct) ctOk mixed (fn := Tryz.f97) rfl (by kernel_rfl) 2000 [.t, .t, .t, .t, .f, .e, .t, .t, .t, .t, .l, .l, .e, .f, .f, .f, .f, .l, .f, .t, .t, .t, .t, .f, .t, .t, .t, .t, .t, .t, .t, .t, .f] (by kernel_rfl) (cj h0 (cj h0 (cj h0 (cj h0 (cj h1 (cj h0 (cj h0 (cj h0 (cj h0 (cj h1 (cj h1 (cj h1 (cj h1 (cj h2 (cj h3 (cj h3 (cj h3 (cj h3 (cj h4 (cj h5 (cj h5 (cj h5 (cj h5 (cj h6 (cj h6 (cj h6 (cj h7 (cj h8 (cj h9 cj0)))))))))))))))))))))))))))))
theorem rRe_7 (op k n m j p q : Int) (s u : ByteArray) (h0 : (k == 1) = true) (h1 : (j == 1) = false) (h2 : (j == 2) = false) (h3 : (k == 5) = true) (h4 : (j == 5) = false) (h5 : (k == 3) = true) (h6 : (j == 3) = true) (h7 : (op == 9) = false) : Does cE 97 [] 0 [.v (it op), .v (vl k n m s), .v (vl j p q u)] (.v (.tuple #[(.agg #[(.int .i64 (0)), (.int .i64 (0)), (.int .i64 (0)), (.string ((ByteArray.mk #[])))]), (.int .i64 (31))])) [] 0 :=
  does_path (ct := ct) ctOk mixed (fn := Tryz.f97) rfl (by kernel_rfl) 2000 [.t, .t, .t, .t, .f, .e, .t, .t, .t, .t, .l, .l, .e, .f, .f, .f, .f, .l, .f, .t, .t, .t, .t, .f, .t, .t, .t, .t, .t, .t, .t, .f] (by kernel_rfl) (cj h0 (cj h0 (cj h0 (cj h0 (cj h1 (cj h0 (cj h0 (cj h0 (cj h0 (cj h1 (cj h1 (cj h1 (cj h1 (cj h2 (cj h3 (cj h3 (cj h3 (cj h3 (cj h4 (cj h5 (cj h5 (cj h5 (cj h5 (cj h6 (cj h6 (cj h6 (cj h7 cj0)))))))))))))))))))))))))))
theorem rRe_8 (op k n m j p q : Int) (s u : ByteArray) (h0 : (k == 1) = true) (h1 : (j == 1) = false) (h2 : (j == 2) = false) (h3 : (k == 5) = true) (h4 : (j == 5) = false) (h5 : (k == 3) = true) (h6 : (j == 3) = false) : Does cE 97 [] 0 [.v (it op), .v (vl k n m s), .v (vl j p q u)] (.v (.tuple #[(.agg #[(.int .i64 (0)), (.int .i64 (0)), (.int .i64 (0)), (.string ((ByteArray.mk #[])))]), (.int .i64 (31))])) [] 0 :=
  does_path (ct := ct) ctOk mixed (fn := Tryz.f97) rfl (by kernel_rfl) 2000 [.t, .t, .t, .t, .f, .e, .t, .t, .t, .t, .l, .l, .e, .f, .f, .f, .f, .l, .f, .t, .t, .t, .t, .f, .t, .t, .t, .t, .f, .f, .f, .l] (by kernel_rfl) (cj h0 (cj h0 (cj h0 (cj h0 (cj h1 (cj h0 (cj h0 (cj h0 (cj h0 (cj h1 (cj h1 (cj h1 (cj h1 (cj h2 (cj h3 (cj h3 (cj h3 (cj h3 (cj h4 (cj h5 (cj h5 (cj h5 (cj h5 (cj h6 (cj h6 (cj h6 cj0))))))))))))))))))))))))))
theorem rRe_9 (op k n m j p q : Int) (s u : ByteArray) (h0 : (k == 1) = true) (h1 : (j == 1) = false) (h2 : (j == 2) = false) (h3 : (k == 5) = true) (h4 : (j == 5) = false) (h5 : (k == 3) = false) : Does cE 97 [] 0 [.v (it op), .v (vl k n m s), .v (vl j p q u)] (.v (.tuple #[(.agg #[(.int .i64 (0)), (.int .i64 (0)), (.int .i64 (0)), (.string ((ByteArray.mk #[])))]), (.int .i64 (31))])) [] 0 :=
  does_path (ct := ct) ctOk mixed (fn := Tryz.f97) rfl (by kernel_rfl) 2000 [.t, .t, .t, .t, .f, .e, .t, .t, .t, .t, .l, .l, .e, .f, .f, .f, .f, .l, .f, .t, .t, .t, .t, .f, .f, .f, .f, .f, .l, .f, .f, .l] (by kernel_rfl) (cj h0 (cj h0 (cj h0 (cj h0 (cj h1 (cj h0 (cj h0 (cj h0 (cj h0 (cj h1 (cj h1 (cj h1 (cj h1 (cj h2 (cj h3 (cj h3 (cj h3 (cj h3 (cj h4 (cj h5 (cj h5 (cj h5 (cj h5 (cj (rfl : false = false) (cj (rfl : false = false) cj0)))))))))))))))))))))))))
theorem rRe_10 (op k n m j p q : Int) (s u : ByteArray) (h0 : (k == 1) = true) (h1 : (j == 1) = false) (h2 : (j == 2) = false) (h3 : (k == 5) = false) (h4 : (k == 3) = true) (h5 : (j == 3) = true) (h6 : (op == 9) = true) (h7 : decide (IntKind.i64.wrap ((s.size : Int) + (u.size : Int)) > 256) = true) : Does cE 97 [] 0 [.v (it op), .v (vl k n m s), .v (vl j p q u)] (.v (.tuple #[(.agg #[(.int .i64 (0)), (.int .i64 (0)), (.int .i64 (0)), (.string ((ByteArray.mk #[])))]), (.int .i64 (32))])) [] 0 :=
  does_path (ct := ct) ctOk mixed (fn := Tryz.f97) rfl (by kernel_rfl) 2000 [.t, .t, .t, .t, .f, .e, .t, .t, .t, .t, .l, .l, .e, .f, .f, .f, .f, .l, .f, .f, .f, .f, .f, .l, .t, .t, .t, .t, .t, .t, .t, .t, .t] (by kernel_rfl) (cj h0 (cj h0 (cj h0 (cj h0 (cj h1 (cj h0 (cj h0 (cj h0 (cj h0 (cj h1 (cj h1 (cj h1 (cj h1 (cj h2 (cj h3 (cj h3 (cj h3 (cj h3 (cj h4 (cj h4 (cj h4 (cj h4 (cj h5 (cj h5 (cj h5 (cj h6 (cj h7 cj0)))))))))))))))))))))))))))
theorem rRe_11 (op k n m j p q : Int) (s u : ByteArray) (h0 : (k == 1) = true) (h1 : (j == 1) = false) (h2 : (j == 2) = false) (h3 : (k == 5) = false) (h4 : (k == 3) = true) (h5 : (j == 3) = true) (h6 : (op == 9) = true) (h7 : decide (IntKind.i64.wrap ((s.size : Int) + (u.size : Int)) > 256) = false) (h8 : s.size + u.size ≤ 9223372036854775807) : Does cE 97 [] 0 [.v (it op), .v (vl k n m s), .v (vl j p q u)] (.v (.tuple #[(.agg #[(.int .i64 (3)), (.int .i64 (0)), (.int .i64 (0)), (.string (s ++ u))]), (.int .i64 (0))])) [] 0 :=
  does_path (ct := ct) ctOk mixed (fn := Tryz.f97) rfl (by kernel_rfl) 2000 [.t, .t, .t, .t, .f, .e, .t, .t, .t, .t, .l, .l, .e, .f, .f, .f, .f, .l, .f, .f, .f, .f, .f, .l, .t, .t, .t, .t, .t, .t, .t, .t, .f] (by kernel_rfl) (cj h0 (cj h0 (cj h0 (cj h0 (cj h1 (cj h0 (cj h0 (cj h0 (cj h0 (cj h1 (cj h1 (cj h1 (cj h1 (cj h2 (cj h3 (cj h3 (cj h3 (cj h3 (cj h4 (cj h4 (cj h4 (cj h4 (cj h5 (cj h5 (cj h5 (cj h6 (cj h7 (cj h8 cj0))))))))))))))))))))))))))))
theorem rRe_12 (op k n m j p q : Int) (s u : ByteArray) (h0 : (k == 1) = true) (h1 : (j == 1) = false) (h2 : (j == 2) = false) (h3 : (k == 5) = false) (h4 : (k == 3) = true) (h5 : (j == 3) = true) (h6 : (op == 9) = false) : Does cE 97 [] 0 [.v (it op), .v (vl k n m s), .v (vl j p q u)] (.v (.tuple #[(.agg #[(.int .i64 (0)), (.int .i64 (0)), (.int .i64 (0)), (.string ((ByteArray.mk #[])))]), (.int .i64 (31))])) [] 0 :=
  does_path (ct := ct) ctOk mixed (fn := Tryz.f97) rfl (by kernel_rfl) 2000 [.t, .t, .t, .t, .f, .e, .t, .t, .t, .t, .l, .l, .e, .f, .f, .f, .f, .l, .f, .f, .f, .f, .f, .l, .t, .t, .t, .t, .t, .t, .t, .f] (by kernel_rfl) (cj h0 (cj h0 (cj h0 (cj h0 (cj h1 (cj h0 (cj h0 (cj h0 (cj h0 (cj h1 (cj h1 (cj h1 (cj h1 (cj h2 (cj h3 (cj h3 (cj h3 (cj h3 (cj h4 (cj h4 (cj h4 (cj h4 (cj h5 (cj h5 (cj h5 (cj h6 cj0))))))))))))))))))))))))))
theorem rRe_13 (op k n m j p q : Int) (s u : ByteArray) (h0 : (k == 1) = true) (h1 : (j == 1) = false) (h2 : (j == 2) = false) (h3 : (k == 5) = false) (h4 : (k == 3) = true) (h5 : (j == 3) = false) : Does cE 97 [] 0 [.v (it op), .v (vl k n m s), .v (vl j p q u)] (.v (.tuple #[(.agg #[(.int .i64 (0)), (.int .i64 (0)), (.int .i64 (0)), (.string ((ByteArray.mk #[])))]), (.int .i64 (31))])) [] 0 :=
  does_path (ct := ct) ctOk mixed (fn := Tryz.f97) rfl (by kernel_rfl) 2000 [.t, .t, .t, .t, .f, .e, .t, .t, .t, .t, .l, .l, .e, .f, .f, .f, .f, .l, .f, .f, .f, .f, .f, .l, .t, .t, .t, .t, .f, .f, .f, .l] (by kernel_rfl) (cj h0 (cj h0 (cj h0 (cj h0 (cj h1 (cj h0 (cj h0 (cj h0 (cj h0 (cj h1 (cj h1 (cj h1 (cj h1 (cj h2 (cj h3 (cj h3 (cj h3 (cj h3 (cj h4 (cj h4 (cj h4 (cj h4 (cj h5 (cj h5 (cj h5 cj0)))))))))))))))))))))))))
theorem rRe_14 (op k n m j p q : Int) (s u : ByteArray) (h0 : (k == 1) = true) (h1 : (j == 1) = false) (h2 : (j == 2) = false) (h3 : (k == 5) = false) (h4 : (k == 3) = false) : Does cE 97 [] 0 [.v (it op), .v (vl k n m s), .v (vl j p q u)] (.v (.tuple #[(.agg #[(.int .i64 (0)), (.int .i64 (0)), (.int .i64 (0)), (.string ((ByteArray.mk #[])))]), (.int .i64 (31))])) [] 0 :=
  does_path (ct := ct) ctOk mixed (fn := Tryz.f97) rfl (by kernel_rfl) 2000 [.t, .t, .t, .t, .f, .e, .t, .t, .t, .t, .l, .l, .e, .f, .f, .f, .f, .l, .f, .f, .f, .f, .f, .l, .f, .f, .f, .f, .l, .f, .f, .l] (by kernel_rfl) (cj h0 (cj h0 (cj h0 (cj h0 (cj h1 (cj h0 (cj h0 (cj h0 (cj h0 (cj h1 (cj h1 (cj h1 (cj h1 (cj h2 (cj h3 (cj h3 (cj h3 (cj h3 (cj h4 (cj h4 (cj h4 (cj h4 (cj (rfl : false = false) (cj (rfl : false = false) cj0))))))))))))))))))))))))
theorem rRe_15 (op k n m j p q : Int) (s u : ByteArray) (i0 : Int) (i1 : Int) (i2 : Int) (s3 : ByteArray) (i4 : Int) (h0 : (k == 1) = false) (h1 : (k == 2) = true) (h2 : (j == 1) = true) (h3 : Does cE 177 [] 0 [.v (.int .i64 (op)), .v (.agg #[(.int .i64 (n)), (.int .i64 (m))]), .v (.agg #[(.int .i64 (p)), (.int .i64 (q))])] (.v (.tuple #[(.agg #[(.int .i64 (i0)), (.int .i64 (i1)), (.int .i64 (i2)), (.string (s3))]), (.int .i64 (i4))])) [] 0) : Does cE 97 [] 0 [.v (it op), .v (vl k n m s), .v (vl j p q u)] (.v (.tuple #[(.agg #[(.int .i64 (i0)), (.int .i64 (i1)), (.int .i64 (i2)), (.string (s3))]), (.int .i64 (i4))])) [] 0 :=
  does_path (ct := ct) ctOk mixed (fn := Tryz.f97) rfl (by kernel_rfl) 2000 [.f, .f, .f, .f, .l, .e, .f, .f, .f, .f, .t, .t, .e, .t, .t, .t, .t, .t, .l, .e, .e, .c (.v (.tuple #[(.agg #[(.int .i64 (i0)), (.int .i64 (i1)), (.int .i64 (i2)), (.string (s3))]), (.int .i64 (i4))])) [] 0] (by kernel_rfl) (cj h0 (cj h0 (cj h0 (cj h0 (cj h0 (cj h0 (cj h0 (cj h0 (cj h1 (cj h1 (cj h2 (cj h2 (cj h2 (cj h2 (cj h1 (cj h3 cj0))))))))))))))))
theorem rRe_16 (op k n m j p q : Int) (s u : ByteArray) (i0 : Int) (i1 : Int) (i2 : Int) (s3 : ByteArray) (i4 : Int) (h0 : (k == 1) = false) (h1 : (k == 2) = true) (h2 : (j == 1) = false) (h3 : (j == 2) = true) (h4 : Does cE 177 [] 0 [.v (.int .i64 (op)), .v (.agg #[(.int .i64 (n)), (.int .i64 (m))]), .v (.agg #[(.int .i64 (p)), (.int .i64 (q))])] (.v (.tuple #[(.agg #[(.int .i64 (i0)), (.int .i64 (i1)), (.int .i64 (i2)), (.string (s3))]), (.int .i64 (i4))])) [] 0) : Does cE 97 [] 0 [.v (it op), .v (vl k n m s), .v (vl j p q u)] (.v (.tuple #[(.agg #[(.int .i64 (i0)), (.int .i64 (i1)), (.int .i64 (i2)), (.string (s3))]), (.int .i64 (i4))])) [] 0 :=
  does_path (ct := ct) ctOk mixed (fn := Tryz.f97) rfl (by kernel_rfl) 2000 [.f, .f, .f, .f, .l, .e, .f, .f, .f, .f, .t, .t, .e, .f, .f, .f, .f, .t, .t, .e, .e, .c (.v (.tuple #[(.agg #[(.int .i64 (i0)), (.int .i64 (i1)), (.int .i64 (i2)), (.string (s3))]), (.int .i64 (i4))])) [] 0] (by kernel_rfl) (cj h0 (cj h0 (cj h0 (cj h0 (cj h0 (cj h0 (cj h0 (cj h0 (cj h1 (cj h1 (cj h2 (cj h2 (cj h2 (cj h2 (cj h1 (cj h3 (cj h4 cj0)))))))))))))))))
theorem rRe_17 (op k n m j p q : Int) (s u : ByteArray) (i0 : Int) (i1 : Int) (i2 : Int) (s3 : ByteArray) (i4 : Int) (h0 : (k == 1) = false) (h1 : (k == 2) = true) (h2 : (j == 1) = false) (h3 : (j == 2) = false) (h4 : (k == 5) = true) (h5 : (j == 5) = true) (h6 : Does cE 178 [] 0 [.v (.int .i64 (op)), .v (.agg #[(.int .i64 (n)), (.int .i64 (m))]), .v (.agg #[(.int .i64 (p)), (.int .i64 (q))])] (.v (.tuple #[(.agg #[(.int .i64 (i0)), (.int .i64 (i1)), (.int .i64 (i2)), (.string (s3))]), (.int .i64 (i4))])) [] 0) : Does cE 97 [] 0 [.v (it op), .v (vl k n m s), .v (vl j p q u)] (.v (.tuple #[(.agg #[(.int .i64 (i0)), (.int .i64 (i1)), (.int .i64 (i2)), (.string (s3))]), (.int .i64 (i4))])) [] 0 :=
  does_path (ct := ct) ctOk mixed (fn := Tryz.f97) rfl (by kernel_rfl) 2000 [.f, .f, .f, .f, .l, .e, .f, .f, .f, .f, .t, .t, .e, .f, .f, .f, .f, .t, .f, .t, .t, .t, .t, .t, .e, .e, .c (.v (.tuple #[(.agg #[(.int .i64 (i0)), (.int .i64 (i1)), (.int .i64 (i2)), (.string (s3))]), (.int .i64 (i4))])) [] 0] (by kernel_rfl) (cj h0 (cj h0 (cj h0 (cj h0 (cj h0 (cj h0 (cj h0 (cj h0 (cj h1 (cj h1 (cj h2 (cj h2 (cj h2 (cj h2 (cj h1 (cj h3 (cj h4 (cj h4 (cj h4 (cj h4 (cj h5 (cj h6 cj0))))))))))))))))))))))
theorem rRe_18 (op k n m j p q : Int) (s u : ByteArray) (h0 : (k == 1) = false) (h1 : (k == 2) = true) (h2 : (j == 1) = false) (h3 : (j == 2) = false) (h4 : (k == 5) = true) (h5 : (j == 5) = false) (h6 : (k == 3) = true) (h7 : (j == 3) = true) (h8 : (op == 9) = true) (h9 : decide (IntKind.i64.wrap ((s.size : Int) + (u.size : Int)) > 256) = true) : Does cE 97 [] 0 [.v (it op), .v (vl k n m s), .v (vl j p q u)] (.v (.tuple #[(.agg #[(.int .i64 (0)), (.int .i64 (0)), (.int .i64 (0)), (.string ((ByteArray.mk #[])))]), (.int .i64 (32))])) [] 0 :=
  does_path (ct := ct) ctOk mixed (fn := Tryz.f97) rfl (by kernel_rfl) 2000 [.f, .f, .f, .f, .l, .e, .f, .f, .f, .f, .t, .t, .e, .f, .f, .f, .f, .t, .f, .t, .t, .t, .t, .f, .t, .t, .t, .t, .t, .t, .t, .t, .t] (by kernel_rfl) (cj h0 (cj h0 (cj h0 (cj h0 (cj h0 (cj h0 (cj h0 (cj h0 (cj h1 (cj h1 (cj h2 (cj h2 (cj h2 (cj h2 (cj h1 (cj h3 (cj h4 (cj h4 (cj h4 (cj h4 (cj h5 (cj h6 (cj h6 (cj h6 (cj h6 (cj h7 (cj h7 (cj h7 (cj h8 (cj h9 cj0))))))))))))))))))))))))))))))
theorem rRe_19 (op k n m j p q : Int) (s u : ByteArray) (h0 : (k == 1) = false) (h1 : (k == 2) = true) (h2 : (j == 1) = false) (h3 : (j == 2) = false) (h4 : (k == 5) = true) (h5 : (j == 5) = false) (h6 : (k == 3) = true) (h7 : (j == 3) = true) (h8 : (op == 9) = true) (h9 : decide (IntKind.i64.wrap ((s.size : Int) + (u.size : Int)) > 256) = false) (h10 : s.size + u.size ≤ 9223372036854775807) : Does cE 97 [] 0 [.v (it op), .v (vl k n m s), .v (vl j p q u)] (.v (.tuple #[(.agg #[(.int .i64 (3)), (.int .i64 (0)), (.int .i64 (0)), (.string (s ++ u))]), (.int .i64 (0))])) [] 0 :=
  does_path (ct := ct) ctOk mixed (fn := Tryz.f97) rfl (by kernel_rfl) 2000 [.f, .f, .f, .f, .l, .e, .f, .f, .f, .f, .t, .t, .e, .f, .f, .f, .f, .t, .f, .t, .t, .t, .t, .f, .t, .t, .t, .t, .t, .t, .t, .t, .f] (by kernel_rfl) (cj h0 (cj h0 (cj h0 (cj h0 (cj h0 (cj h0 (cj h0 (cj h0 (cj h1 (cj h1 (cj h2 (cj h2 (cj h2 (cj h2 (cj h1 (cj h3 (cj h4 (cj h4 (cj h4 (cj h4 (cj h5 (cj h6 (cj h6 (cj h6 (cj h6 (cj h7 (cj h7 (cj h7 (cj h8 (cj h9 (cj h10 cj0)))))))))))))))))))))))))))))))
theorem rRe_20 (op k n m j p q : Int) (s u : ByteArray) (h0 : (k == 1) = false) (h1 : (k == 2) = true) (h2 : (j == 1) = false) (h3 : (j == 2) = false) (h4 : (k == 5) = true) (h5 : (j == 5) = false) (h6 : (k == 3) = true) (h7 : (j == 3) = true) (h8 : (op == 9) = false) : Does cE 97 [] 0 [.v (it op), .v (vl k n m s), .v (vl j p q u)] (.v (.tuple #[(.agg #[(.int .i64 (0)), (.int .i64 (0)), (.int .i64 (0)), (.string ((ByteArray.mk #[])))]), (.int .i64 (31))])) [] 0 :=
  does_path (ct := ct) ctOk mixed (fn := Tryz.f97) rfl (by kernel_rfl) 2000 [.f, .f, .f, .f, .l, .e, .f, .f, .f, .f, .t, .t, .e, .f, .f, .f, .f, .t, .f, .t, .t, .t, .t, .f, .t, .t, .t, .t, .t, .t, .t, .f] (by kernel_rfl) (cj h0 (cj h0 (cj h0 (cj h0 (cj h0 (cj h0 (cj h0 (cj h0 (cj h1 (cj h1 (cj h2 (cj h2 (cj h2 (cj h2 (cj h1 (cj h3 (cj h4 (cj h4 (cj h4 (cj h4 (cj h5 (cj h6 (cj h6 (cj h6 (cj h6 (cj h7 (cj h7 (cj h7 (cj h8 cj0)))))))))))))))))))))))))))))
theorem rRe_21 (op k n m j p q : Int) (s u : ByteArray) (h0 : (k == 1) = false) (h1 : (k == 2) = true) (h2 : (j == 1) = false) (h3 : (j == 2) = false) (h4 : (k == 5) = true) (h5 : (j == 5) = false) (h6 : (k == 3) = true) (h7 : (j == 3) = false) : Does cE 97 [] 0 [.v (it op), .v (vl k n m s), .v (vl j p q u)] (.v (.tuple #[(.agg #[(.int .i64 (0)), (.int .i64 (0)), (.int .i64 (0)), (.string ((ByteArray.mk #[])))]), (.int .i64 (31))])) [] 0 :=
  does_path (ct := ct) ctOk mixed (fn := Tryz.f97) rfl (by kernel_rfl) 2000 [.f, .f, .f, .f, .l, .e, .f, .f, .f, .f, .t, .t, .e, .f, .f, .f, .f, .t, .f, .t, .t, .t, .t, .f, .t, .t, .t, .t, .f, .f, .f, .l] (by kernel_rfl) (cj h0 (cj h0 (cj h0 (cj h0 (cj h0 (cj h0 (cj h0 (cj h0 (cj h1 (cj h1 (cj h2 (cj h2 (cj h2 (cj h2 (cj h1 (cj h3 (cj h4 (cj h4 (cj h4 (cj h4 (cj h5 (cj h6 (cj h6 (cj h6 (cj h6 (cj h7 (cj h7 (cj h7 cj0))))))))))))))))))))))))))))
theorem rRe_22 (op k n m j p q : Int) (s u : ByteArray) (h0 : (k == 1) = false) (h1 : (k == 2) = true) (h2 : (j == 1) = false) (h3 : (j == 2) = false) (h4 : (k == 5) = true) (h5 : (j == 5) = false) (h6 : (k == 3) = false) : Does cE 97 [] 0 [.v (it op), .v (vl k n m s), .v (vl j p q u)] (.v (.tuple #[(.agg #[(.int .i64 (0)), (.int .i64 (0)), (.int .i64 (0)), (.string ((ByteArray.mk #[])))]), (.int .i64 (31))])) [] 0 :=
  does_path (ct := ct) ctOk mixed (fn := Tryz.f97) rfl (by kernel_rfl) 2000 [.f, .f, .f, .f, .l, .e, .f, .f, .f, .f, .t, .t, .e, .f, .f, .f, .f, .t, .f, .t, .t, .t, .t, .f, .f, .f, .f, .f, .l, .f, .f, .l] (by kernel_rfl) (cj h0 (cj h0 (cj h0 (cj h0 (cj h0 (cj h0 (cj h0 (cj h0 (cj h1 (cj h1 (cj h2 (cj h2 (cj h2 (cj h2 (cj h1 (cj h3 (cj h4 (cj h4 (cj h4 (cj h4 (cj h5 (cj h6 (cj h6 (cj h6 (cj h6 (cj (rfl : false = false) (cj (rfl : false = false) cj0)))))))))))))))))))))))))))
theorem rRe_23 (op k n m j p q : Int) (s u : ByteArray) (h0 : (k == 1) = false) (h1 : (k == 2) = true) (h2 : (j == 1) = false) (h3 : (j == 2) = false) (h4 : (k == 5) = false) (h5 : (k == 3) = true) (h6 : (j == 3) = true) (h7 : (op == 9) = true) (h8 : decide (IntKind.i64.wrap ((s.size : Int) + (u.size : Int)) > 256) = true) : Does cE 97 [] 0 [.v (it op), .v (vl k n m s), .v (vl j p q u)] (.v (.tuple #[(.agg #[(.int .i64 (0)), (.int .i64 (0)), (.int .i64 (0)), (.string ((ByteArray.mk #[])))]), (.int .i64 (32))])) [] 0 :=
  does_path (ct := ct) ctOk mixed (fn := Tryz.f97) rfl (by kernel_rfl) 2000 [.f, .f, .f, .f, .l, .e, .f, .f, .f, .f, .t, .t, .e, .f, .f, .f, .f, .t, .f, .f, .f, .f, .f, .l, .t, .t, .t, .t, .t, .t, .t, .t, .t] (by kernel_rfl) (cj h0 (cj h0 (cj h0 (cj h0 (cj h0 (cj h0 (cj h0 (cj h0 (cj h1 (cj h1 (cj h2 (cj h2 (cj h2 (cj h2 (cj h1 (cj h3 (cj h4 (cj h4 (cj h4 (cj h4 (cj h5 (cj h5 (cj h5 (cj h5 (cj h6 (cj h6 (cj h6 (cj h7 (cj h8 cj0)))))))))))))))))))))))))))))
theorem rRe_24 (op k n m j p q : Int) (s u : ByteArray) (h0 : (k == 1) = false) (h1 : (k == 2) = true) (h2 : (j == 1) = false) (h3 : (j == 2) = false) (h4 : (k == 5) = false) (h5 : (k == 3) = true) (h6 : (j == 3) = true) (h7 : (op == 9) = true) (h8 : decide (IntKind.i64.wrap ((s.size : Int) + (u.size : Int)) > 256) = false) (h9 : s.size + u.size ≤ 9223372036854775807) : Does cE 97 [] 0 [.v (it op), .v (vl k n m s), .v (vl j p q u)] (.v (.tuple #[(.agg #[(.int .i64 (3)), (.int .i64 (0)), (.int .i64 (0)), (.string (s ++ u))]), (.int .i64 (0))])) [] 0 :=
  does_path (ct := ct) ctOk mixed (fn := Tryz.f97) rfl (by kernel_rfl) 2000 [.f, .f, .f, .f, .l, .e, .f, .f, .f, .f, .t, .t, .e, .f, .f, .f, .f, .t, .f, .f, .f, .f, .f, .l, .t, .t, .t, .t, .t, .t, .t, .t, .f] (by kernel_rfl) (cj h0 (cj h0 (cj h0 (cj h0 (cj h0 (cj h0 (cj h0 (cj h0 (cj h1 (cj h1 (cj h2 (cj h2 (cj h2 (cj h2 (cj h1 (cj h3 (cj h4 (cj h4 (cj h4 (cj h4 (cj h5 (cj h5 (cj h5 (cj h5 (cj h6 (cj h6 (cj h6 (cj h7 (cj h8 (cj h9 cj0))))))))))))))))))))))))))))))
theorem rRe_25 (op k n m j p q : Int) (s u : ByteArray) (h0 : (k == 1) = false) (h1 : (k == 2) = true) (h2 : (j == 1) = false) (h3 : (j == 2) = false) (h4 : (k == 5) = false) (h5 : (k == 3) = true) (h6 : (j == 3) = true) (h7 : (op == 9) = false) : Does cE 97 [] 0 [.v (it op), .v (vl k n m s), .v (vl j p q u)] (.v (.tuple #[(.agg #[(.int .i64 (0)), (.int .i64 (0)), (.int .i64 (0)), (.string ((ByteArray.mk #[])))]), (.int .i64 (31))])) [] 0 :=
  does_path (ct := ct) ctOk mixed (fn := Tryz.f97) rfl (by kernel_rfl) 2000 [.f, .f, .f, .f, .l, .e, .f, .f, .f, .f, .t, .t, .e, .f, .f, .f, .f, .t, .f, .f, .f, .f, .f, .l, .t, .t, .t, .t, .t, .t, .t, .f] (by kernel_rfl) (cj h0 (cj h0 (cj h0 (cj h0 (cj h0 (cj h0 (cj h0 (cj h0 (cj h1 (cj h1 (cj h2 (cj h2 (cj h2 (cj h2 (cj h1 (cj h3 (cj h4 (cj h4 (cj h4 (cj h4 (cj h5 (cj h5 (cj h5 (cj h5 (cj h6 (cj h6 (cj h6 (cj h7 cj0))))))))))))))))))))))))))))
theorem rRe_26 (op k n m j p q : Int) (s u : ByteArray) (h0 : (k == 1) = false) (h1 : (k == 2) = true) (h2 : (j == 1) = false) (h3 : (j == 2) = false) (h4 : (k == 5) = false) (h5 : (k == 3) = true) (h6 : (j == 3) = false) : Does cE 97 [] 0 [.v (it op), .v (vl k n m s), .v (vl j p q u)] (.v (.tuple #[(.agg #[(.int .i64 (0)), (.int .i64 (0)), (.int .i64 (0)), (.string ((ByteArray.mk #[])))]), (.int .i64 (31))])) [] 0 :=
  does_path (ct := ct) ctOk mixed (fn := Tryz.f97) rfl (by kernel_rfl) 2000 [.f, .f, .f, .f, .l, .e, .f, .f, .f, .f, .t, .t, .e, .f, .f, .f, .f, .t, .f, .f, .f, .f, .f, .l, .t, .t, .t, .t, .f, .f, .f, .l] (by kernel_rfl) (cj h0 (cj h0 (cj h0 (cj h0 (cj h0 (cj h0 (cj h0 (cj h0 (cj h1 (cj h1 (cj h2 (cj h2 (cj h2 (cj h2 (cj h1 (cj h3 (cj h4 (cj h4 (cj h4 (cj h4 (cj h5 (cj h5 (cj h5 (cj h5 (cj h6 (cj h6 (cj h6 cj0)))))))))))))))))))))))))))
theorem rRe_27 (op k n m j p q : Int) (s u : ByteArray) (h0 : (k == 1) = false) (h1 : (k == 2) = true) (h2 : (j == 1) = false) (h3 : (j == 2) = false) (h4 : (k == 5) = false) (h5 : (k == 3) = false) : Does cE 97 [] 0 [.v (it op), .v (vl k n m s), .v (vl j p q u)] (.v (.tuple #[(.agg #[(.int .i64 (0)), (.int .i64 (0)), (.int .i64 (0)), (.string ((ByteArray.mk #[])))]), (.int .i64 (31))])) [] 0 :=
  does_path (ct := ct) ctOk mixed (fn := Tryz.f97) rfl (by kernel_rfl) 2000 [.f, .f, .f, .f, .l, .e, .f, .f, .f, .f, .t, .t, .e, .f, .f, .f, .f, .t, .f, .f, .f, .f, .f, .l, .f, .f, .f, .f, .l, .f, .f, .l] (by kernel_rfl) (cj h0 (cj h0 (cj h0 (cj h0 (cj h0 (cj h0 (cj h0 (cj h0 (cj h1 (cj h1 (cj h2 (cj h2 (cj h2 (cj h2 (cj h1 (cj h3 (cj h4 (cj h4 (cj h4 (cj h4 (cj h5 (cj h5 (cj h5 (cj h5 (cj (rfl : false = false) (cj (rfl : false = false) cj0))))))))))))))))))))))))))
theorem rRe_28 (op k n m j p q : Int) (s u : ByteArray) (i0 : Int) (i1 : Int) (i2 : Int) (s3 : ByteArray) (i4 : Int) (h0 : (k == 1) = false) (h1 : (k == 2) = false) (h2 : (k == 5) = true) (h3 : (j == 5) = true) (h4 : Does cE 178 [] 0 [.v (.int .i64 (op)), .v (.agg #[(.int .i64 (n)), (.int .i64 (m))]), .v (.agg #[(.int .i64 (p)), (.int .i64 (q))])] (.v (.tuple #[(.agg #[(.int .i64 (i0)), (.int .i64 (i1)), (.int .i64 (i2)), (.string (s3))]), (.int .i64 (i4))])) [] 0) : Does cE 97 [] 0 [.v (it op), .v (vl k n m s), .v (vl j p q u)] (.v (.tuple #[(.agg #[(.int .i64 (i0)), (.int .i64 (i1)), (.int .i64 (i2)), (.string (s3))]), (.int .i64 (i4))])) [] 0 :=
  does_path (ct := ct) ctOk mixed (fn := Tryz.f97) rfl (by kernel_rfl) 2000 [.f, .f, .f, .f, .l, .e, .f, .f, .f, .f, .f, .f, .f, .l, .t, .t, .t, .t, .t, .e, .e, .c (.v (.tuple #[(.agg #[(.int .i64 (i0)), (.int .i64 (i1)), (.int .i64 (i2)), (.string (s3))]), (.int .i64 (i4))])) [] 0] (by kernel_rfl) (cj h0 (cj h0 (cj h0 (cj h0 (cj h0 (cj h0 (cj h0 (cj h0 (cj h1 (cj h1 (cj h1 (cj h2 (cj h2 (cj h2 (cj h2 (cj h3 (cj h4 cj0)))))))))))))))))
theorem rRe_29 (op k n m j p q : Int) (s u : ByteArray) (h0 : (k == 1) = false) (h1 : (k == 2) = false) (h2 : (k == 5) = true) (h3 : (j == 5) = false) (h4 : (k == 3) = true) (h5 : (j == 3) = true) (h6 : (op == 9) = true) (h7 : decide (IntKind.i64.wrap ((s.size : Int) + (u.size : Int)) > 256) = true) : Does cE 97 [] 0 [.v (it op), .v (vl k n m s), .v (vl j p q u)] (.v (.tuple #[(.agg #[(.int .i64 (0)), (.int .i64 (0)), (.int .i64 (0)), (.string ((ByteArray.mk #[])))]), (.int .i64 (32))])) [] 0 :=
  does_path (ct := ct) ctOk mixed (fn := Tryz.f97) rfl (by kernel_rfl) 2000 [.f, .f, .f, .f, .l, .e, .f, .f, .f, .f, .f, .f, .f, .l, .t, .t, .t, .t, .f, .t, .t, .t, .t, .t, .t, .t, .t, .t] (by kernel_rfl) (cj h0 (cj h0 (cj h0 (cj h0 (cj h0 (cj h0 (cj h0 (cj h0 (cj h1 (cj h1 (cj h1 (cj h2 (cj h2 (cj h2 (cj h2 (cj h3 (cj h4 (cj h4 (cj h4 (cj h4 (cj h5 (cj h5 (cj h5 (cj h6 (cj h7 cj0)))))))))))))))))))))))))
theorem rRe_30 (op k n m j p q : Int) (s u : ByteArray) (h0 : (k == 1) = false) (h1 : (k == 2) = false) (h2 : (k == 5) = true) (h3 : (j == 5) = false) (h4 : (k == 3) = true) (h5 : (j == 3) = true) (h6 : (op == 9) = true) (h7 : decide (IntKind.i64.wrap ((s.size : Int) + (u.size : Int)) > 256) = false) (h8 : s.size + u.size ≤ 9223372036854775807) : Does cE 97 [] 0 [.v (it op), .v (vl k n m s), .v (vl j p q u)] (.v (.tuple #[(.agg #[(.int .i64 (3)), (.int .i64 (0)), (.int .i64 (0)), (.string (s ++ u))]), (.int .i64 (0))])) [] 0 :=
  does_path (ct := ct) ctOk mixed (fn := Tryz.f97) rfl (by kernel_rfl) 2000 [.f, .f, .f, .f, .l, .e, .f, .f, .f, .f, .f, .f, .f, .l, .t, .t, .t, .t, .f, .t, .t, .t, .t, .t, .t, .t, .t, .f] (by kernel_rfl) (cj h0 (cj h0 (cj h0 (cj h0 (cj h0 (cj h0 (cj h0 (cj h0 (cj h1 (cj h1 (cj h1 (cj h2 (cj h2 (cj h2 (cj h2 (cj h3 (cj h4 (cj h4 (cj h4 (cj h4 (cj h5 (cj h5 (cj h5 (cj h6 (cj h7 (cj h8 cj0))))))))))))))))))))))))))
theorem rRe_31 (op k n m j p q : Int) (s u : ByteArray) (h0 : (k == 1) = false) (h1 : (k == 2) = false) (h2 : (k == 5) = true) (h3 : (j == 5) = false) (h4 : (k == 3) = true) (h5 : (j == 3) = true) (h6 : (op == 9) = false) : Does cE 97 [] 0 [.v (it op), .v (vl k n m s), .v (vl j p q u)] (.v (.tuple #[(.agg #[(.int .i64 (0)), (.int .i64 (0)), (.int .i64 (0)), (.string ((ByteArray.mk #[])))]), (.int .i64 (31))])) [] 0 :=
  does_path (ct := ct) ctOk mixed (fn := Tryz.f97) rfl (by kernel_rfl) 2000 [.f, .f, .f, .f, .l, .e, .f, .f, .f, .f, .f, .f, .f, .l, .t, .t, .t, .t, .f, .t, .t, .t, .t, .t, .t, .t, .f] (by kernel_rfl) (cj h0 (cj h0 (cj h0 (cj h0 (cj h0 (cj h0 (cj h0 (cj h0 (cj h1 (cj h1 (cj h1 (cj h2 (cj h2 (cj h2 (cj h2 (cj h3 (cj h4 (cj h4 (cj h4 (cj h4 (cj h5 (cj h5 (cj h5 (cj h6 cj0))))))))))))))))))))))))
theorem rRe_32 (op k n m j p q : Int) (s u : ByteArray) (h0 : (k == 1) = false) (h1 : (k == 2) = false) (h2 : (k == 5) = true) (h3 : (j == 5) = false) (h4 : (k == 3) = true) (h5 : (j == 3) = false) : Does cE 97 [] 0 [.v (it op), .v (vl k n m s), .v (vl j p q u)] (.v (.tuple #[(.agg #[(.int .i64 (0)), (.int .i64 (0)), (.int .i64 (0)), (.string ((ByteArray.mk #[])))]), (.int .i64 (31))])) [] 0 :=
  does_path (ct := ct) ctOk mixed (fn := Tryz.f97) rfl (by kernel_rfl) 2000 [.f, .f, .f, .f, .l, .e, .f, .f, .f, .f, .f, .f, .f, .l, .t, .t, .t, .t, .f, .t, .t, .t, .t, .f, .f, .f, .l] (by kernel_rfl) (cj h0 (cj h0 (cj h0 (cj h0 (cj h0 (cj h0 (cj h0 (cj h0 (cj h1 (cj h1 (cj h1 (cj h2 (cj h2 (cj h2 (cj h2 (cj h3 (cj h4 (cj h4 (cj h4 (cj h4 (cj h5 (cj h5 (cj h5 cj0)))))))))))))))))))))))
theorem rRe_33 (op k n m j p q : Int) (s u : ByteArray) (h0 : (k == 1) = false) (h1 : (k == 2) = false) (h2 : (k == 5) = true) (h3 : (j == 5) = false) (h4 : (k == 3) = false) : Does cE 97 [] 0 [.v (it op), .v (vl k n m s), .v (vl j p q u)] (.v (.tuple #[(.agg #[(.int .i64 (0)), (.int .i64 (0)), (.int .i64 (0)), (.string ((ByteArray.mk #[])))]), (.int .i64 (31))])) [] 0 :=
  does_path (ct := ct) ctOk mixed (fn := Tryz.f97) rfl (by kernel_rfl) 2000 [.f, .f, .f, .f, .l, .e, .f, .f, .f, .f, .f, .f, .f, .l, .t, .t, .t, .t, .f, .f, .f, .f, .f, .l, .f, .f, .l] (by kernel_rfl) (cj h0 (cj h0 (cj h0 (cj h0 (cj h0 (cj h0 (cj h0 (cj h0 (cj h1 (cj h1 (cj h1 (cj h2 (cj h2 (cj h2 (cj h2 (cj h3 (cj h4 (cj h4 (cj h4 (cj h4 (cj (rfl : false = false) (cj (rfl : false = false) cj0))))))))))))))))))))))
theorem rRe_34 (op k n m j p q : Int) (s u : ByteArray) (h0 : (k == 1) = false) (h1 : (k == 2) = false) (h2 : (k == 5) = false) (h3 : (k == 3) = true) (h4 : (j == 3) = true) (h5 : (op == 9) = true) (h6 : decide (IntKind.i64.wrap ((s.size : Int) + (u.size : Int)) > 256) = true) : Does cE 97 [] 0 [.v (it op), .v (vl k n m s), .v (vl j p q u)] (.v (.tuple #[(.agg #[(.int .i64 (0)), (.int .i64 (0)), (.int .i64 (0)), (.string ((ByteArray.mk #[])))]), (.int .i64 (32))])) [] 0 :=
  does_path (ct := ct) ctOk mixed (fn := Tryz.f97) rfl (by kernel_rfl) 2000 [.f, .f, .f, .f, .l, .e, .f, .f, .f, .f, .f, .f, .f, .l, .f, .f, .f, .f, .l, .t, .t, .t, .t, .t, .t, .t, .t, .t] (by kernel_rfl) (cj h0 (cj h0 (cj h0 (cj h0 (cj h0 (cj h0 (cj h0 (cj h0 (cj h1 (cj h1 (cj h1 (cj h2 (cj h2 (cj h2 (cj h2 (cj h3 (cj h3 (cj h3 (cj h3 (cj h4 (cj h4 (cj h4 (cj h5 (cj h6 cj0))))))))))))))))))))))))
theorem rRe_35 (op k n m j p q : Int) (s u : ByteArray) (h0 : (k == 1) = false) (h1 : (k == 2) = false) (h2 : (k == 5) = false) (h3 : (k == 3) = true) (h4 : (j == 3) = true) (h5 : (op == 9) = true) (h6 : decide (IntKind.i64.wrap ((s.size : Int) + (u.size : Int)) > 256) = false) (h7 : s.size + u.size ≤ 9223372036854775807) : Does cE 97 [] 0 [.v (it op), .v (vl k n m s), .v (vl j p q u)] (.v (.tuple #[(.agg #[(.int .i64 (3)), (.int .i64 (0)), (.int .i64 (0)), (.string (s ++ u))]), (.int .i64 (0))])) [] 0 :=
  does_path (ct := ct) ctOk mixed (fn := Tryz.f97) rfl (by kernel_rfl) 2000 [.f, .f, .f, .f, .l, .e, .f, .f, .f, .f, .f, .f, .f, .l, .f, .f, .f, .f, .l, .t, .t, .t, .t, .t, .t, .t, .t, .f] (by kernel_rfl) (cj h0 (cj h0 (cj h0 (cj h0 (cj h0 (cj h0 (cj h0 (cj h0 (cj h1 (cj h1 (cj h1 (cj h2 (cj h2 (cj h2 (cj h2 (cj h3 (cj h3 (cj h3 (cj h3 (cj h4 (cj h4 (cj h4 (cj h5 (cj h6 (cj h7 cj0)))))))))))))))))))))))))
theorem rRe_36 (op k n m j p q : Int) (s u : ByteArray) (h0 : (k == 1) = false) (h1 : (k == 2) = false) (h2 : (k == 5) = false) (h3 : (k == 3) = true) (h4 : (j == 3) = true) (h5 : (op == 9) = false) : Does cE 97 [] 0 [.v (it op), .v (vl k n m s), .v (vl j p q u)] (.v (.tuple #[(.agg #[(.int .i64 (0)), (.int .i64 (0)), (.int .i64 (0)), (.string ((ByteArray.mk #[])))]), (.int .i64 (31))])) [] 0 :=
  does_path (ct := ct) ctOk mixed (fn := Tryz.f97) rfl (by kernel_rfl) 2000 [.f, .f, .f, .f, .l, .e, .f, .f, .f, .f, .f, .f, .f, .l, .f, .f, .f, .f, .l, .t, .t, .t, .t, .t, .t, .t, .f] (by kernel_rfl) (cj h0 (cj h0 (cj h0 (cj h0 (cj h0 (cj h0 (cj h0 (cj h0 (cj h1 (cj h1 (cj h1 (cj h2 (cj h2 (cj h2 (cj h2 (cj h3 (cj h3 (cj h3 (cj h3 (cj h4 (cj h4 (cj h4 (cj h5 cj0)))))))))))))))))))))))
theorem rRe_37 (op k n m j p q : Int) (s u : ByteArray) (h0 : (k == 1) = false) (h1 : (k == 2) = false) (h2 : (k == 5) = false) (h3 : (k == 3) = true) (h4 : (j == 3) = false) : Does cE 97 [] 0 [.v (it op), .v (vl k n m s), .v (vl j p q u)] (.v (.tuple #[(.agg #[(.int .i64 (0)), (.int .i64 (0)), (.int .i64 (0)), (.string ((ByteArray.mk #[])))]), (.int .i64 (31))])) [] 0 :=
  does_path (ct := ct) ctOk mixed (fn := Tryz.f97) rfl (by kernel_rfl) 2000 [.f, .f, .f, .f, .l, .e, .f, .f, .f, .f, .f, .f, .f, .l, .f, .f, .f, .f, .l, .t, .t, .t, .t, .f, .f, .f, .l] (by kernel_rfl) (cj h0 (cj h0 (cj h0 (cj h0 (cj h0 (cj h0 (cj h0 (cj h0 (cj h1 (cj h1 (cj h1 (cj h2 (cj h2 (cj h2 (cj h2 (cj h3 (cj h3 (cj h3 (cj h3 (cj h4 (cj h4 (cj h4 cj0))))))))))))))))))))))
theorem rRe_38 (op k n m j p q : Int) (s u : ByteArray) (h0 : (k == 1) = false) (h1 : (k == 2) = false) (h2 : (k == 5) = false) (h3 : (k == 3) = false) : Does cE 97 [] 0 [.v (it op), .v (vl k n m s), .v (vl j p q u)] (.v (.tuple #[(.agg #[(.int .i64 (0)), (.int .i64 (0)), (.int .i64 (0)), (.string ((ByteArray.mk #[])))]), (.int .i64 (31))])) [] 0 :=
  does_path (ct := ct) ctOk mixed (fn := Tryz.f97) rfl (by kernel_rfl) 2000 [.f, .f, .f, .f, .l, .e, .f, .f, .f, .f, .f, .f, .f, .l, .f, .f, .f, .f, .l, .f, .f, .f, .f, .l, .f, .f, .l] (by kernel_rfl) (cj h0 (cj h0 (cj h0 (cj h0 (cj h0 (cj h0 (cj h0 (cj h0 (cj h1 (cj h1 (cj h1 (cj h2 (cj h2 (cj h2 (cj h2 (cj h3 (cj h3 (cj h3 (cj h3 (cj (rfl : false = false) (cj (rfl : false = false) cj0)))))))))))))))))))))
end Go.Proofs.YtnchjdhepakokaaGreatDoorC
namespace Go.Proofs.YtnchjdhepakokaaGreatDoorC
open Go.Proofs Go.Proofs.YtnchjdhepakokaaGreatDoorSx Go.Lib
set_option maxRecDepth 100000
set_option linter.unusedVariables false
set_option linter.unusedSimpArgs false
def rRe_v (op k n m j p q : Int) (s u : ByteArray) : Value :=
  bif (k == 1) then bif (j == 1) then bif (((inV op n p).2) != 0) then (.tuple #[(.agg #[(.int .i64 (0)), (.int .i64 (0)), (.int .i64 (0)), (.string ((ByteArray.mk #[])))]), (.int .i64 (((inV op n p).2)))])
      else (.tuple #[(.agg #[(.int .i64 (1)), (.int .i64 (((inV op n p).1))), (.int .i64 (0)), (.string ((ByteArray.mk #[])))]), (.int .i64 (0))])
    else bif (j == 2) then (.tuple #[(.agg #[(.int .i64 (((deV op n m p q).1))), (.int .i64 (((deV op n m p q).2.1))), (.int .i64 (((deV op n m p q).2.2.1))), (.string (((deV op n m p q).2.2.2.1)))]), (.int .i64 (((deV op n m p q).2.2.2.2)))])
    else bif (k == 5) then bif (j == 5) then (.tuple #[(.agg #[(.int .i64 (((poV op n m p q).1))), (.int .i64 (((poV op n m p q).2.1))), (.int .i64 (((poV op n m p q).2.2.1))), (.string (((poV op n m p q).2.2.2.1)))]), (.int .i64 (((poV op n m p q).2.2.2.2)))])
      else bif (k == 3) then bif (j == 3) then bif (op == 9) then bif (decide (IntKind.i64.wrap ((s.size : Int) + (u.size : Int)) > 256)) then (.tuple #[(.agg #[(.int .i64 (0)), (.int .i64 (0)), (.int .i64 (0)), (.string ((ByteArray.mk #[])))]), (.int .i64 (32))])
            else (.tuple #[(.agg #[(.int .i64 (3)), (.int .i64 (0)), (.int .i64 (0)), (.string (s ++ u))]), (.int .i64 (0))])
          else (.tuple #[(.agg #[(.int .i64 (0)), (.int .i64 (0)), (.int .i64 (0)), (.string ((ByteArray.mk #[])))]), (.int .i64 (31))])
        else (.tuple #[(.agg #[(.int .i64 (0)), (.int .i64 (0)), (.int .i64 (0)), (.string ((ByteArray.mk #[])))]), (.int .i64 (31))])
      else (.tuple #[(.agg #[(.int .i64 (0)), (.int .i64 (0)), (.int .i64 (0)), (.string ((ByteArray.mk #[])))]), (.int .i64 (31))])
    else bif (k == 3) then bif (j == 3) then bif (op == 9) then bif (decide (IntKind.i64.wrap ((s.size : Int) + (u.size : Int)) > 256)) then (.tuple #[(.agg #[(.int .i64 (0)), (.int .i64 (0)), (.int .i64 (0)), (.string ((ByteArray.mk #[])))]), (.int .i64 (32))])
          else (.tuple #[(.agg #[(.int .i64 (3)), (.int .i64 (0)), (.int .i64 (0)), (.string (s ++ u))]), (.int .i64 (0))])
        else (.tuple #[(.agg #[(.int .i64 (0)), (.int .i64 (0)), (.int .i64 (0)), (.string ((ByteArray.mk #[])))]), (.int .i64 (31))])
      else (.tuple #[(.agg #[(.int .i64 (0)), (.int .i64 (0)), (.int .i64 (0)), (.string ((ByteArray.mk #[])))]), (.int .i64 (31))])
    else (.tuple #[(.agg #[(.int .i64 (0)), (.int .i64 (0)), (.int .i64 (0)), (.string ((ByteArray.mk #[])))]), (.int .i64 (31))])
  else bif (k == 2) then bif (j == 1) then (.tuple #[(.agg #[(.int .i64 (((deV op n m p q).1))), (.int .i64 (((deV op n m p q).2.1))), (.int .i64 (((deV op n m p q).2.2.1))), (.string (((deV op n m p q).2.2.2.1)))]), (.int .i64 (((deV op n m p q).2.2.2.2)))])
    else bif (j == 2) then (.tuple #[(.agg #[(.int .i64 (((deV op n m p q).1))), (.int .i64 (((deV op n m p q).2.1))), (.int .i64 (((deV op n m p q).2.2.1))), (.string (((deV op n m p q).2.2.2.1)))]), (.int .i64 (((deV op n m p q).2.2.2.2)))])
    else bif (k == 5) then bif (j == 5) then (.tuple #[(.agg #[(.int .i64 (((poV op n m p q).1))), (.int .i64 (((poV op n m p q).2.1))), (.int .i64 (((poV op n m p q).2.2.1))), (.string (((poV op n m p q).2.2.2.1)))]), (.int .i64 (((poV op n m p q).2.2.2.2)))])
      else bif (k == 3) then bif (j == 3) then bif (op == 9) then bif (decide (IntKind.i64.wrap ((s.size : Int) + (u.size : Int)) > 256)) then (.tuple #[(.agg #[(.int .i64 (0)), (.int .i64 (0)), (.int .i64 (0)), (.string ((ByteArray.mk #[])))]), (.int .i64 (32))])
            else (.tuple #[(.agg #[(.int .i64 (3)), (.int .i64 (0)), (.int .i64 (0)), (.string (s ++ u))]), (.int .i64 (0))])
          else (.tuple #[(.agg #[(.int .i64 (0)), (.int .i64 (0)), (.int .i64 (0)), (.string ((ByteArray.mk #[])))]), (.int .i64 (31))])
        else (.tuple #[(.agg #[(.int .i64 (0)), (.int .i64 (0)), (.int .i64 (0)), (.string ((ByteArray.mk #[])))]), (.int .i64 (31))])
      else (.tuple #[(.agg #[(.int .i64 (0)), (.int .i64 (0)), (.int .i64 (0)), (.string ((ByteArray.mk #[])))]), (.int .i64 (31))])
    else bif (k == 3) then bif (j == 3) then bif (op == 9) then bif (decide (IntKind.i64.wrap ((s.size : Int) + (u.size : Int)) > 256)) then (.tuple #[(.agg #[(.int .i64 (0)), (.int .i64 (0)), (.int .i64 (0)), (.string ((ByteArray.mk #[])))]), (.int .i64 (32))])
          else (.tuple #[(.agg #[(.int .i64 (3)), (.int .i64 (0)), (.int .i64 (0)), (.string (s ++ u))]), (.int .i64 (0))])
        else (.tuple #[(.agg #[(.int .i64 (0)), (.int .i64 (0)), (.int .i64 (0)), (.string ((ByteArray.mk #[])))]), (.int .i64 (31))])
      else (.tuple #[(.agg #[(.int .i64 (0)), (.int .i64 (0)), (.int .i64 (0)), (.string ((ByteArray.mk #[])))]), (.int .i64 (31))])
    else (.tuple #[(.agg #[(.int .i64 (0)), (.int .i64 (0)), (.int .i64 (0)), (.string ((ByteArray.mk #[])))]), (.int .i64 (31))])
  else bif (k == 5) then bif (j == 5) then (.tuple #[(.agg #[(.int .i64 (((poV op n m p q).1))), (.int .i64 (((poV op n m p q).2.1))), (.int .i64 (((poV op n m p q).2.2.1))), (.string (((poV op n m p q).2.2.2.1)))]), (.int .i64 (((poV op n m p q).2.2.2.2)))])
    else bif (k == 3) then bif (j == 3) then bif (op == 9) then bif (decide (IntKind.i64.wrap ((s.size : Int) + (u.size : Int)) > 256)) then (.tuple #[(.agg #[(.int .i64 (0)), (.int .i64 (0)), (.int .i64 (0)), (.string ((ByteArray.mk #[])))]), (.int .i64 (32))])
          else (.tuple #[(.agg #[(.int .i64 (3)), (.int .i64 (0)), (.int .i64 (0)), (.string (s ++ u))]), (.int .i64 (0))])
        else (.tuple #[(.agg #[(.int .i64 (0)), (.int .i64 (0)), (.int .i64 (0)), (.string ((ByteArray.mk #[])))]), (.int .i64 (31))])
      else (.tuple #[(.agg #[(.int .i64 (0)), (.int .i64 (0)), (.int .i64 (0)), (.string ((ByteArray.mk #[])))]), (.int .i64 (31))])
    else (.tuple #[(.agg #[(.int .i64 (0)), (.int .i64 (0)), (.int .i64 (0)), (.string ((ByteArray.mk #[])))]), (.int .i64 (31))])
  else bif (k == 3) then bif (j == 3) then bif (op == 9) then bif (decide (IntKind.i64.wrap ((s.size : Int) + (u.size : Int)) > 256)) then (.tuple #[(.agg #[(.int .i64 (0)), (.int .i64 (0)), (.int .i64 (0)), (.string ((ByteArray.mk #[])))]), (.int .i64 (32))])
        else (.tuple #[(.agg #[(.int .i64 (3)), (.int .i64 (0)), (.int .i64 (0)), (.string (s ++ u))]), (.int .i64 (0))])
      else (.tuple #[(.agg #[(.int .i64 (0)), (.int .i64 (0)), (.int .i64 (0)), (.string ((ByteArray.mk #[])))]), (.int .i64 (31))])
    else (.tuple #[(.agg #[(.int .i64 (0)), (.int .i64 (0)), (.int .i64 (0)), (.string ((ByteArray.mk #[])))]), (.int .i64 (31))])
  else (.tuple #[(.agg #[(.int .i64 (0)), (.int .i64 (0)), (.int .i64 (0)), (.string ((ByteArray.mk #[])))]), (.int .i64 (31))])
theorem rRe_v_does (op k n m j p q : Int) (s u : ByteArray) (hn : I64 n) (hm : I64 m) (hp : I64 p) (hq : I64 q) (hs : s.size ≤ 140737488351232) (hu : u.size ≤ 140737488351232) : Does cE 97 [] 0 [.v (it op), .v (vl k n m s), .v (vl j p q u)] (.v (rRe_v op k n m j p q s u)) [] 0 := by
  unfold rRe_v
  refine dbif (fun c1 => ?_) (fun c1 => ?_)
  · refine dbif (fun c2 => ?_) (fun c2 => ?_)
    · refine dbif (fun c3 => ?_) (fun c3 => ?_)
      · exact rRe_1 (op := op) (k := k) (n := n) (m := m) (j := j) (p := p) (q := q) (s := s) (u := u) (h0 := c1) (h1 := c2) (h2 := rints_does op n p (by assumption) (by assumption)) (h3 := c3)
      · exact rRe_2 (op := op) (k := k) (n := n) (m := m) (j := j) (p := p) (q := q) (s := s) (u := u) (h0 := c1) (h1 := c2) (h2 := rints_does op n p (by assumption) (by assumption)) (h3 := c3)
    · refine dbif (fun c4 => ?_) (fun c4 => ?_)
      · exact rRe_3 (op := op) (k := k) (n := n) (m := m) (j := j) (p := p) (q := q) (s := s) (u := u) (h0 := c1) (h1 := c2) (h2 := c4) (h3 := rdecs_does op n m p q (by assumption) (by assumption) (by assumption) (by assumption))
      · refine dbif (fun c5 => ?_) (fun c5 => ?_)
        · refine dbif (fun c6 => ?_) (fun c6 => ?_)
          · exact rRe_4 (op := op) (k := k) (n := n) (m := m) (j := j) (p := p) (q := q) (s := s) (u := u) (h0 := c1) (h1 := c2) (h2 := c4) (h3 := c5) (h4 := c6) (h5 := rpoints_does op n m p q)
          · refine dbif (fun c7 => ?_) (fun c7 => ?_)
            · refine dbif (fun c8 => ?_) (fun c8 => ?_)
              · refine dbif (fun c9 => ?_) (fun c9 => ?_)
                · refine dbif (fun c10 => ?_) (fun c10 => ?_)
                  · exact rRe_5 (op := op) (k := k) (n := n) (m := m) (j := j) (p := p) (q := q) (s := s) (u := u) (h0 := c1) (h1 := c2) (h2 := c4) (h3 := c5) (h4 := c6) (h5 := c7) (h6 := c8) (h7 := c9) (h8 := c10)
                  · exact rRe_6 (op := op) (k := k) (n := n) (m := m) (j := j) (p := p) (q := q) (s := s) (u := u) (h0 := c1) (h1 := c2) (h2 := c4) (h3 := c5) (h4 := c6) (h5 := c7) (h6 := c8) (h7 := c9) (h8 := c10) (h9 := by omega)
                · exact rRe_7 (op := op) (k := k) (n := n) (m := m) (j := j) (p := p) (q := q) (s := s) (u := u) (h0 := c1) (h1 := c2) (h2 := c4) (h3 := c5) (h4 := c6) (h5 := c7) (h6 := c8) (h7 := c9)
              · exact rRe_8 (op := op) (k := k) (n := n) (m := m) (j := j) (p := p) (q := q) (s := s) (u := u) (h0 := c1) (h1 := c2) (h2 := c4) (h3 := c5) (h4 := c6) (h5 := c7) (h6 := c8)
            · exact rRe_9 (op := op) (k := k) (n := n) (m := m) (j := j) (p := p) (q := q) (s := s) (u := u) (h0 := c1) (h1 := c2) (h2 := c4) (h3 := c5) (h4 := c6) (h5 := c7)
        · refine dbif (fun c11 => ?_) (fun c11 => ?_)
          · refine dbif (fun c12 => ?_) (fun c12 => ?_)
            · refine dbif (fun c13 => ?_) (fun c13 => ?_)
              · refine dbif (fun c14 => ?_) (fun c14 => ?_)
                · exact rRe_10 (op := op) (k := k) (n := n) (m := m) (j := j) (p := p) (q := q) (s := s) (u := u) (h0 := c1) (h1 := c2) (h2 := c4) (h3 := c5) (h4 := c11) (h5 := c12) (h6 := c13) (h7 := c14)
                · exact rRe_11 (op := op) (k := k) (n := n) (m := m) (j := j) (p := p) (q := q) (s := s) (u := u) (h0 := c1) (h1 := c2) (h2 := c4) (h3 := c5) (h4 := c11) (h5 := c12) (h6 := c13) (h7 := c14) (h8 := by omega)
              · exact rRe_12 (op := op) (k := k) (n := n) (m := m) (j := j) (p := p) (q := q) (s := s) (u := u) (h0 := c1) (h1 := c2) (h2 := c4) (h3 := c5) (h4 := c11) (h5 := c12) (h6 := c13)
            · exact rRe_13 (op := op) (k := k) (n := n) (m := m) (j := j) (p := p) (q := q) (s := s) (u := u) (h0 := c1) (h1 := c2) (h2 := c4) (h3 := c5) (h4 := c11) (h5 := c12)
          · exact rRe_14 (op := op) (k := k) (n := n) (m := m) (j := j) (p := p) (q := q) (s := s) (u := u) (h0 := c1) (h1 := c2) (h2 := c4) (h3 := c5) (h4 := c11)
  · refine dbif (fun c15 => ?_) (fun c15 => ?_)
    · refine dbif (fun c16 => ?_) (fun c16 => ?_)
      · exact rRe_15 (op := op) (k := k) (n := n) (m := m) (j := j) (p := p) (q := q) (s := s) (u := u) (h0 := c1) (h1 := c15) (h2 := c16) (h3 := rdecs_does op n m p q (by assumption) (by assumption) (by assumption) (by assumption))
      · refine dbif (fun c17 => ?_) (fun c17 => ?_)
        · exact rRe_16 (op := op) (k := k) (n := n) (m := m) (j := j) (p := p) (q := q) (s := s) (u := u) (h0 := c1) (h1 := c15) (h2 := c16) (h3 := c17) (h4 := rdecs_does op n m p q (by assumption) (by assumption) (by assumption) (by assumption))
        · refine dbif (fun c18 => ?_) (fun c18 => ?_)
          · refine dbif (fun c19 => ?_) (fun c19 => ?_)
            · exact rRe_17 (op := op) (k := k) (n := n) (m := m) (j := j) (p := p) (q := q) (s := s) (u := u) (h0 := c1) (h1 := c15) (h2 := c16) (h3 := c17) (h4 := c18) (h5 := c19) (h6 := rpoints_does op n m p q)
            · refine dbif (fun c20 => ?_) (fun c20 => ?_)
              · refine dbif (fun c21 => ?_) (fun c21 => ?_)
                · refine dbif (fun c22 => ?_) (fun c22 => ?_)
                  · refine dbif (fun c23 => ?_) (fun c23 => ?_)
                    · exact rRe_18 (op := op) (k := k) (n := n) (m := m) (j := j) (p := p) (q := q) (s := s) (u := u) (h0 := c1) (h1 := c15) (h2 := c16) (h3 := c17) (h4 := c18) (h5 := c19) (h6 := c20) (h7 := c21) (h8 := c22) (h9 := c23)
                    · exact rRe_19 (op := op) (k := k) (n := n) (m := m) (j := j) (p := p) (q := q) (s := s) (u := u) (h0 := c1) (h1 := c15) (h2 := c16) (h3 := c17) (h4 := c18) (h5 := c19) (h6 := c20) (h7 := c21) (h8 := c22) (h9 := c23) (h10 := by omega)
                  · exact rRe_20 (op := op) (k := k) (n := n) (m := m) (j := j) (p := p) (q := q) (s := s) (u := u) (h0 := c1) (h1 := c15) (h2 := c16) (h3 := c17) (h4 := c18) (h5 := c19) (h6 := c20) (h7 := c21) (h8 := c22)
                · exact rRe_21 (op := op) (k := k) (n := n) (m := m) (j := j) (p := p) (q := q) (s := s) (u := u) (h0 := c1) (h1 := c15) (h2 := c16) (h3 := c17) (h4 := c18) (h5 := c19) (h6 := c20) (h7 := c21)
              · exact rRe_22 (op := op) (k := k) (n := n) (m := m) (j := j) (p := p) (q := q) (s := s) (u := u) (h0 := c1) (h1 := c15) (h2 := c16) (h3 := c17) (h4 := c18) (h5 := c19) (h6 := c20)
          · refine dbif (fun c24 => ?_) (fun c24 => ?_)
            · refine dbif (fun c25 => ?_) (fun c25 => ?_)
              · refine dbif (fun c26 => ?_) (fun c26 => ?_)
                · refine dbif (fun c27 => ?_) (fun c27 => ?_)
                  · exact rRe_23 (op := op) (k := k) (n := n) (m := m) (j := j) (p := p) (q := q) (s := s) (u := u) (h0 := c1) (h1 := c15) (h2 := c16) (h3 := c17) (h4 := c18) (h5 := c24) (h6 := c25) (h7 := c26) (h8 := c27)
                  · exact rRe_24 (op := op) (k := k) (n := n) (m := m) (j := j) (p := p) (q := q) (s := s) (u := u) (h0 := c1) (h1 := c15) (h2 := c16) (h3 := c17) (h4 := c18) (h5 := c24) (h6 := c25) (h7 := c26) (h8 := c27) (h9 := by omega)
                · exact rRe_25 (op := op) (k := k) (n := n) (m := m) (j := j) (p := p) (q := q) (s := s) (u := u) (h0 := c1) (h1 := c15) (h2 := c16) (h3 := c17) (h4 := c18) (h5 := c24) (h6 := c25) (h7 := c26)
              · exact rRe_26 (op := op) (k := k) (n := n) (m := m) (j := j) (p := p) (q := q) (s := s) (u := u) (h0 := c1) (h1 := c15) (h2 := c16) (h3 := c17) (h4 := c18) (h5 := c24) (h6 := c25)
            · exact rRe_27 (op := op) (k := k) (n := n) (m := m) (j := j) (p := p) (q := q) (s := s) (u := u) (h0 := c1) (h1 := c15) (h2 := c16) (h3 := c17) (h4 := c18) (h5 := c24)
    · refine dbif (fun c28 => ?_) (fun c28 => ?_)
      · refine dbif (fun c29 => ?_) (fun c29 => ?_)
        · exact rRe_28 (op := op) (k := k) (n := n) (m := m) (j := j) (p := p) (q := q) (s := s) (u := u) (h0 := c1) (h1 := c15) (h2 := c28) (h3 := c29) (h4 := rpoints_does op n m p q)
        · refine dbif (fun c30 => ?_) (fun c30 => ?_)
          · refine dbif (fun c31 => ?_) (fun c31 => ?_)
            · refine dbif (fun c32 => ?_) (fun c32 => ?_)
              · refine dbif (fun c33 => ?_) (fun c33 => ?_)
                · exact rRe_29 (op := op) (k := k) (n := n) (m := m) (j := j) (p := p) (q := q) (s := s) (u := u) (h0 := c1) (h1 := c15) (h2 := c28) (h3 := c29) (h4 := c30) (h5 := c31) (h6 := c32) (h7 := c33)
                · exact rRe_30 (op := op) (k := k) (n := n) (m := m) (j := j) (p := p) (q := q) (s := s) (u := u) (h0 := c1) (h1 := c15) (h2 := c28) (h3 := c29) (h4 := c30) (h5 := c31) (h6 := c32) (h7 := c33) (h8 := by omega)
              · exact rRe_31 (op := op) (k := k) (n := n) (m := m) (j := j) (p := p) (q := q) (s := s) (u := u) (h0 := c1) (h1 := c15) (h2 := c28) (h3 := c29) (h4 := c30) (h5 := c31) (h6 := c32)
            · exact rRe_32 (op := op) (k := k) (n := n) (m := m) (j := j) (p := p) (q := q) (s := s) (u := u) (h0 := c1) (h1 := c15) (h2 := c28) (h3 := c29) (h4 := c30) (h5 := c31)
          · exact rRe_33 (op := op) (k := k) (n := n) (m := m) (j := j) (p := p) (q := q) (s := s) (u := u) (h0 := c1) (h1 := c15) (h2 := c28) (h3 := c29) (h4 := c30)
      · refine dbif (fun c34 => ?_) (fun c34 => ?_)
        · refine dbif (fun c35 => ?_) (fun c35 => ?_)
          · refine dbif (fun c36 => ?_) (fun c36 => ?_)
            · refine dbif (fun c37 => ?_) (fun c37 => ?_)
              · exact rRe_34 (op := op) (k := k) (n := n) (m := m) (j := j) (p := p) (q := q) (s := s) (u := u) (h0 := c1) (h1 := c15) (h2 := c28) (h3 := c34) (h4 := c35) (h5 := c36) (h6 := c37)
              · exact rRe_35 (op := op) (k := k) (n := n) (m := m) (j := j) (p := p) (q := q) (s := s) (u := u) (h0 := c1) (h1 := c15) (h2 := c28) (h3 := c34) (h4 := c35) (h5 := c36) (h6 := c37) (h7 := by omega)
            · exact rRe_36 (op := op) (k := k) (n := n) (m := m) (j := j) (p := p) (q := q) (s := s) (u := u) (h0 := c1) (h1 := c15) (h2 := c28) (h3 := c34) (h4 := c35) (h5 := c36)
          · exact rRe_37 (op := op) (k := k) (n := n) (m := m) (j := j) (p := p) (q := q) (s := s) (u := u) (h0 := c1) (h1 := c15) (h2 := c28) (h3 := c34) (h4 := c35)
        · exact rRe_38 (op := op) (k := k) (n := n) (m := m) (j := j) (p := p) (q := q) (s := s) (u := u) (h0 := c1) (h1 := c15) (h2 := c28) (h3 := c34)
end Go.Proofs.YtnchjdhepakokaaGreatDoorC
/- Reckoning, told. -/
namespace Go.Proofs.YtnchjdhepakokaaGreatDoorC
open Go.Proofs Go.Proofs.YtnchjdhepakokaaGreatDoorSx Go.Lib
set_option maxRecDepth 100000
set_option linter.unusedVariables false
set_option linter.unusedSimpArgs false
def txV (s u : ByteArray) : Ans := bif decide (IntKind.i64.wrap ((s.size : Int) + (u.size : Int)) > 256) then noV 32 else (3, 0, 0, s ++ u, 0)
def iiV (r : Int × Int) : Ans := bif (r.2 != 0) then noV r.2 else (1, r.1, 0, bE, 0)
def reV (op k n m : Int) (s : ByteArray) (j p q : Int) (u : ByteArray) : Ans :=
  bif (k == 1 && j == 1) then iiV (inV op n p)
  else bif ((k == 1 || k == 2) && (j == 1 || j == 2)) then deV op n m p q
  else bif (k == 5 && j == 5) then poV op n m p q
  else bif (k == 3 && j == 3 && op == 9) then txV s u
  else noV 31
theorem rRe_said (op k n m j p q : Int) (s u : ByteArray) : rRe_v op k n m j p q s u = resV (reV op k n m s j p q u) := by
  unfold rRe_v reV iiV txV
  simp only [resV_if]
  by_cases k1 : k = 1
  · subst k1
    by_cases j1 : j = 1
    · subst j1; rfl
    · by_cases j2 : j = 2
      · subst j2; rfl
      · rw [beq_eq_false_iff_ne.mpr j1, beq_eq_false_iff_ne.mpr j2]; rfl
  · rw [beq_eq_false_iff_ne.mpr k1]
    by_cases k2 : k = 2
    · subst k2
      by_cases j1 : j = 1
      · subst j1; rfl
      · rw [beq_eq_false_iff_ne.mpr j1]
        by_cases j2 : j = 2
        · subst j2; rfl
        · rw [beq_eq_false_iff_ne.mpr j2]; rfl
    · rw [beq_eq_false_iff_ne.mpr k2]
      by_cases k5 : k = 5
      · subst k5
        cases (j == 5) <;> rfl
      · rw [beq_eq_false_iff_ne.mpr k5]
        by_cases k3 : k = 3
        · subst k3
          cases (j == 3) <;> cases (op == 9) <;> rfl
        · rw [beq_eq_false_iff_ne.mpr k3]; rfl
theorem rreckon_does (op k n m : Int) (s : ByteArray) (j p q : Int) (u : ByteArray) (hn : I64 n) (hm : I64 m) (hs : s.size ≤ 140737488351232) (hp : I64 p) (hq : I64 q) (hu : u.size ≤ 140737488351232) : Does cE 97 [] 0 [.v (it op), .v (vl k n m s), .v (vl j p q u)] (.v (resV (reV op k n m s j p q u))) [] 0 := by
  rw [← rRe_said]; exact rRe_v_does op k n m j p q s u hn hm hp hq hs hu
end Go.Proofs.YtnchjdhepakokaaGreatDoorC
/- Short words for paths, and for what a test decides. -/
namespace Go.Proofs.YtnchjdhepakokaaGreatDoorC
open Go.Proofs Go.Proofs.YtnchjdhepakokaaGreatDoorSx
set_option linter.unusedVariables false
theorem pth {f : Nat} {fn : Func} {T T' : Tab cE} {n n' : Nat} {l : List SV} {r : SV} {p : List Prop} (hf : cE.P.funcs[f]? = some fn) (hn : (fn.name == "runtime.NumGoroutine") = false) (d : List (Dec cE)) (h : pathOf cE ct fn 2000 T n l d = some (r, T', n', p)) (hp : Conj p) : Does cE f T n l r T' n' := does_path ctOk mixed hf hn 2000 d h hp
theorem sfin {fn : Func} {K0 n n' : Nat} {keep : List Nat} {k : List It} {s : List SV} {b T' : Tab cE} {res : SV} {p : List Prop} (hK : K0 ≤ n) (d : List (Dec cE)) (h : segOf cE ct fn 2000 K0 keep k s b n d = some (.fin res T' n', p)) (hp : Conj p) : Fin cE fn K0 res T' n' k s b n := seg_fin ctOk mixed hK 2000 d h hp
theorem sat {fn : Func} {K0 n n' m : Nat} {keep : List Nat} {k k' : List It} {s s' : List SV} {b b' T' : Tab cE} {res : SV} {p : List Prop} (hK : K0 ≤ n) (d : List (Dec cE)) (h : segOf cE ct fn 2000 K0 keep k s b n d = some (.at k' s' b' m, p)) (hp : Conj p) (hF : Fin cE fn K0 res T' n' k' s' b' m) : Fin cE fn K0 res T' n' k s b n := seg_at ctOk mixed hK 2000 d h hp hF
theorem tbif {g n n' : Nat} {T T' : Tab cE} {xs : List SV} {c : Bool} {a b : Value} (h1 : c = true → Does cE g T n xs (.v a) T' n') (h0 : c = false → Does cE g T n xs (.v b) T' n') : Does cE g T n xs (.v (bif c then a else b)) T' n' := by
  cases c with
  | true => exact h1 rfl
  | false => exact h0 rfl
theorem dbif3 {g n : Nat} {T : Tab cE} {xs : List SV} {c : Bool} {a b : SV × Tab cE × Nat} (h1 : c = true → Does cE g T n xs a.1 a.2.1 a.2.2) (h0 : c = false → Does cE g T n xs b.1 b.2.1 b.2.2) : Does cE g T n xs (bif c then a else b).1 (bif c then a else b).2.1 (bif c then a else b).2.2 := by
  cases c with
  | true => exact h1 rfl
  | false => exact h0 rfl
theorem fbif {fn : Func} {K0 n n' : Nat} {k : List It} {s : List SV} {B T' : Tab cE} {c : Bool} {x y : Value} (h1 : c = true → Fin cE fn K0 (.v x) T' n' k s B n) (h0 : c = false → Fin cE fn K0 (.v y) T' n' k s B n) : Fin cE fn K0 (.v (bif c then x else y)) T' n' k s B n := by
  cases c with
  | true => exact h1 rfl
  | false => exact h0 rfl
theorem fbif3 {fn : Func} {K0 n : Nat} {k : List It} {s : List SV} {B : Tab cE} {c : Bool} {x y : SV × Tab cE × Nat} (h1 : c = true → Fin cE fn K0 x.1 x.2.1 x.2.2 k s B n) (h0 : c = false → Fin cE fn K0 y.1 y.2.1 y.2.2 k s B n) : Fin cE fn K0 (bif c then x else y).1 (bif c then x else y).2.1 (bif c then x else y).2.2 k s B n := by
  cases c with
  | true => exact h1 rfl
  | false => exact h0 rfl
end Go.Proofs.YtnchjdhepakokaaGreatDoorC
/- A value as a point. -/
namespace Go.Proofs.YtnchjdhepakokaaGreatDoorC
open Go.Proofs Go.Proofs.YtnchjdhepakokaaGreatDoorSx Go.Lib
set_option maxRecDepth 100000
set_option linter.unusedVariables false
theorem point_does (k n m : Int) (s : ByteArray) : Does cE 151 [] 0 [.v (vl k n m s)] (.v (dc n m)) [] 0 := pth (fn := Tryz.f151) rfl (by kernel_rfl) [] (by kernel_rfl) cj0
end Go.Proofs.YtnchjdhepakokaaGreatDoorC
/- A piece of a function, all its ways. Printed by a program (wip/tools); Lean checks each. -/
namespace Go.Proofs.YtnchjdhepakokaaGreatDoorC
open Go.Proofs Go.Proofs.YtnchjdhepakokaaGreatDoorSx Go.Lib
set_option maxRecDepth 100000
set_option linter.unusedVariables false
noncomputable def rcK : List It := stackAt [1] (bd Tryz.f91) [] []
noncomputable def labK (l m : Nat) : List It := match rcK with
  | .code (.scope c) :: k => .mk :: .code ((findLabel c l).getD .skip) :: .sc c m :: k
  | _ => []
noncomputable def reK0 (m : Nat) : List It := labK 0 m
noncomputable def reK1 (m : Nat) : List It := labK 1 m
noncomputable def reK2 (m : Nat) : List It := labK 2 m
abbrev rcS (op : Int) : List SV := [.v (it op), .na, .na, .na, .p 0 0, .p 1 0, .p 2 0, .v (it 0)] ++ List.replicate 172 .na
abbrev rcT (k n m : Int) (s : ByteArray) (j p q : Int) (u : ByteArray) : Tab cE := [(0, .box 25 [.v (it k), .v (it n), .v (it m), .v (st s)]), (1, .box 25 [.v (it j), .v (it p), .v (it q), .v (st u)]), (2, .box 25 [.v (it 0), .v (it 0), .v (it 0), .v (st (ByteArray.mk #[]))])]
def pRa (op k n m j p q : Int) (s u : ByteArray) (R1 : Value) : Value :=
  R1
theorem pRa_fin (op k n m j p q : Int) (s u : ByteArray) (R1 : Value) (hF1 : Fin cE Tryz.f91 0 (.v R1) [] 0 rcK ([.v (.int .i64 (op)), .na, .na, .na, .p 0 0, .p 1 0, .p 2 0, .v (.int .i64 (0))] ++ List.replicate 172 .na) [(0, .box 25 [.v (.int .i64 (k)), .v (.int .i64 (n)), .v (.int .i64 (m)), .v (.string (s))]), (1, .box 25 [.v (.int .i64 (j)), .v (.int .i64 (p)), .v (.int .i64 (q)), .v (.string (u))]), (2, .box 25 [.v (.int .i64 (0)), .v (.int .i64 (0)), .v (.int .i64 (0)), .v (.string ((ByteArray.mk #[])))])] 3) : Fin cE Tryz.f91 0 (.v (pRa op k n m j p q s u R1)) [] 0 [.code (bd Tryz.f91)] (argsS [.v (it op), .v (vl k n m s), .v (vl j p q u)] Tryz.f91.ntmps) [] 0 := by
  unfold pRa
  exact sat (keep := [0, 4, 5, 6, 7]) (by decide) [] (by kernel_rfl) cj0 (hF1 )
def pRb (op k n m j p q : Int) (s u : ByteArray) (fu : Nat) (R1 R2 R3 : Value) : Value :=
  bif (k == 1) then bif (j == 1) then bif ((inV op n p).snd != 0) then (.tuple #[(.agg #[(.int .i64 (0)), (.int .i64 (0)), (.int .i64 (0)), (.string ((ByteArray.mk #[])))]), (.int .i64 ((inV op n p).snd))])
      else (.tuple #[(.agg #[(.int .i64 (1)), (.int .i64 ((inV op n p).fst)), (.int .i64 (0)), (.string ((ByteArray.mk #[])))]), (.int .i64 (0))])
    else bif (j == 2) then R1
      else bif (k == 5) then bif (j == 5) then R2
          else bif (k == 3) then bif (j == 3) then bif (op == 9) then R3
                else (.tuple #[(.agg #[(.int .i64 (0)), (.int .i64 (0)), (.int .i64 (0)), (.string ((ByteArray.mk #[])))]), (.int .i64 (31))])
              else (.tuple #[(.agg #[(.int .i64 (0)), (.int .i64 (0)), (.int .i64 (0)), (.string ((ByteArray.mk #[])))]), (.int .i64 (31))])
            else (.tuple #[(.agg #[(.int .i64 (0)), (.int .i64 (0)), (.int .i64 (0)), (.string ((ByteArray.mk #[])))]), (.int .i64 (31))])
        else bif (k == 3) then bif (j == 3) then bif (op == 9) then R3
              else (.tuple #[(.agg #[(.int .i64 (0)), (.int .i64 (0)), (.int .i64 (0)), (.string ((ByteArray.mk #[])))]), (.int .i64 (31))])
            else (.tuple #[(.agg #[(.int .i64 (0)), (.int .i64 (0)), (.int .i64 (0)), (.string ((ByteArray.mk #[])))]), (.int .i64 (31))])
          else (.tuple #[(.agg #[(.int .i64 (0)), (.int .i64 (0)), (.int .i64 (0)), (.string ((ByteArray.mk #[])))]), (.int .i64 (31))])
  else bif (k == 2) then bif (j == 1) then R1
      else bif (j == 2) then R1
        else bif (k == 5) then bif (j == 5) then R2
            else bif (k == 3) then bif (j == 3) then bif (op == 9) then R3
                  else (.tuple #[(.agg #[(.int .i64 (0)), (.int .i64 (0)), (.int .i64 (0)), (.string ((ByteArray.mk #[])))]), (.int .i64 (31))])
                else (.tuple #[(.agg #[(.int .i64 (0)), (.int .i64 (0)), (.int .i64 (0)), (.string ((ByteArray.mk #[])))]), (.int .i64 (31))])
              else (.tuple #[(.agg #[(.int .i64 (0)), (.int .i64 (0)), (.int .i64 (0)), (.string ((ByteArray.mk #[])))]), (.int .i64 (31))])
          else bif (k == 3) then bif (j == 3) then bif (op == 9) then R3
                else (.tuple #[(.agg #[(.int .i64 (0)), (.int .i64 (0)), (.int .i64 (0)), (.string ((ByteArray.mk #[])))]), (.int .i64 (31))])
              else (.tuple #[(.agg #[(.int .i64 (0)), (.int .i64 (0)), (.int .i64 (0)), (.string ((ByteArray.mk #[])))]), (.int .i64 (31))])
            else (.tuple #[(.agg #[(.int .i64 (0)), (.int .i64 (0)), (.int .i64 (0)), (.string ((ByteArray.mk #[])))]), (.int .i64 (31))])
    else bif (k == 5) then bif (j == 5) then R2
        else bif (k == 3) then bif (j == 3) then bif (op == 9) then R3
              else (.tuple #[(.agg #[(.int .i64 (0)), (.int .i64 (0)), (.int .i64 (0)), (.string ((ByteArray.mk #[])))]), (.int .i64 (31))])
            else (.tuple #[(.agg #[(.int .i64 (0)), (.int .i64 (0)), (.int .i64 (0)), (.string ((ByteArray.mk #[])))]), (.int .i64 (31))])
          else (.tuple #[(.agg #[(.int .i64 (0)), (.int .i64 (0)), (.int .i64 (0)), (.string ((ByteArray.mk #[])))]), (.int .i64 (31))])
      else bif (k == 3) then bif (j == 3) then bif (op == 9) then R3
            else (.tuple #[(.agg #[(.int .i64 (0)), (.int .i64 (0)), (.int .i64 (0)), (.string ((ByteArray.mk #[])))]), (.int .i64 (31))])
          else (.tuple #[(.agg #[(.int .i64 (0)), (.int .i64 (0)), (.int .i64 (0)), (.string ((ByteArray.mk #[])))]), (.int .i64 (31))])
        else (.tuple #[(.agg #[(.int .i64 (0)), (.int .i64 (0)), (.int .i64 (0)), (.string ((ByteArray.mk #[])))]), (.int .i64 (31))])
theorem pRb_fin (op k n m j p q : Int) (s u : ByteArray) (fu : Nat) (R1 R2 R3 : Value) (hn : I64 n) (hm : I64 m) (hp : I64 p) (hq : I64 q) (hs : s.size ≤ 140737488351232) (hu : u.size ≤ 140737488351232) (h6 : 6 ≤ op) (h10 : op ≤ 10) (hF1 : Fin cE Tryz.f91 0 (.v R1) [] 0 (reK0 fu) ([.v (.int .i64 (op)), .na, .na, .na, .p 0 0, .p 1 0, .p 2 0, .v (.int .i64 (0))] ++ List.replicate 172 .na) [(0, .box 25 [.v (.int .i64 (k)), .v (.int .i64 (n)), .v (.int .i64 (m)), .v (.string (s))]), (1, .box 25 [.v (.int .i64 (j)), .v (.int .i64 (p)), .v (.int .i64 (q)), .v (.string (u))]), (2, .box 25 [.v (.int .i64 (0)), .v (.int .i64 (0)), .v (.int .i64 (0)), .v (.string ((ByteArray.mk #[])))])] 3) (hF2 : Fin cE Tryz.f91 0 (.v R2) [] 0 (reK1 fu) ([.v (.int .i64 (op)), .na, .na, .na, .p 0 0, .p 1 0, .p 2 0, .v (.int .i64 (0))] ++ List.replicate 172 .na) [(0, .box 25 [.v (.int .i64 (k)), .v (.int .i64 (n)), .v (.int .i64 (m)), .v (.string (s))]), (1, .box 25 [.v (.int .i64 (j)), .v (.int .i64 (p)), .v (.int .i64 (q)), .v (.string (u))]), (2, .box 25 [.v (.int .i64 (0)), .v (.int .i64 (0)), .v (.int .i64 (0)), .v (.string ((ByteArray.mk #[])))])] 3) (hF3 : Fin cE Tryz.f91 0 (.v R3) [] 0 (reK2 fu) ([.v (.int .i64 (op)), .na, .na, .na, .p 0 0, .p 1 0, .p 2 0, .v (.int .i64 (0))] ++ List.replicate 172 .na) [(0, .box 25 [.v (.int .i64 (k)), .v (.int .i64 (n)), .v (.int .i64 (m)), .v (.string (s))]), (1, .box 25 [.v (.int .i64 (j)), .v (.int .i64 (p)), .v (.int .i64 (q)), .v (.string (u))]), (2, .box 25 [.v (.int .i64 (0)), .v (.int .i64 (0)), .v (.int .i64 (0)), .v (.string ((ByteArray.mk #[])))])] 3) : Fin cE Tryz.f91 0 (.v (pRb op k n m j p q s u fu R1 R2 R3)) [] 0 (scK rcK (fu + 1)) (rcS op) (rcT k n m s j p q u) 3 := by
  unfold pRb
  refine fbif (fun c1 => ?_) (fun c1 => ?_)
  · refine fbif (fun c2 => ?_) (fun c2 => ?_)
    · refine fbif (fun c3 => ?_) (fun c3 => ?_)
      · exact sfin (keep := [0, 4, 5, 6, 7]) (by decide) [.t, .t, .t, .t, .t, .c (.v (.tuple #[(.int .i64 ((inV op n p).fst)), (.int .i64 ((inV op n p).snd))])) [] 0, .e, .t] (by kernel_rfl) (cj c1 (cj c1 (cj c1 (cj c1 (cj c2 (cj (ints_does (op) (n) (p) (by assumption) (by assumption) (by assumption) (by assumption)) (cj c3 cj0)))))))
      · exact sfin (keep := [0, 4, 5, 6, 7]) (by decide) [.t, .t, .t, .t, .t, .c (.v (.tuple #[(.int .i64 ((inV op n p).fst)), (.int .i64 ((inV op n p).snd))])) [] 0, .e, .f] (by kernel_rfl) (cj c1 (cj c1 (cj c1 (cj c1 (cj c2 (cj (ints_does (op) (n) (p) (by assumption) (by assumption) (by assumption) (by assumption)) (cj c3 cj0)))))))
    · refine fbif (fun c4 => ?_) (fun c4 => ?_)
      · exact sat (keep := [0, 4, 5, 6, 7]) (by decide) [.t, .t, .t, .t, .f, .e, .t, .t, .t, .t, .l, .l, .e, .f, .f, .f, .f, .l, .t] (by kernel_rfl) (cj c1 (cj c1 (cj c1 (cj c1 (cj c2 (cj c1 (cj c1 (cj c1 (cj c1 (cj c2 (cj c2 (cj c2 (cj c2 (cj c4 cj0)))))))))))))) (hF1)
      · refine fbif (fun c5 => ?_) (fun c5 => ?_)
        · refine fbif (fun c6 => ?_) (fun c6 => ?_)
          · exact sat (keep := [0, 4, 5, 6, 7]) (by decide) [.t, .t, .t, .t, .f, .e, .t, .t, .t, .t, .l, .l, .e, .f, .f, .f, .f, .l, .f, .t, .t, .t, .t, .t] (by kernel_rfl) (cj c1 (cj c1 (cj c1 (cj c1 (cj c2 (cj c1 (cj c1 (cj c1 (cj c1 (cj c2 (cj c2 (cj c2 (cj c2 (cj c4 (cj c5 (cj c5 (cj c5 (cj c5 (cj c6 cj0))))))))))))))))))) (hF2)
          · refine fbif (fun c7 => ?_) (fun c7 => ?_)
            · refine fbif (fun c8 => ?_) (fun c8 => ?_)
              · refine fbif (fun c9 => ?_) (fun c9 => ?_)
                · exact sat (keep := [0, 4, 5, 6, 7]) (by decide) [.t, .t, .t, .t, .f, .e, .t, .t, .t, .t, .l, .l, .e, .f, .f, .f, .f, .l, .f, .t, .t, .t, .t, .f, .t, .t, .t, .t, .t, .t, .t, .t] (by kernel_rfl) (cj c1 (cj c1 (cj c1 (cj c1 (cj c2 (cj c1 (cj c1 (cj c1 (cj c1 (cj c2 (cj c2 (cj c2 (cj c2 (cj c4 (cj c5 (cj c5 (cj c5 (cj c5 (cj c6 (cj c7 (cj c7 (cj c7 (cj c7 (cj c8 (cj c8 (cj c8 (cj c9 cj0))))))))))))))))))))))))))) (hF3)
                · exact sfin (keep := [0, 4, 5, 6, 7]) (by decide) [.t, .t, .t, .t, .f, .e, .t, .t, .t, .t, .l, .l, .e, .f, .f, .f, .f, .l, .f, .t, .t, .t, .t, .f, .t, .t, .t, .t, .t, .t, .t, .f] (by kernel_rfl) (cj c1 (cj c1 (cj c1 (cj c1 (cj c2 (cj c1 (cj c1 (cj c1 (cj c1 (cj c2 (cj c2 (cj c2 (cj c2 (cj c4 (cj c5 (cj c5 (cj c5 (cj c5 (cj c6 (cj c7 (cj c7 (cj c7 (cj c7 (cj c8 (cj c8 (cj c8 (cj c9 cj0)))))))))))))))))))))))))))
              · exact sfin (keep := [0, 4, 5, 6, 7]) (by decide) [.t, .t, .t, .t, .f, .e, .t, .t, .t, .t, .l, .l, .e, .f, .f, .f, .f, .l, .f, .t, .t, .t, .t, .f, .t, .t, .t, .t, .f, .f, .f, .l] (by kernel_rfl) (cj c1 (cj c1 (cj c1 (cj c1 (cj c2 (cj c1 (cj c1 (cj c1 (cj c1 (cj c2 (cj c2 (cj c2 (cj c2 (cj c4 (cj c5 (cj c5 (cj c5 (cj c5 (cj c6 (cj c7 (cj c7 (cj c7 (cj c7 (cj c8 (cj c8 (cj c8 cj0))))))))))))))))))))))))))
            · exact sfin (keep := [0, 4, 5, 6, 7]) (by decide) [.t, .t, .t, .t, .f, .e, .t, .t, .t, .t, .l, .l, .e, .f, .f, .f, .f, .l, .f, .t, .t, .t, .t, .f, .f, .f, .f, .f, .l, .l, .l, .l] (by kernel_rfl) (cj c1 (cj c1 (cj c1 (cj c1 (cj c2 (cj c1 (cj c1 (cj c1 (cj c1 (cj c2 (cj c2 (cj c2 (cj c2 (cj c4 (cj c5 (cj c5 (cj c5 (cj c5 (cj c6 (cj c7 (cj c7 (cj c7 (cj c7 cj0)))))))))))))))))))))))
        · refine fbif (fun c10 => ?_) (fun c10 => ?_)
          · refine fbif (fun c11 => ?_) (fun c11 => ?_)
            · refine fbif (fun c12 => ?_) (fun c12 => ?_)
              · exact sat (keep := [0, 4, 5, 6, 7]) (by decide) [.t, .t, .t, .t, .f, .e, .t, .t, .t, .t, .l, .l, .e, .f, .f, .f, .f, .l, .f, .f, .f, .f, .f, .l, .t, .t, .t, .t, .t, .t, .t, .t] (by kernel_rfl) (cj c1 (cj c1 (cj c1 (cj c1 (cj c2 (cj c1 (cj c1 (cj c1 (cj c1 (cj c2 (cj c2 (cj c2 (cj c2 (cj c4 (cj c5 (cj c5 (cj c5 (cj c5 (cj c10 (cj c10 (cj c10 (cj c10 (cj c11 (cj c11 (cj c11 (cj c12 cj0)))))))))))))))))))))))))) (hF3)
              · exact sfin (keep := [0, 4, 5, 6, 7]) (by decide) [.t, .t, .t, .t, .f, .e, .t, .t, .t, .t, .l, .l, .e, .f, .f, .f, .f, .l, .f, .f, .f, .f, .f, .l, .t, .t, .t, .t, .t, .t, .t, .f] (by kernel_rfl) (cj c1 (cj c1 (cj c1 (cj c1 (cj c2 (cj c1 (cj c1 (cj c1 (cj c1 (cj c2 (cj c2 (cj c2 (cj c2 (cj c4 (cj c5 (cj c5 (cj c5 (cj c5 (cj c10 (cj c10 (cj c10 (cj c10 (cj c11 (cj c11 (cj c11 (cj c12 cj0))))))))))))))))))))))))))
            · exact sfin (keep := [0, 4, 5, 6, 7]) (by decide) [.t, .t, .t, .t, .f, .e, .t, .t, .t, .t, .l, .l, .e, .f, .f, .f, .f, .l, .f, .f, .f, .f, .f, .l, .t, .t, .t, .t, .f, .f, .f, .l] (by kernel_rfl) (cj c1 (cj c1 (cj c1 (cj c1 (cj c2 (cj c1 (cj c1 (cj c1 (cj c1 (cj c2 (cj c2 (cj c2 (cj c2 (cj c4 (cj c5 (cj c5 (cj c5 (cj c5 (cj c10 (cj c10 (cj c10 (cj c10 (cj c11 (cj c11 (cj c11 cj0)))))))))))))))))))))))))
          · exact sfin (keep := [0, 4, 5, 6, 7]) (by decide) [.t, .t, .t, .t, .f, .e, .t, .t, .t, .t, .l, .l, .e, .f, .f, .f, .f, .l, .f, .f, .f, .f, .f, .l, .f, .f, .f, .f, .l, .l, .l, .l] (by kernel_rfl) (cj c1 (cj c1 (cj c1 (cj c1 (cj c2 (cj c1 (cj c1 (cj c1 (cj c1 (cj c2 (cj c2 (cj c2 (cj c2 (cj c4 (cj c5 (cj c5 (cj c5 (cj c5 (cj c10 (cj c10 (cj c10 (cj c10 cj0))))))))))))))))))))))
  · refine fbif (fun c13 => ?_) (fun c13 => ?_)
    · refine fbif (fun c14 => ?_) (fun c14 => ?_)
      · exact sat (keep := [0, 4, 5, 6, 7]) (by decide) [.f, .f, .f, .f, .l, .e, .f, .f, .f, .f, .t, .t, .e, .t, .t, .t, .t, .t, .l] (by kernel_rfl) (cj c1 (cj c1 (cj c1 (cj c1 (cj c1 (cj c1 (cj c1 (cj c1 (cj c13 (cj c13 (cj c14 (cj c14 (cj c14 (cj c14 (cj c13 cj0))))))))))))))) (hF1)
      · refine fbif (fun c15 => ?_) (fun c15 => ?_)
        · exact sat (keep := [0, 4, 5, 6, 7]) (by decide) [.f, .f, .f, .f, .l, .e, .f, .f, .f, .f, .t, .t, .e, .f, .f, .f, .f, .t, .t] (by kernel_rfl) (cj c1 (cj c1 (cj c1 (cj c1 (cj c1 (cj c1 (cj c1 (cj c1 (cj c13 (cj c13 (cj c14 (cj c14 (cj c14 (cj c14 (cj c13 (cj c15 cj0)))))))))))))))) (hF1)
        · refine fbif (fun c16 => ?_) (fun c16 => ?_)
          · refine fbif (fun c17 => ?_) (fun c17 => ?_)
            · exact sat (keep := [0, 4, 5, 6, 7]) (by decide) [.f, .f, .f, .f, .l, .e, .f, .f, .f, .f, .t, .t, .e, .f, .f, .f, .f, .t, .f, .t, .t, .t, .t, .t] (by kernel_rfl) (cj c1 (cj c1 (cj c1 (cj c1 (cj c1 (cj c1 (cj c1 (cj c1 (cj c13 (cj c13 (cj c14 (cj c14 (cj c14 (cj c14 (cj c13 (cj c15 (cj c16 (cj c16 (cj c16 (cj c16 (cj c17 cj0))))))))))))))))))))) (hF2)
            · refine fbif (fun c18 => ?_) (fun c18 => ?_)
              · refine fbif (fun c19 => ?_) (fun c19 => ?_)
                · refine fbif (fun c20 => ?_) (fun c20 => ?_)
                  · exact sat (keep := [0, 4, 5, 6, 7]) (by decide) [.f, .f, .f, .f, .l, .e, .f, .f, .f, .f, .t, .t, .e, .f, .f, .f, .f, .t, .f, .t, .t, .t, .t, .f, .t, .t, .t, .t, .t, .t, .t, .t] (by kernel_rfl) (cj c1 (cj c1 (cj c1 (cj c1 (cj c1 (cj c1 (cj c1 (cj c1 (cj c13 (cj c13 (cj c14 (cj c14 (cj c14 (cj c14 (cj c13 (cj c15 (cj c16 (cj c16 (cj c16 (cj c16 (cj c17 (cj c18 (cj c18 (cj c18 (cj c18 (cj c19 (cj c19 (cj c19 (cj c20 cj0))))))))))))))))))))))))))))) (hF3)
                  · exact sfin (keep := [0, 4, 5, 6, 7]) (by decide) [.f, .f, .f, .f, .l, .e, .f, .f, .f, .f, .t, .t, .e, .f, .f, .f, .f, .t, .f, .t, .t, .t, .t, .f, .t, .t, .t, .t, .t, .t, .t, .f] (by kernel_rfl) (cj c1 (cj c1 (cj c1 (cj c1 (cj c1 (cj c1 (cj c1 (cj c1 (cj c13 (cj c13 (cj c14 (cj c14 (cj c14 (cj c14 (cj c13 (cj c15 (cj c16 (cj c16 (cj c16 (cj c16 (cj c17 (cj c18 (cj c18 (cj c18 (cj c18 (cj c19 (cj c19 (cj c19 (cj c20 cj0)))))))))))))))))))))))))))))
                · exact sfin (keep := [0, 4, 5, 6, 7]) (by decide) [.f, .f, .f, .f, .l, .e, .f, .f, .f, .f, .t, .t, .e, .f, .f, .f, .f, .t, .f, .t, .t, .t, .t, .f, .t, .t, .t, .t, .f, .f, .f, .l] (by kernel_rfl) (cj c1 (cj c1 (cj c1 (cj c1 (cj c1 (cj c1 (cj c1 (cj c1 (cj c13 (cj c13 (cj c14 (cj c14 (cj c14 (cj c14 (cj c13 (cj c15 (cj c16 (cj c16 (cj c16 (cj c16 (cj c17 (cj c18 (cj c18 (cj c18 (cj c18 (cj c19 (cj c19 (cj c19 cj0))))))))))))))))))))))))))))
              · exact sfin (keep := [0, 4, 5, 6, 7]) (by decide) [.f, .f, .f, .f, .l, .e, .f, .f, .f, .f, .t, .t, .e, .f, .f, .f, .f, .t, .f, .t, .t, .t, .t, .f, .f, .f, .f, .f, .l, .l, .l, .l] (by kernel_rfl) (cj c1 (cj c1 (cj c1 (cj c1 (cj c1 (cj c1 (cj c1 (cj c1 (cj c13 (cj c13 (cj c14 (cj c14 (cj c14 (cj c14 (cj c13 (cj c15 (cj c16 (cj c16 (cj c16 (cj c16 (cj c17 (cj c18 (cj c18 (cj c18 (cj c18 cj0)))))))))))))))))))))))))
          · refine fbif (fun c21 => ?_) (fun c21 => ?_)
            · refine fbif (fun c22 => ?_) (fun c22 => ?_)
              · refine fbif (fun c23 => ?_) (fun c23 => ?_)
                · exact sat (keep := [0, 4, 5, 6, 7]) (by decide) [.f, .f, .f, .f, .l, .e, .f, .f, .f, .f, .t, .t, .e, .f, .f, .f, .f, .t, .f, .f, .f, .f, .f, .l, .t, .t, .t, .t, .t, .t, .t, .t] (by kernel_rfl) (cj c1 (cj c1 (cj c1 (cj c1 (cj c1 (cj c1 (cj c1 (cj c1 (cj c13 (cj c13 (cj c14 (cj c14 (cj c14 (cj c14 (cj c13 (cj c15 (cj c16 (cj c16 (cj c16 (cj c16 (cj c21 (cj c21 (cj c21 (cj c21 (cj c22 (cj c22 (cj c22 (cj c23 cj0)))))))))))))))))))))))))))) (hF3)
                · exact sfin (keep := [0, 4, 5, 6, 7]) (by decide) [.f, .f, .f, .f, .l, .e, .f, .f, .f, .f, .t, .t, .e, .f, .f, .f, .f, .t, .f, .f, .f, .f, .f, .l, .t, .t, .t, .t, .t, .t, .t, .f] (by kernel_rfl) (cj c1 (cj c1 (cj c1 (cj c1 (cj c1 (cj c1 (cj c1 (cj c1 (cj c13 (cj c13 (cj c14 (cj c14 (cj c14 (cj c14 (cj c13 (cj c15 (cj c16 (cj c16 (cj c16 (cj c16 (cj c21 (cj c21 (cj c21 (cj c21 (cj c22 (cj c22 (cj c22 (cj c23 cj0))))))))))))))))))))))))))))
              · exact sfin (keep := [0, 4, 5, 6, 7]) (by decide) [.f, .f, .f, .f, .l, .e, .f, .f, .f, .f, .t, .t, .e, .f, .f, .f, .f, .t, .f, .f, .f, .f, .f, .l, .t, .t, .t, .t, .f, .f, .f, .l] (by kernel_rfl) (cj c1 (cj c1 (cj c1 (cj c1 (cj c1 (cj c1 (cj c1 (cj c1 (cj c13 (cj c13 (cj c14 (cj c14 (cj c14 (cj c14 (cj c13 (cj c15 (cj c16 (cj c16 (cj c16 (cj c16 (cj c21 (cj c21 (cj c21 (cj c21 (cj c22 (cj c22 (cj c22 cj0)))))))))))))))))))))))))))
            · exact sfin (keep := [0, 4, 5, 6, 7]) (by decide) [.f, .f, .f, .f, .l, .e, .f, .f, .f, .f, .t, .t, .e, .f, .f, .f, .f, .t, .f, .f, .f, .f, .f, .l, .f, .f, .f, .f, .l, .l, .l, .l] (by kernel_rfl) (cj c1 (cj c1 (cj c1 (cj c1 (cj c1 (cj c1 (cj c1 (cj c1 (cj c13 (cj c13 (cj c14 (cj c14 (cj c14 (cj c14 (cj c13 (cj c15 (cj c16 (cj c16 (cj c16 (cj c16 (cj c21 (cj c21 (cj c21 (cj c21 cj0))))))))))))))))))))))))
    · refine fbif (fun c24 => ?_) (fun c24 => ?_)
      · refine fbif (fun c25 => ?_) (fun c25 => ?_)
        · exact sat (keep := [0, 4, 5, 6, 7]) (by decide) [.f, .f, .f, .f, .l, .e, .f, .f, .f, .f, .f, .f, .f, .l, .t, .t, .t, .t, .t] (by kernel_rfl) (cj c1 (cj c1 (cj c1 (cj c1 (cj c1 (cj c1 (cj c1 (cj c1 (cj c13 (cj c13 (cj c13 (cj c24 (cj c24 (cj c24 (cj c24 (cj c25 cj0)))))))))))))))) (hF2)
        · refine fbif (fun c26 => ?_) (fun c26 => ?_)
          · refine fbif (fun c27 => ?_) (fun c27 => ?_)
            · refine fbif (fun c28 => ?_) (fun c28 => ?_)
              · exact sat (keep := [0, 4, 5, 6, 7]) (by decide) [.f, .f, .f, .f, .l, .e, .f, .f, .f, .f, .f, .f, .f, .l, .t, .t, .t, .t, .f, .t, .t, .t, .t, .t, .t, .t, .t] (by kernel_rfl) (cj c1 (cj c1 (cj c1 (cj c1 (cj c1 (cj c1 (cj c1 (cj c1 (cj c13 (cj c13 (cj c13 (cj c24 (cj c24 (cj c24 (cj c24 (cj c25 (cj c26 (cj c26 (cj c26 (cj c26 (cj c27 (cj c27 (cj c27 (cj c28 cj0)))))))))))))))))))))))) (hF3)
              · exact sfin (keep := [0, 4, 5, 6, 7]) (by decide) [.f, .f, .f, .f, .l, .e, .f, .f, .f, .f, .f, .f, .f, .l, .t, .t, .t, .t, .f, .t, .t, .t, .t, .t, .t, .t, .f] (by kernel_rfl) (cj c1 (cj c1 (cj c1 (cj c1 (cj c1 (cj c1 (cj c1 (cj c1 (cj c13 (cj c13 (cj c13 (cj c24 (cj c24 (cj c24 (cj c24 (cj c25 (cj c26 (cj c26 (cj c26 (cj c26 (cj c27 (cj c27 (cj c27 (cj c28 cj0))))))))))))))))))))))))
            · exact sfin (keep := [0, 4, 5, 6, 7]) (by decide) [.f, .f, .f, .f, .l, .e, .f, .f, .f, .f, .f, .f, .f, .l, .t, .t, .t, .t, .f, .t, .t, .t, .t, .f, .f, .f, .l] (by kernel_rfl) (cj c1 (cj c1 (cj c1 (cj c1 (cj c1 (cj c1 (cj c1 (cj c1 (cj c13 (cj c13 (cj c13 (cj c24 (cj c24 (cj c24 (cj c24 (cj c25 (cj c26 (cj c26 (cj c26 (cj c26 (cj c27 (cj c27 (cj c27 cj0)))))))))))))))))))))))
          · exact sfin (keep := [0, 4, 5, 6, 7]) (by decide) [.f, .f, .f, .f, .l, .e, .f, .f, .f, .f, .f, .f, .f, .l, .t, .t, .t, .t, .f, .f, .f, .f, .f, .l, .l, .l, .l] (by kernel_rfl) (cj c1 (cj c1 (cj c1 (cj c1 (cj c1 (cj c1 (cj c1 (cj c1 (cj c13 (cj c13 (cj c13 (cj c24 (cj c24 (cj c24 (cj c24 (cj c25 (cj c26 (cj c26 (cj c26 (cj c26 cj0))))))))))))))))))))
      · refine fbif (fun c29 => ?_) (fun c29 => ?_)
        · refine fbif (fun c30 => ?_) (fun c30 => ?_)
          · refine fbif (fun c31 => ?_) (fun c31 => ?_)
            · exact sat (keep := [0, 4, 5, 6, 7]) (by decide) [.f, .f, .f, .f, .l, .e, .f, .f, .f, .f, .f, .f, .f, .l, .f, .f, .f, .f, .l, .t, .t, .t, .t, .t, .t, .t, .t] (by kernel_rfl) (cj c1 (cj c1 (cj c1 (cj c1 (cj c1 (cj c1 (cj c1 (cj c1 (cj c13 (cj c13 (cj c13 (cj c24 (cj c24 (cj c24 (cj c24 (cj c29 (cj c29 (cj c29 (cj c29 (cj c30 (cj c30 (cj c30 (cj c31 cj0))))))))))))))))))))))) (hF3)
            · exact sfin (keep := [0, 4, 5, 6, 7]) (by decide) [.f, .f, .f, .f, .l, .e, .f, .f, .f, .f, .f, .f, .f, .l, .f, .f, .f, .f, .l, .t, .t, .t, .t, .t, .t, .t, .f] (by kernel_rfl) (cj c1 (cj c1 (cj c1 (cj c1 (cj c1 (cj c1 (cj c1 (cj c1 (cj c13 (cj c13 (cj c13 (cj c24 (cj c24 (cj c24 (cj c24 (cj c29 (cj c29 (cj c29 (cj c29 (cj c30 (cj c30 (cj c30 (cj c31 cj0)))))))))))))))))))))))
          · exact sfin (keep := [0, 4, 5, 6, 7]) (by decide) [.f, .f, .f, .f, .l, .e, .f, .f, .f, .f, .f, .f, .f, .l, .f, .f, .f, .f, .l, .t, .t, .t, .t, .f, .f, .f, .l] (by kernel_rfl) (cj c1 (cj c1 (cj c1 (cj c1 (cj c1 (cj c1 (cj c1 (cj c1 (cj c13 (cj c13 (cj c13 (cj c24 (cj c24 (cj c24 (cj c24 (cj c29 (cj c29 (cj c29 (cj c29 (cj c30 (cj c30 (cj c30 cj0))))))))))))))))))))))
        · exact sfin (keep := [0, 4, 5, 6, 7]) (by decide) [.f, .f, .f, .f, .l, .e, .f, .f, .f, .f, .f, .f, .f, .l, .f, .f, .f, .f, .l, .f, .f, .f, .f, .l, .l, .l, .l] (by kernel_rfl) (cj c1 (cj c1 (cj c1 (cj c1 (cj c1 (cj c1 (cj c1 (cj c1 (cj c13 (cj c13 (cj c13 (cj c24 (cj c24 (cj c24 (cj c24 (cj c29 (cj c29 (cj c29 (cj c29 cj0)))))))))))))))))))
end Go.Proofs.YtnchjdhepakokaaGreatDoorC
/- A piece of a function, all its ways. Printed by a program (wip/tools); Lean checks each. -/
namespace Go.Proofs.YtnchjdhepakokaaGreatDoorC
open Go.Proofs Go.Proofs.YtnchjdhepakokaaGreatDoorSx Go.Lib
set_option maxRecDepth 100000
set_option linter.unusedVariables false
def pRs (k n m j p q : Int) (s u : ByteArray) : Value :=
  bif ((gdV n m p q).snd.snd.snd.snd != 0) then (.tuple #[(.agg #[(.int .i64 (0)), (.int .i64 (0)), (.int .i64 (0)), (.string ((ByteArray.mk #[])))]), (.int .i64 ((gdV n m p q).snd.snd.snd.snd))])
  else (.tuple #[(.agg #[(.int .i64 (5)), (.int .i64 ((gdV n m p q).snd.snd.fst)), (.int .i64 ((gdV n m p q).snd.snd.snd.fst)), (.string ((ByteArray.mk #[])))]), (.int .i64 (0))])
theorem pRs_does (k n m j p q : Int) (s u : ByteArray) : Does cE 172 [] 0 [.v (vl k n m s), .v (vl j p q u)] (.v (pRs k n m j p q s u)) [] 0 := by
  unfold pRs
  refine tbif (fun c1 => ?_) (fun c1 => ?_)
  · exact pth (fn := Tryz.f172) rfl (by kernel_rfl) [.c (.v (.agg #[(.int .i64 (n)), (.int .i64 (m))])) [] 0, .c (.v (.agg #[(.int .i64 (p)), (.int .i64 (q))])) [] 0, .c (.v (.tuple #[(.agg #[(.int .i64 ((gdV n m p q).fst)), (.int .i64 ((gdV n m p q).snd.fst))]), (.agg #[(.int .i64 ((gdV n m p q).snd.snd.fst)), (.int .i64 ((gdV n m p q).snd.snd.snd.fst))]), (.int .i64 ((gdV n m p q).snd.snd.snd.snd))])) [] 0, .e, .t] (by kernel_rfl) (cj (point_does (k) (n) (m) (s)) (cj (point_does (j) (p) (q) (u)) (cj (gdiv_does (n) (m) (p) (q)) (cj c1 cj0))))
  · exact pth (fn := Tryz.f172) rfl (by kernel_rfl) [.c (.v (.agg #[(.int .i64 (n)), (.int .i64 (m))])) [] 0, .c (.v (.agg #[(.int .i64 (p)), (.int .i64 (q))])) [] 0, .c (.v (.tuple #[(.agg #[(.int .i64 ((gdV n m p q).fst)), (.int .i64 ((gdV n m p q).snd.fst))]), (.agg #[(.int .i64 ((gdV n m p q).snd.snd.fst)), (.int .i64 ((gdV n m p q).snd.snd.snd.fst))]), (.int .i64 ((gdV n m p q).snd.snd.snd.snd))])) [] 0, .e, .f] (by kernel_rfl) (cj (point_does (k) (n) (m) (s)) (cj (point_does (j) (p) (q) (u)) (cj (gdiv_does (n) (m) (p) (q)) (cj c1 cj0))))
end Go.Proofs.YtnchjdhepakokaaGreatDoorC
/- The rest of two points as a value. -/
namespace Go.Proofs.YtnchjdhepakokaaGreatDoorC
open Go.Proofs Go.Proofs.YtnchjdhepakokaaGreatDoorSx Go.Lib
set_option maxRecDepth 100000
set_option linter.unusedVariables false
theorem rest_does (k n m : Int) (s : ByteArray) (j p q : Int) (u : ByteArray) : Does cE 172 [] 0 [.v (vl k n m s), .v (vl j p q u)] (.v (resV (mkP ((gdV n m p q).2.2.1, (gdV n m p q).2.2.2.1, (gdV n m p q).2.2.2.2)))) [] 0 := by
  have h := pRs_does k n m j p q s u
  have e : pRs k n m j p q s u = resV (mkP ((gdV n m p q).2.2.1, (gdV n m p q).2.2.2.1, (gdV n m p q).2.2.2.2)) := by
    unfold pRs mkP
    simp only [resV_if]
  rw [e] at h
  exact h
end Go.Proofs.YtnchjdhepakokaaGreatDoorC
/- A piece of a function, all its ways. Printed by a program (wip/tools); Lean checks each. -/
namespace Go.Proofs.YtnchjdhepakokaaGreatDoorC
open Go.Proofs Go.Proofs.YtnchjdhepakokaaGreatDoorSx Go.Lib
set_option maxRecDepth 100000
set_option linter.unusedVariables false
def pRc (op k n m j p q : Int) (s u : ByteArray) (fu : Nat) : Value :=
  bif (op == 6) then bif ((mulM n m p q).snd.snd != 0) then (.tuple #[(.agg #[(.int .i64 (0)), (.int .i64 (0)), (.int .i64 (0)), (.string ((ByteArray.mk #[])))]), (.int .i64 ((mulM n m p q).snd.snd))])
    else (.tuple #[(.agg #[(.int .i64 (2)), (.int .i64 ((mulM n m p q).fst)), (.int .i64 ((mulM n m p q).snd.fst)), (.string ((ByteArray.mk #[])))]), (.int .i64 (0))])
  else bif (op == 7) then bif ((divM n m p q 6).snd.snd != 0) then (.tuple #[(.agg #[(.int .i64 (0)), (.int .i64 (0)), (.int .i64 (0)), (.string ((ByteArray.mk #[])))]), (.int .i64 ((divM n m p q 6).snd.snd))])
      else (.tuple #[(.agg #[(.int .i64 (2)), (.int .i64 ((divM n m p q 6).fst)), (.int .i64 ((divM n m p q 6).snd.fst)), (.string ((ByteArray.mk #[])))]), (.int .i64 (0))])
    else bif (op == 9) then bif ((sumM n m p q false).snd.snd != 0) then (.tuple #[(.agg #[(.int .i64 (0)), (.int .i64 (0)), (.int .i64 (0)), (.string ((ByteArray.mk #[])))]), (.int .i64 ((sumM n m p q false).snd.snd))])
        else (.tuple #[(.agg #[(.int .i64 (2)), (.int .i64 ((sumM n m p q false).fst)), (.int .i64 ((sumM n m p q false).snd.fst)), (.string ((ByteArray.mk #[])))]), (.int .i64 (0))])
      else bif (op == 10) then bif ((sumM n m p q true).snd.snd != 0) then (.tuple #[(.agg #[(.int .i64 (0)), (.int .i64 (0)), (.int .i64 (0)), (.string ((ByteArray.mk #[])))]), (.int .i64 ((sumM n m p q true).snd.snd))])
          else (.tuple #[(.agg #[(.int .i64 (2)), (.int .i64 ((sumM n m p q true).fst)), (.int .i64 ((sumM n m p q true).snd.fst)), (.string ((ByteArray.mk #[])))]), (.int .i64 (0))])
        else (.tuple #[(.agg #[(.int .i64 (0)), (.int .i64 (0)), (.int .i64 (0)), (.string ((ByteArray.mk #[])))]), (.int .i64 (31))])
theorem pRc_fin (op k n m j p q : Int) (s u : ByteArray) (fu : Nat) (hn : I64 n) (hm : I64 m) (hp : I64 p) (hq : I64 q) (hs : s.size ≤ 140737488351232) (hu : u.size ≤ 140737488351232) : Fin cE Tryz.f91 0 (.v (pRc op k n m j p q s u fu)) [] 0 (reK0 (fu + 1)) (rcS op) (rcT k n m s j p q u) 3 := by
  unfold pRc
  refine fbif (fun c1 => ?_) (fun c1 => ?_)
  · refine fbif (fun c2 => ?_) (fun c2 => ?_)
    · exact sfin (keep := [0, 4, 5, 6, 7]) (by decide) ([.l] ++ [.t, .e, .e, .c (.v (.tuple #[(.agg #[(.int .i64 ((mulM n m p q).fst)), (.int .i64 ((mulM n m p q).snd.fst))]), (.int .i64 ((mulM n m p q).snd.snd))])) [] 0, .e, .t]) (by kernel_rfl) (cj c1 (cj (pmul_does (u := (n)) (x := (m)) (v := (p)) (y := (q)) (by assumption) (by assumption) (by assumption) (by assumption)) (cj c2 cj0)))
    · exact sfin (keep := [0, 4, 5, 6, 7]) (by decide) ([.l] ++ [.t, .e, .e, .c (.v (.tuple #[(.agg #[(.int .i64 ((mulM n m p q).fst)), (.int .i64 ((mulM n m p q).snd.fst))]), (.int .i64 ((mulM n m p q).snd.snd))])) [] 0, .e, .f]) (by kernel_rfl) (cj c1 (cj (pmul_does (u := (n)) (x := (m)) (v := (p)) (y := (q)) (by assumption) (by assumption) (by assumption) (by assumption)) (cj c2 cj0)))
  · refine fbif (fun c3 => ?_) (fun c3 => ?_)
    · refine fbif (fun c4 => ?_) (fun c4 => ?_)
      · exact sfin (keep := [0, 4, 5, 6, 7]) (by decide) ([.l] ++ [.f, .t, .e, .e, .c (.v (.tuple #[(.agg #[(.int .i64 ((divM n m p q 6).fst)), (.int .i64 ((divM n m p q 6).snd.fst))]), (.int .i64 ((divM n m p q 6).snd.snd))])) [] 0, .e, .t]) (by kernel_rfl) (cj c1 (cj c3 (cj (pdiv_does (u := (n)) (x := (m)) (v := (p)) (y := (q)) (sc := (6)) (by assumption) (by assumption) (by assumption) (by assumption) (by first | assumption | decide)) (cj c4 cj0))))
      · exact sfin (keep := [0, 4, 5, 6, 7]) (by decide) ([.l] ++ [.f, .t, .e, .e, .c (.v (.tuple #[(.agg #[(.int .i64 ((divM n m p q 6).fst)), (.int .i64 ((divM n m p q 6).snd.fst))]), (.int .i64 ((divM n m p q 6).snd.snd))])) [] 0, .e, .f]) (by kernel_rfl) (cj c1 (cj c3 (cj (pdiv_does (u := (n)) (x := (m)) (v := (p)) (y := (q)) (sc := (6)) (by assumption) (by assumption) (by assumption) (by assumption) (by first | assumption | decide)) (cj c4 cj0))))
    · refine fbif (fun c5 => ?_) (fun c5 => ?_)
      · refine fbif (fun c6 => ?_) (fun c6 => ?_)
        · exact sfin (keep := [0, 4, 5, 6, 7]) (by decide) ([.l] ++ [.f, .f, .t, .e, .e, .c (.v (.tuple #[(.agg #[(.int .i64 ((sumM n m p q false).fst)), (.int .i64 ((sumM n m p q false).snd.fst))]), (.int .i64 ((sumM n m p q false).snd.snd))])) [] 0, .e, .t]) (by kernel_rfl) (cj c1 (cj c3 (cj c5 (cj (padd_does (u := (n)) (x := (m)) (v := (p)) (y := (q)) (by assumption) (by assumption) (by assumption) (by assumption)) (cj c6 cj0)))))
        · exact sfin (keep := [0, 4, 5, 6, 7]) (by decide) ([.l] ++ [.f, .f, .t, .e, .e, .c (.v (.tuple #[(.agg #[(.int .i64 ((sumM n m p q false).fst)), (.int .i64 ((sumM n m p q false).snd.fst))]), (.int .i64 ((sumM n m p q false).snd.snd))])) [] 0, .e, .f]) (by kernel_rfl) (cj c1 (cj c3 (cj c5 (cj (padd_does (u := (n)) (x := (m)) (v := (p)) (y := (q)) (by assumption) (by assumption) (by assumption) (by assumption)) (cj c6 cj0)))))
      · refine fbif (fun c7 => ?_) (fun c7 => ?_)
        · refine fbif (fun c8 => ?_) (fun c8 => ?_)
          · exact sfin (keep := [0, 4, 5, 6, 7]) (by decide) ([.l] ++ [.f, .f, .f, .t, .e, .e, .c (.v (.tuple #[(.agg #[(.int .i64 ((sumM n m p q true).fst)), (.int .i64 ((sumM n m p q true).snd.fst))]), (.int .i64 ((sumM n m p q true).snd.snd))])) [] 0, .e, .t]) (by kernel_rfl) (cj c1 (cj c3 (cj c5 (cj c7 (cj (psub_does (u := (n)) (x := (m)) (v := (p)) (y := (q)) (by first | assumption | decide) (by first | assumption | decide) (by first | assumption | decide) (by first | assumption | decide)) (cj c8 cj0))))))
          · exact sfin (keep := [0, 4, 5, 6, 7]) (by decide) ([.l] ++ [.f, .f, .f, .t, .e, .e, .c (.v (.tuple #[(.agg #[(.int .i64 ((sumM n m p q true).fst)), (.int .i64 ((sumM n m p q true).snd.fst))]), (.int .i64 ((sumM n m p q true).snd.snd))])) [] 0, .e, .f]) (by kernel_rfl) (cj c1 (cj c3 (cj c5 (cj c7 (cj (psub_does (u := (n)) (x := (m)) (v := (p)) (y := (q)) (by first | assumption | decide) (by first | assumption | decide) (by first | assumption | decide) (by first | assumption | decide)) (cj c8 cj0))))))
        · exact sfin (keep := [0, 4, 5, 6, 7]) (by decide) ([.l] ++ [.f, .f, .f, .f]) (by kernel_rfl) (cj c1 (cj c3 (cj c5 (cj c7 cj0))))
def pRd (op k n m j p q : Int) (s u : ByteArray) (fu : Nat) : Value :=
  bif (op == 6) then bif ((gmul n m p q).snd.snd != 0) then (.tuple #[(.agg #[(.int .i64 (0)), (.int .i64 (0)), (.int .i64 (0)), (.string ((ByteArray.mk #[])))]), (.int .i64 ((gmul n m p q).snd.snd))])
    else (.tuple #[(.agg #[(.int .i64 (5)), (.int .i64 ((gmul n m p q).fst)), (.int .i64 ((gmul n m p q).snd.fst)), (.string ((ByteArray.mk #[])))]), (.int .i64 (0))])
  else bif (op == 9) then bif ((gadd n m p q).snd.snd != 0) then (.tuple #[(.agg #[(.int .i64 (0)), (.int .i64 (0)), (.int .i64 (0)), (.string ((ByteArray.mk #[])))]), (.int .i64 ((gadd n m p q).snd.snd))])
      else (.tuple #[(.agg #[(.int .i64 (5)), (.int .i64 ((gadd n m p q).fst)), (.int .i64 ((gadd n m p q).snd.fst)), (.string ((ByteArray.mk #[])))]), (.int .i64 (0))])
    else bif (op == 10) then bif ((gsub n m p q).snd.snd != 0) then (.tuple #[(.agg #[(.int .i64 (0)), (.int .i64 (0)), (.int .i64 (0)), (.string ((ByteArray.mk #[])))]), (.int .i64 ((gsub n m p q).snd.snd))])
        else (.tuple #[(.agg #[(.int .i64 (5)), (.int .i64 ((gsub n m p q).fst)), (.int .i64 ((gsub n m p q).snd.fst)), (.string ((ByteArray.mk #[])))]), (.int .i64 (0))])
      else bif (op == 7) then bif ((gdV n m p q).snd.snd.snd.snd != 0) then (.tuple #[(.agg #[(.int .i64 (0)), (.int .i64 (0)), (.int .i64 (0)), (.string ((ByteArray.mk #[])))]), (.int .i64 ((gdV n m p q).snd.snd.snd.snd))])
          else (.tuple #[(.agg #[(.int .i64 (5)), (.int .i64 ((gdV n m p q).fst)), (.int .i64 ((gdV n m p q).snd.fst)), (.string ((ByteArray.mk #[])))]), (.int .i64 (0))])
        else (.tuple #[(.agg #[(.int .i64 ((mkP ((gdV n m p q).snd.snd.fst, (gdV n m p q).snd.snd.snd.fst, (gdV n m p q).snd.snd.snd.snd)).fst)), (.int .i64 ((mkP ((gdV n m p q).snd.snd.fst, (gdV n m p q).snd.snd.snd.fst, (gdV n m p q).snd.snd.snd.snd)).snd.fst)), (.int .i64 ((mkP ((gdV n m p q).snd.snd.fst, (gdV n m p q).snd.snd.snd.fst, (gdV n m p q).snd.snd.snd.snd)).snd.snd.fst)), (.string ((mkP ((gdV n m p q).snd.snd.fst, (gdV n m p q).snd.snd.snd.fst, (gdV n m p q).snd.snd.snd.snd)).snd.snd.snd.fst))]), (.int .i64 ((mkP ((gdV n m p q).snd.snd.fst, (gdV n m p q).snd.snd.snd.fst, (gdV n m p q).snd.snd.snd.snd)).snd.snd.snd.snd))])
theorem pRd_fin (op k n m j p q : Int) (s u : ByteArray) (fu : Nat) (hn : I64 n) (hm : I64 m) (hp : I64 p) (hq : I64 q) (hs : s.size ≤ 140737488351232) (hu : u.size ≤ 140737488351232) : Fin cE Tryz.f91 0 (.v (pRd op k n m j p q s u fu)) [] 0 (reK1 (fu + 1)) (rcS op) (rcT k n m s j p q u) 3 := by
  unfold pRd
  refine fbif (fun c1 => ?_) (fun c1 => ?_)
  · refine fbif (fun c2 => ?_) (fun c2 => ?_)
    · exact sfin (keep := [0, 4, 5, 6, 7]) (by decide) ([.l] ++ [.t, .c (.v (.agg #[(.int .i64 (n)), (.int .i64 (m))])) [] 0, .c (.v (.agg #[(.int .i64 (p)), (.int .i64 (q))])) [] 0, .c (.v (.tuple #[(.agg #[(.int .i64 ((gmul n m p q).fst)), (.int .i64 ((gmul n m p q).snd.fst))]), (.int .i64 ((gmul n m p q).snd.snd))])) [] 0, .e, .t]) (by kernel_rfl) (cj c1 (cj (point_does (k) (n) (m) (s)) (cj (point_does (j) (p) (q) (u)) (cj (gmul_does (n) (m) (p) (q)) (cj c2 cj0)))))
    · exact sfin (keep := [0, 4, 5, 6, 7]) (by decide) ([.l] ++ [.t, .c (.v (.agg #[(.int .i64 (n)), (.int .i64 (m))])) [] 0, .c (.v (.agg #[(.int .i64 (p)), (.int .i64 (q))])) [] 0, .c (.v (.tuple #[(.agg #[(.int .i64 ((gmul n m p q).fst)), (.int .i64 ((gmul n m p q).snd.fst))]), (.int .i64 ((gmul n m p q).snd.snd))])) [] 0, .e, .f]) (by kernel_rfl) (cj c1 (cj (point_does (k) (n) (m) (s)) (cj (point_does (j) (p) (q) (u)) (cj (gmul_does (n) (m) (p) (q)) (cj c2 cj0)))))
  · refine fbif (fun c3 => ?_) (fun c3 => ?_)
    · refine fbif (fun c4 => ?_) (fun c4 => ?_)
      · exact sfin (keep := [0, 4, 5, 6, 7]) (by decide) ([.l] ++ [.f, .t, .c (.v (.agg #[(.int .i64 (n)), (.int .i64 (m))])) [] 0, .c (.v (.agg #[(.int .i64 (p)), (.int .i64 (q))])) [] 0, .c (.v (.tuple #[(.agg #[(.int .i64 ((gadd n m p q).fst)), (.int .i64 ((gadd n m p q).snd.fst))]), (.int .i64 ((gadd n m p q).snd.snd))])) [] 0, .e, .t]) (by kernel_rfl) (cj c1 (cj c3 (cj (point_does (k) (n) (m) (s)) (cj (point_does (j) (p) (q) (u)) (cj (gadd_does (n) (m) (p) (q)) (cj c4 cj0))))))
      · exact sfin (keep := [0, 4, 5, 6, 7]) (by decide) ([.l] ++ [.f, .t, .c (.v (.agg #[(.int .i64 (n)), (.int .i64 (m))])) [] 0, .c (.v (.agg #[(.int .i64 (p)), (.int .i64 (q))])) [] 0, .c (.v (.tuple #[(.agg #[(.int .i64 ((gadd n m p q).fst)), (.int .i64 ((gadd n m p q).snd.fst))]), (.int .i64 ((gadd n m p q).snd.snd))])) [] 0, .e, .f]) (by kernel_rfl) (cj c1 (cj c3 (cj (point_does (k) (n) (m) (s)) (cj (point_does (j) (p) (q) (u)) (cj (gadd_does (n) (m) (p) (q)) (cj c4 cj0))))))
    · refine fbif (fun c5 => ?_) (fun c5 => ?_)
      · refine fbif (fun c6 => ?_) (fun c6 => ?_)
        · exact sfin (keep := [0, 4, 5, 6, 7]) (by decide) ([.l] ++ [.f, .f, .t, .c (.v (.agg #[(.int .i64 (n)), (.int .i64 (m))])) [] 0, .c (.v (.agg #[(.int .i64 (p)), (.int .i64 (q))])) [] 0, .c (.v (.tuple #[(.agg #[(.int .i64 ((gsub n m p q).fst)), (.int .i64 ((gsub n m p q).snd.fst))]), (.int .i64 ((gsub n m p q).snd.snd))])) [] 0, .e, .t]) (by kernel_rfl) (cj c1 (cj c3 (cj c5 (cj (point_does (k) (n) (m) (s)) (cj (point_does (j) (p) (q) (u)) (cj (gsub_does (n) (m) (p) (q)) (cj c6 cj0)))))))
        · exact sfin (keep := [0, 4, 5, 6, 7]) (by decide) ([.l] ++ [.f, .f, .t, .c (.v (.agg #[(.int .i64 (n)), (.int .i64 (m))])) [] 0, .c (.v (.agg #[(.int .i64 (p)), (.int .i64 (q))])) [] 0, .c (.v (.tuple #[(.agg #[(.int .i64 ((gsub n m p q).fst)), (.int .i64 ((gsub n m p q).snd.fst))]), (.int .i64 ((gsub n m p q).snd.snd))])) [] 0, .e, .f]) (by kernel_rfl) (cj c1 (cj c3 (cj c5 (cj (point_does (k) (n) (m) (s)) (cj (point_does (j) (p) (q) (u)) (cj (gsub_does (n) (m) (p) (q)) (cj c6 cj0)))))))
      · refine fbif (fun c7 => ?_) (fun c7 => ?_)
        · refine fbif (fun c8 => ?_) (fun c8 => ?_)
          · exact sfin (keep := [0, 4, 5, 6, 7]) (by decide) ([.l] ++ [.f, .f, .f, .t, .c (.v (.agg #[(.int .i64 (n)), (.int .i64 (m))])) [] 0, .c (.v (.agg #[(.int .i64 (p)), (.int .i64 (q))])) [] 0, .c (.v (.tuple #[(.agg #[(.int .i64 ((gdV n m p q).fst)), (.int .i64 ((gdV n m p q).snd.fst))]), (.agg #[(.int .i64 ((gdV n m p q).snd.snd.fst)), (.int .i64 ((gdV n m p q).snd.snd.snd.fst))]), (.int .i64 ((gdV n m p q).snd.snd.snd.snd))])) [] 0, .e, .t]) (by kernel_rfl) (cj c1 (cj c3 (cj c5 (cj c7 (cj (point_does (k) (n) (m) (s)) (cj (point_does (j) (p) (q) (u)) (cj (gdiv_does (n) (m) (p) (q)) (cj c8 cj0))))))))
          · exact sfin (keep := [0, 4, 5, 6, 7]) (by decide) ([.l] ++ [.f, .f, .f, .t, .c (.v (.agg #[(.int .i64 (n)), (.int .i64 (m))])) [] 0, .c (.v (.agg #[(.int .i64 (p)), (.int .i64 (q))])) [] 0, .c (.v (.tuple #[(.agg #[(.int .i64 ((gdV n m p q).fst)), (.int .i64 ((gdV n m p q).snd.fst))]), (.agg #[(.int .i64 ((gdV n m p q).snd.snd.fst)), (.int .i64 ((gdV n m p q).snd.snd.snd.fst))]), (.int .i64 ((gdV n m p q).snd.snd.snd.snd))])) [] 0, .e, .f]) (by kernel_rfl) (cj c1 (cj c3 (cj c5 (cj c7 (cj (point_does (k) (n) (m) (s)) (cj (point_does (j) (p) (q) (u)) (cj (gdiv_does (n) (m) (p) (q)) (cj c8 cj0))))))))
        · exact sfin (keep := [0, 4, 5, 6, 7]) (by decide) ([.l] ++ [.f, .f, .f, .f, .c (.v (.tuple #[(.agg #[(.int .i64 ((mkP ((gdV n m p q).snd.snd.fst, (gdV n m p q).snd.snd.snd.fst, (gdV n m p q).snd.snd.snd.snd)).fst)), (.int .i64 ((mkP ((gdV n m p q).snd.snd.fst, (gdV n m p q).snd.snd.snd.fst, (gdV n m p q).snd.snd.snd.snd)).snd.fst)), (.int .i64 ((mkP ((gdV n m p q).snd.snd.fst, (gdV n m p q).snd.snd.snd.fst, (gdV n m p q).snd.snd.snd.snd)).snd.snd.fst)), (.string ((mkP ((gdV n m p q).snd.snd.fst, (gdV n m p q).snd.snd.snd.fst, (gdV n m p q).snd.snd.snd.snd)).snd.snd.snd.fst))]), (.int .i64 ((mkP ((gdV n m p q).snd.snd.fst, (gdV n m p q).snd.snd.snd.fst, (gdV n m p q).snd.snd.snd.snd)).snd.snd.snd.snd))])) [] 0]) (by kernel_rfl) (cj c1 (cj c3 (cj c5 (cj c7 (cj (rest_does (k) (n) (m) (s) (j) (p) (q) (u)) cj0)))))
def pRe (op k n m j p q : Int) (s u : ByteArray) (fu : Nat) : Value :=
  bif (decide (IntKind.i64.wrap ((s.size : Int) + (u.size : Int)) > 256)) then (.tuple #[(.agg #[(.int .i64 (0)), (.int .i64 (0)), (.int .i64 (0)), (.string ((ByteArray.mk #[])))]), (.int .i64 (32))])
  else (.tuple #[(.agg #[(.int .i64 (3)), (.int .i64 (0)), (.int .i64 (0)), (.string (s ++ u))]), (.int .i64 (0))])
theorem pRe_fin (op k n m j p q : Int) (s u : ByteArray) (fu : Nat) (hn : I64 n) (hm : I64 m) (hp : I64 p) (hq : I64 q) (hs : s.size ≤ 140737488351232) (hu : u.size ≤ 140737488351232) : Fin cE Tryz.f91 0 (.v (pRe op k n m j p q s u fu)) [] 0 (reK2 (fu + 1)) (rcS op) (rcT k n m s j p q u) 3 := by
  unfold pRe
  refine fbif (fun c1 => ?_) (fun c1 => ?_)
  · exact sfin (keep := [0, 4, 5, 6, 7]) (by decide) ([.l] ++ [.t]) (by kernel_rfl) (cj c1 cj0)
  · exact sfin (keep := [0, 4, 5, 6, 7]) (by decide) ([.l] ++ [.f]) (by kernel_rfl) (cj c1 (cj (by omega : s.size + u.size ≤ 9223372036854775807) cj0))
end Go.Proofs.YtnchjdhepakokaaGreatDoorC
/- The program's reckoning, told. -/
namespace Go.Proofs.YtnchjdhepakokaaGreatDoorC
open Go.Proofs Go.Proofs.YtnchjdhepakokaaGreatDoorSx Go.Lib
set_option maxRecDepth 100000
set_option linter.unusedVariables false
set_option linter.unusedSimpArgs false
theorem pRc_said (op k n m j p q : Int) (s u : ByteArray) (fu : Nat) : pRc op k n m j p q s u fu = resV (deV op n m p q) := by
  unfold pRc deV mkD
  simp only [resV_if]
theorem pRd_said (op k n m j p q : Int) (s u : ByteArray) (fu : Nat) : pRd op k n m j p q s u fu = resV (poV op n m p q) := by
  unfold pRd poV mkP
  simp only [resV_if]
theorem pRe_said (op k n m j p q : Int) (s u : ByteArray) (fu : Nat) : pRe op k n m j p q s u fu = resV (txV s u) := by
  unfold pRe txV
  simp only [resV_if]
theorem pRb_said (op k n m j p q : Int) (s u : ByteArray) (fu : Nat) : pRb op k n m j p q s u fu (resV (deV op n m p q)) (resV (poV op n m p q)) (resV (txV s u)) = resV (reV op k n m s j p q u) := by
  unfold pRb reV iiV
  simp only [resV_if]
  by_cases k1 : k = 1
  · subst k1
    by_cases j1 : j = 1
    · subst j1; rfl
    · by_cases j2 : j = 2
      · subst j2; rfl
      · rw [beq_eq_false_iff_ne.mpr j1, beq_eq_false_iff_ne.mpr j2]; rfl
  · rw [beq_eq_false_iff_ne.mpr k1]
    by_cases k2 : k = 2
    · subst k2
      by_cases j1 : j = 1
      · subst j1; rfl
      · rw [beq_eq_false_iff_ne.mpr j1]
        by_cases j2 : j = 2
        · subst j2; rfl
        · rw [beq_eq_false_iff_ne.mpr j2]; rfl
    · rw [beq_eq_false_iff_ne.mpr k2]
      by_cases k5 : k = 5
      · subst k5
        cases (j == 5) <;> rfl
      · rw [beq_eq_false_iff_ne.mpr k5]
        by_cases k3 : k = 3
        · subst k3
          cases (j == 3) <;> cases (op == 9) <;> rfl
        · rw [beq_eq_false_iff_ne.mpr k3]; rfl
theorem reckon_does (op k n m : Int) (s : ByteArray) (j p q : Int) (u : ByteArray) (hn : I64 n) (hm : I64 m) (hs : s.size ≤ 140737488351232) (hp : I64 p) (hq : I64 q) (hu : u.size ≤ 140737488351232) (h6 : 6 ≤ op) (h10 : op ≤ 10) : Does cE 91 [] 0 [.v (it op), .v (vl k n m s), .v (vl j p q u)] (.v (resV (reV op k n m s j p q u))) [] 0 := by
  refine does_of_fin (fn := Tryz.f91) (c := bd Tryz.f91) rfl (by kernel_rfl) rfl ?_
  rw [← pRb_said op k n m j p q s u 1, ← pRc_said op k n m j p q s u 0, ← pRd_said op k n m j p q s u 0, ← pRe_said op k n m j p q s u 0]
  exact pRa_fin op k n m j p q s u _ (fin_scope 2 (pRb_fin op k n m j p q s u 1 _ _ _ hn hm hp hq hs hu h6 h10 (pRc_fin op k n m j p q s u 0 hn hm hp hq hs hu) (pRd_fin op k n m j p q s u 0 hn hm hp hq hs hu) (pRe_fin op k n m j p q s u 0 hn hm hp hq hs hu)))
end Go.Proofs.YtnchjdhepakokaaGreatDoorC
/- Small functions of the order. Printed by a program (wip/tools); Lean checks each. -/
namespace Go.Proofs.YtnchjdhepakokaaGreatDoorC
open Go.Proofs Go.Proofs.YtnchjdhepakokaaGreatDoorSx Go.Lib
set_option maxRecDepth 100000
set_option linter.unusedVariables false
def pNan (x : Int) : Value :=
  (.bool (x != x))
theorem pNan_does (x : Int) : Does cE 199 [] 0 [.v (it x)] (.v (pNan x)) [] 0 := by
  unfold pNan
  exact pth (fn := Tryz.f199) rfl (by kernel_rfl) [] (by kernel_rfl) cj0
def pCls (k n m : Int) (s : ByteArray) : Value :=
  bif (k == 1) then (.int .i64 (2))
  else bif (k == 2) then (.int .i64 (2))
    else bif (k == 3) then (.int .i64 (3))
      else bif (k == 4) then (.int .i64 (4))
        else bif (k == 5) then (.int .i64 (5))
          else (.int .i64 (1))
theorem pCls_does (k n m : Int) (s : ByteArray) : Does cE 123 [] 0 [.v (vl k n m s)] (.v (pCls k n m s)) [] 0 := by
  unfold pCls
  refine tbif (fun c1 => ?_) (fun c1 => ?_)
  · exact pth (fn := Tryz.f123) rfl (by kernel_rfl) [.t, .t] (by kernel_rfl) (cj c1 (cj c1 cj0))
  · refine tbif (fun c2 => ?_) (fun c2 => ?_)
    · exact pth (fn := Tryz.f123) rfl (by kernel_rfl) [.f, .t] (by kernel_rfl) (cj c1 (cj c2 cj0))
    · refine tbif (fun c3 => ?_) (fun c3 => ?_)
      · exact pth (fn := Tryz.f123) rfl (by kernel_rfl) [.f, .f, .t] (by kernel_rfl) (cj c1 (cj c2 (cj c3 cj0)))
      · refine tbif (fun c4 => ?_) (fun c4 => ?_)
        · exact pth (fn := Tryz.f123) rfl (by kernel_rfl) [.f, .f, .f, .t] (by kernel_rfl) (cj c1 (cj c2 (cj c3 (cj c4 cj0))))
        · refine tbif (fun c5 => ?_) (fun c5 => ?_)
          · exact pth (fn := Tryz.f123) rfl (by kernel_rfl) [.f, .f, .f, .f, .t] (by kernel_rfl) (cj c1 (cj c2 (cj c3 (cj c4 (cj c5 cj0)))))
          · exact pth (fn := Tryz.f123) rfl (by kernel_rfl) [.f, .f, .f, .f, .f] (by kernel_rfl) (cj c1 (cj c2 (cj c3 (cj c4 (cj c5 cj0)))))
def rCls (k : Int) : Value :=
  bif (k == 1) then (.int .i64 (2))
  else bif (k == 2) then (.int .i64 (2))
    else bif (k == 3) then (.int .i64 (3))
      else bif (k == 4) then (.int .i64 (4))
        else bif (k == 5) then (.int .i64 (5))
          else (.int .i64 (1))
theorem rCls_does (k : Int) : Does cE 129 [] 0 [.v (it k)] (.v (rCls k)) [] 0 := by
  unfold rCls
  refine tbif (fun c1 => ?_) (fun c1 => ?_)
  · exact pth (fn := Tryz.f129) rfl (by kernel_rfl) [.t, .t] (by kernel_rfl) (cj c1 (cj c1 cj0))
  · refine tbif (fun c2 => ?_) (fun c2 => ?_)
    · exact pth (fn := Tryz.f129) rfl (by kernel_rfl) [.f, .t] (by kernel_rfl) (cj c1 (cj c2 cj0))
    · refine tbif (fun c3 => ?_) (fun c3 => ?_)
      · exact pth (fn := Tryz.f129) rfl (by kernel_rfl) [.f, .f, .t] (by kernel_rfl) (cj c1 (cj c2 (cj c3 cj0)))
      · refine tbif (fun c4 => ?_) (fun c4 => ?_)
        · exact pth (fn := Tryz.f129) rfl (by kernel_rfl) [.f, .f, .f, .t] (by kernel_rfl) (cj c1 (cj c2 (cj c3 (cj c4 cj0))))
        · refine tbif (fun c5 => ?_) (fun c5 => ?_)
          · exact pth (fn := Tryz.f129) rfl (by kernel_rfl) [.f, .f, .f, .f, .t] (by kernel_rfl) (cj c1 (cj c2 (cj c3 (cj c4 (cj c5 cj0)))))
          · exact pth (fn := Tryz.f129) rfl (by kernel_rfl) [.f, .f, .f, .f, .f] (by kernel_rfl) (cj c1 (cj c2 (cj c3 (cj c4 (cj c5 cj0)))))
def rCmp (x y : Int) : Value :=
  bif (decide (x < y)) then (.int .i64 (-1))
  else bif (decide (x > y)) then (.int .i64 (1))
    else (.int .i64 (0))
theorem rCmp_does (x y : Int) : Does cE 128 [] 0 [.v (it x), .v (it y)] (.v (rCmp x y)) [] 0 := by
  unfold rCmp
  refine tbif (fun c1 => ?_) (fun c1 => ?_)
  · exact pth (fn := Tryz.f128) rfl (by kernel_rfl) [.t] (by kernel_rfl) (cj c1 cj0)
  · refine tbif (fun c2 => ?_) (fun c2 => ?_)
    · exact pth (fn := Tryz.f128) rfl (by kernel_rfl) [.f, .t] (by kernel_rfl) (cj c1 (cj c2 cj0))
    · exact pth (fn := Tryz.f128) rfl (by kernel_rfl) [.f, .f] (by kernel_rfl) (cj c1 (cj c2 cj0))
end Go.Proofs.YtnchjdhepakokaaGreatDoorC
