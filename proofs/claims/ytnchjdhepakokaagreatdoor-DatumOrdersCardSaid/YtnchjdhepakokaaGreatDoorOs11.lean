import Derived.Test.YtnchjdhepakokaaGreatDoorOs06
import Derived.Test.YtnchjdhepakokaaGreatDoorOs10
import Derived.KernelRfl
import Derived.Test.YtnchjdhepakokaaGreatDoorOs05
import Derived.Lib.SmallJoins
import Derived.SizedLaws
/- Each path of each function: on which conditions it is taken, what it gives. Printed by a program (wip/tools/sxexp2.lean); Lean checks each. -/
namespace Go.Proofs.YtnchjdhepakokaaGreatDoorC
open Go.Proofs Go.Proofs.YtnchjdhepakokaaGreatDoorSx
set_option maxRecDepth 100000
set_option linter.unusedVariables false

theorem rresc_1 (u x sc : Int) (b0 : Bool) (h0 : Does cE 155 [] 0 [.v (.agg #[(.int .i64 (u)), (.int .i64 (x))])] (.v (.bool (b0))) [] 0) (h1 : (!b0) = true) : Does cE 78 [] 0 [.v (dc u x), .v (it sc)] (.v (.tuple #[(.agg #[(.int .i64 (0)), (.int .i64 (0))]), (.int .i64 (1))])) [] 0 :=
  does_path (ct := ct) ctOk mixed (fn := Tryz.f78) rfl (by kernel_rfl) 2000 [.c (.v (.bool (b0))) [] 0, .t, .t, .t, .l, .l, .l, .l] (by kernel_rfl) (cj h0 (cj h1 (cj h1 (cj h1 cj0))))
theorem rresc_2 (u x sc : Int) (b0 : Bool) (h0 : Does cE 155 [] 0 [.v (.agg #[(.int .i64 (u)), (.int .i64 (x))])] (.v (.bool (b0))) [] 0) (h1 : (!b0) = false) (h2 : decide (sc < 0) = true) : Does cE 78 [] 0 [.v (dc u x), .v (it sc)] (.v (.tuple #[(.agg #[(.int .i64 (0)), (.int .i64 (0))]), (.int .i64 (1))])) [] 0 :=
  does_path (ct := ct) ctOk mixed (fn := Tryz.f78) rfl (by kernel_rfl) 2000 [.c (.v (.bool (b0))) [] 0, .f, .f, .f, .t, .t, .t, .l] (by kernel_rfl) (cj h0 (cj h1 (cj h1 (cj h1 (cj h2 (cj h2 (cj h2 cj0)))))))
theorem rresc_3 (u x sc : Int) (b0 : Bool) (h0 : Does cE 155 [] 0 [.v (.agg #[(.int .i64 (u)), (.int .i64 (x))])] (.v (.bool (b0))) [] 0) (h1 : (!b0) = false) (h2 : decide (sc < 0) = false) (h3 : decide (sc > 6) = true) : Does cE 78 [] 0 [.v (dc u x), .v (it sc)] (.v (.tuple #[(.agg #[(.int .i64 (0)), (.int .i64 (0))]), (.int .i64 (1))])) [] 0 :=
  does_path (ct := ct) ctOk mixed (fn := Tryz.f78) rfl (by kernel_rfl) 2000 [.c (.v (.bool (b0))) [] 0, .f, .f, .f, .f, .f, .f, .t] (by kernel_rfl) (cj h0 (cj h1 (cj h1 (cj h1 (cj h2 (cj h2 (cj h2 (cj h3 cj0))))))))
theorem rresc_4 (u x sc : Int) (b0 : Bool) (i1 : Int) (i2 : Int) (i3 : Int) (i4 : Int) (i5 : Int) (i6 : Int) (b7 : Bool) (i8 : Int) (i9 : Int) (i10 : Int) (h0 : Does cE 155 [] 0 [.v (.agg #[(.int .i64 (u)), (.int .i64 (x))])] (.v (.bool (b0))) [] 0) (h1 : (!b0) = false) (h2 : decide (sc < 0) = false) (h3 : decide (sc > 6) = false) (h4 : decide (sc ≥ x) = true) (h5 : Does cE 157 [] 0 [.v (.agg #[(.int .i64 (u)), (.int .i64 (x))]), .v (.int .i64 (sc))] (.v (.agg #[(.int .u64 (i1)), (.int .u64 (i2)), (.int .u64 (i3)), (.int .u64 (i4)), (.int .u64 (i5)), (.int .u64 (i6)), (.bool (b7))])) [] 0) (h6 : Does cE 156 [] 0 [.v (.agg #[(.int .u64 (i1)), (.int .u64 (i2)), (.int .u64 (i3)), (.int .u64 (i4)), (.int .u64 (i5)), (.int .u64 (i6)), (.bool (b7))]), .v (.int .i64 (sc))] (.v (.tuple #[(.agg #[(.int .i64 (i8)), (.int .i64 (i9))]), (.int .i64 (i10))])) [] 0) : Does cE 78 [] 0 [.v (dc u x), .v (it sc)] (.v (.tuple #[(.agg #[(.int .i64 (i8)), (.int .i64 (i9))]), (.int .i64 (i10))])) [] 0 :=
  does_path (ct := ct) ctOk mixed (fn := Tryz.f78) rfl (by kernel_rfl) 2000 [.c (.v (.bool (b0))) [] 0, .f, .f, .f, .f, .f, .f, .f, .t, .c (.v (.agg #[(.int .u64 (i1)), (.int .u64 (i2)), (.int .u64 (i3)), (.int .u64 (i4)), (.int .u64 (i5)), (.int .u64 (i6)), (.bool (b7))])) [] 0, .c (.v (.tuple #[(.agg #[(.int .i64 (i8)), (.int .i64 (i9))]), (.int .i64 (i10))])) [] 0] (by kernel_rfl) (cj h0 (cj h1 (cj h1 (cj h1 (cj h2 (cj h2 (cj h2 (cj h3 (cj h4 (cj h5 (cj h6 cj0)))))))))))
theorem rresc_5 (u x sc : Int) (b0 : Bool) (i1 : Int) (i2 : Int) (i3 : Int) (i4 : Int) (i5 : Int) (i6 : Int) (b7 : Bool) (i8 : Int) (i9 : Int) (i10 : Int) (i11 : Int) (i12 : Int) (i13 : Int) (i14 : Int) (b15 : Bool) (i16 : Int) (i17 : Int) (i18 : Int) (i19 : Int) (i20 : Int) (i21 : Int) (b22 : Bool) (i23 : Int) (i24 : Int) (i25 : Int) (h0 : Does cE 155 [] 0 [.v (.agg #[(.int .i64 (u)), (.int .i64 (x))])] (.v (.bool (b0))) [] 0) (h1 : (!b0) = false) (h2 : decide (sc < 0) = false) (h3 : decide (sc > 6) = false) (h4 : decide (sc ≥ x) = false) (h5 : Does cE 159 [] 0 [.v (.int .i64 (u))] (.v (.agg #[(.int .u64 (i1)), (.int .u64 (i2)), (.int .u64 (i3)), (.int .u64 (i4)), (.int .u64 (i5)), (.int .u64 (i6)), (.bool (b7))])) [] 0) (h6 : Does cE 146 [] 0 [.v (.int .i64 (IntKind.i64.wrap (x - sc)))] (.v (.int .i64 (i8))) [] 0) (h7 : Does cE 159 [] 0 [.v (.int .i64 (i8))] (.v (.agg #[(.int .u64 (i9)), (.int .u64 (i10)), (.int .u64 (i11)), (.int .u64 (i12)), (.int .u64 (i13)), (.int .u64 (i14)), (.bool (b15))])) [] 0) (h8 : Does cE 158 [] 0 [.v (.agg #[(.int .u64 (i1)), (.int .u64 (i2)), (.int .u64 (i3)), (.int .u64 (i4)), (.int .u64 (i5)), (.int .u64 (i6)), (.bool (b7))]), .v (.agg #[(.int .u64 (i9)), (.int .u64 (i10)), (.int .u64 (i11)), (.int .u64 (i12)), (.int .u64 (i13)), (.int .u64 (i14)), (.bool (b15))])] (.v (.agg #[(.int .u64 (i16)), (.int .u64 (i17)), (.int .u64 (i18)), (.int .u64 (i19)), (.int .u64 (i20)), (.int .u64 (i21)), (.bool (b22))])) [] 0) (h9 : Does cE 156 [] 0 [.v (.agg #[(.int .u64 (i16)), (.int .u64 (i17)), (.int .u64 (i18)), (.int .u64 (i19)), (.int .u64 (i20)), (.int .u64 (i21)), (.bool (b22))]), .v (.int .i64 (sc))] (.v (.tuple #[(.agg #[(.int .i64 (i23)), (.int .i64 (i24))]), (.int .i64 (i25))])) [] 0) : Does cE 78 [] 0 [.v (dc u x), .v (it sc)] (.v (.tuple #[(.agg #[(.int .i64 (i23)), (.int .i64 (i24))]), (.int .i64 (i25))])) [] 0 :=
  does_path (ct := ct) ctOk mixed (fn := Tryz.f78) rfl (by kernel_rfl) 2000 [.c (.v (.bool (b0))) [] 0, .f, .f, .f, .f, .f, .f, .f, .f, .c (.v (.agg #[(.int .u64 (i1)), (.int .u64 (i2)), (.int .u64 (i3)), (.int .u64 (i4)), (.int .u64 (i5)), (.int .u64 (i6)), (.bool (b7))])) [] 0, .c (.v (.int .i64 (i8))) [] 0, .c (.v (.agg #[(.int .u64 (i9)), (.int .u64 (i10)), (.int .u64 (i11)), (.int .u64 (i12)), (.int .u64 (i13)), (.int .u64 (i14)), (.bool (b15))])) [] 0, .c (.v (.agg #[(.int .u64 (i16)), (.int .u64 (i17)), (.int .u64 (i18)), (.int .u64 (i19)), (.int .u64 (i20)), (.int .u64 (i21)), (.bool (b22))])) [] 0, .c (.v (.tuple #[(.agg #[(.int .i64 (i23)), (.int .i64 (i24))]), (.int .i64 (i25))])) [] 0] (by kernel_rfl) (cj h0 (cj h1 (cj h1 (cj h1 (cj h2 (cj h2 (cj h2 (cj h3 (cj h4 (cj h5 (cj h6 (cj h7 (cj h8 (cj h9 cj0))))))))))))))
theorem radd_1 (u x v y : Int) (b0 : Bool) (h0 : Does cE 155 [] 0 [.v (.agg #[(.int .i64 (u)), (.int .i64 (x))])] (.v (.bool (b0))) [] 0) (h1 : (!b0) = true) : Does cE 236 [] 0 [.v (dc u x), .v (dc v y)] (.v (.tuple #[(.agg #[(.int .i64 (0)), (.int .i64 (0))]), (.int .i64 (1))])) [] 0 :=
  does_path (ct := ct) ctOk mixed (fn := Tryz.f236) rfl (by kernel_rfl) 2000 [.c (.v (.bool (b0))) [] 0, .t, .t, .t, .t, .l] (by kernel_rfl) (cj h0 (cj h1 (cj h1 (cj h1 (cj h1 cj0)))))
theorem radd_2 (u x v y : Int) (b0 : Bool) (b1 : Bool) (h0 : Does cE 155 [] 0 [.v (.agg #[(.int .i64 (u)), (.int .i64 (x))])] (.v (.bool (b0))) [] 0) (h1 : (!b0) = false) (h2 : Does cE 155 [] 0 [.v (.agg #[(.int .i64 (v)), (.int .i64 (y))])] (.v (.bool (b1))) [] 0) (h3 : (!b1) = true) : Does cE 236 [] 0 [.v (dc u x), .v (dc v y)] (.v (.tuple #[(.agg #[(.int .i64 (0)), (.int .i64 (0))]), (.int .i64 (1))])) [] 0 :=
  does_path (ct := ct) ctOk mixed (fn := Tryz.f236) rfl (by kernel_rfl) 2000 [.c (.v (.bool (b0))) [] 0, .f, .f, .c (.v (.bool (b1))) [] 0, .f, .f, .t] (by kernel_rfl) (cj h0 (cj h1 (cj h1 (cj h2 (cj h1 (cj h1 (cj h3 cj0)))))))
theorem radd_3 (u x v y : Int) (b0 : Bool) (b1 : Bool) (i2 : Int) (i3 : Int) (i4 : Int) (i5 : Int) (i6 : Int) (i7 : Int) (b8 : Bool) (i9 : Int) (i10 : Int) (i11 : Int) (i12 : Int) (i13 : Int) (i14 : Int) (b15 : Bool) (i16 : Int) (i17 : Int) (i18 : Int) (i19 : Int) (i20 : Int) (i21 : Int) (b22 : Bool) (i23 : Int) (i24 : Int) (i25 : Int) (h0 : Does cE 155 [] 0 [.v (.agg #[(.int .i64 (u)), (.int .i64 (x))])] (.v (.bool (b0))) [] 0) (h1 : (!b0) = false) (h2 : Does cE 155 [] 0 [.v (.agg #[(.int .i64 (v)), (.int .i64 (y))])] (.v (.bool (b1))) [] 0) (h3 : (!b1) = false) (h4 : Does cE 157 [] 0 [.v (.agg #[(.int .i64 (u)), (.int .i64 (x))]), .v (.int .i64 (if y > x then y else x))] (.v (.agg #[(.int .u64 (i2)), (.int .u64 (i3)), (.int .u64 (i4)), (.int .u64 (i5)), (.int .u64 (i6)), (.int .u64 (i7)), (.bool (b8))])) [] 0) (h5 : Does cE 157 [] 0 [.v (.agg #[(.int .i64 (v)), (.int .i64 (y))]), .v (.int .i64 (if y > x then y else x))] (.v (.agg #[(.int .u64 (i9)), (.int .u64 (i10)), (.int .u64 (i11)), (.int .u64 (i12)), (.int .u64 (i13)), (.int .u64 (i14)), (.bool (b15))])) [] 0) (h6 : Does cE 179 [] 0 [.v (.agg #[(.int .u64 (i2)), (.int .u64 (i3)), (.int .u64 (i4)), (.int .u64 (i5)), (.int .u64 (i6)), (.int .u64 (i7)), (.bool (b8))]), .v (.agg #[(.int .u64 (i9)), (.int .u64 (i10)), (.int .u64 (i11)), (.int .u64 (i12)), (.int .u64 (i13)), (.int .u64 (i14)), (.bool (b15))])] (.v (.agg #[(.int .u64 (i16)), (.int .u64 (i17)), (.int .u64 (i18)), (.int .u64 (i19)), (.int .u64 (i20)), (.int .u64 (i21)), (.bool (b22))])) [] 0) (h7 : Does cE 156 [] 0 [.v (.agg #[(.int .u64 (i16)), (.int .u64 (i17)), (.int .u64 (i18)), (.int .u64 (i19)), (.int .u64 (i20)), (.int .u64 (i21)), (.bool (b22))]), .v (.int .i64 (if y > x then y else x))] (.v (.tuple #[(.agg #[(.int .i64 (i23)), (.int .i64 (i24))]), (.int .i64 (i25))])) [] 0) : Does cE 236 [] 0 [.v (dc u x), .v (dc v y)] (.v (.tuple #[(.agg #[(.int .i64 (i23)), (.int .i64 (i24))]), (.int .i64 (i25))])) [] 0 :=
  does_path (ct := ct) ctOk mixed (fn := Tryz.f236) rfl (by kernel_rfl) 2000 [.c (.v (.bool (b0))) [] 0, .f, .f, .c (.v (.bool (b1))) [] 0, .f, .f, .f, .c (.v (.agg #[(.int .u64 (i2)), (.int .u64 (i3)), (.int .u64 (i4)), (.int .u64 (i5)), (.int .u64 (i6)), (.int .u64 (i7)), (.bool (b8))])) [] 0, .c (.v (.agg #[(.int .u64 (i9)), (.int .u64 (i10)), (.int .u64 (i11)), (.int .u64 (i12)), (.int .u64 (i13)), (.int .u64 (i14)), (.bool (b15))])) [] 0, .c (.v (.agg #[(.int .u64 (i16)), (.int .u64 (i17)), (.int .u64 (i18)), (.int .u64 (i19)), (.int .u64 (i20)), (.int .u64 (i21)), (.bool (b22))])) [] 0, .c (.v (.tuple #[(.agg #[(.int .i64 (i23)), (.int .i64 (i24))]), (.int .i64 (i25))])) [] 0] (by kernel_rfl) (cj h0 (cj h1 (cj h1 (cj h2 (cj h1 (cj h1 (cj h3 (cj h4 (cj h5 (cj h6 (cj h7 cj0)))))))))))
theorem rsub_1 (u x v y : Int) (b0 : Bool) (h0 : Does cE 155 [] 0 [.v (.agg #[(.int .i64 (u)), (.int .i64 (x))])] (.v (.bool (b0))) [] 0) (h1 : (!b0) = true) : Does cE 162 [] 0 [.v (dc u x), .v (dc v y)] (.v (.tuple #[(.agg #[(.int .i64 (0)), (.int .i64 (0))]), (.int .i64 (1))])) [] 0 :=
  does_path (ct := ct) ctOk mixed (fn := Tryz.f162) rfl (by kernel_rfl) 2000 [.c (.v (.bool (b0))) [] 0, .t, .t, .t, .t, .l] (by kernel_rfl) (cj h0 (cj h1 (cj h1 (cj h1 (cj h1 cj0)))))
theorem rsub_2 (u x v y : Int) (b0 : Bool) (b1 : Bool) (h0 : Does cE 155 [] 0 [.v (.agg #[(.int .i64 (u)), (.int .i64 (x))])] (.v (.bool (b0))) [] 0) (h1 : (!b0) = false) (h2 : Does cE 155 [] 0 [.v (.agg #[(.int .i64 (v)), (.int .i64 (y))])] (.v (.bool (b1))) [] 0) (h3 : (!b1) = true) : Does cE 162 [] 0 [.v (dc u x), .v (dc v y)] (.v (.tuple #[(.agg #[(.int .i64 (0)), (.int .i64 (0))]), (.int .i64 (1))])) [] 0 :=
  does_path (ct := ct) ctOk mixed (fn := Tryz.f162) rfl (by kernel_rfl) 2000 [.c (.v (.bool (b0))) [] 0, .f, .f, .c (.v (.bool (b1))) [] 0, .f, .f, .t] (by kernel_rfl) (cj h0 (cj h1 (cj h1 (cj h2 (cj h1 (cj h1 (cj h3 cj0)))))))
theorem rsub_3 (u x v y : Int) (b0 : Bool) (b1 : Bool) (i2 : Int) (i3 : Int) (i4 : Int) (i5 : Int) (i6 : Int) (i7 : Int) (b8 : Bool) (i9 : Int) (i10 : Int) (i11 : Int) (i12 : Int) (i13 : Int) (i14 : Int) (b15 : Bool) (i16 : Int) (i17 : Int) (i18 : Int) (i19 : Int) (i20 : Int) (i21 : Int) (b22 : Bool) (i23 : Int) (i24 : Int) (i25 : Int) (h0 : Does cE 155 [] 0 [.v (.agg #[(.int .i64 (u)), (.int .i64 (x))])] (.v (.bool (b0))) [] 0) (h1 : (!b0) = false) (h2 : Does cE 155 [] 0 [.v (.agg #[(.int .i64 (v)), (.int .i64 (y))])] (.v (.bool (b1))) [] 0) (h3 : (!b1) = false) (h4 : Does cE 157 [] 0 [.v (.agg #[(.int .i64 (v)), (.int .i64 (y))]), .v (.int .i64 (if y > x then y else x))] (.v (.agg #[(.int .u64 (i2)), (.int .u64 (i3)), (.int .u64 (i4)), (.int .u64 (i5)), (.int .u64 (i6)), (.int .u64 (i7)), (.bool (b8))])) [] 0) (h5 : Does cE 157 [] 0 [.v (.agg #[(.int .i64 (u)), (.int .i64 (x))]), .v (.int .i64 (if y > x then y else x))] (.v (.agg #[(.int .u64 (i9)), (.int .u64 (i10)), (.int .u64 (i11)), (.int .u64 (i12)), (.int .u64 (i13)), (.int .u64 (i14)), (.bool (b15))])) [] 0) (h6 : Does cE 179 [] 0 [.v (.agg #[(.int .u64 (i9)), (.int .u64 (i10)), (.int .u64 (i11)), (.int .u64 (i12)), (.int .u64 (i13)), (.int .u64 (i14)), (.bool (b15))]), .v (.agg #[(.int .u64 (i2)), (.int .u64 (i3)), (.int .u64 (i4)), (.int .u64 (i5)), (.int .u64 (i6)), (.int .u64 (i7)), (.bool (!b8))])] (.v (.agg #[(.int .u64 (i16)), (.int .u64 (i17)), (.int .u64 (i18)), (.int .u64 (i19)), (.int .u64 (i20)), (.int .u64 (i21)), (.bool (b22))])) [] 0) (h7 : Does cE 156 [] 0 [.v (.agg #[(.int .u64 (i16)), (.int .u64 (i17)), (.int .u64 (i18)), (.int .u64 (i19)), (.int .u64 (i20)), (.int .u64 (i21)), (.bool (b22))]), .v (.int .i64 (if y > x then y else x))] (.v (.tuple #[(.agg #[(.int .i64 (i23)), (.int .i64 (i24))]), (.int .i64 (i25))])) [] 0) : Does cE 162 [] 0 [.v (dc u x), .v (dc v y)] (.v (.tuple #[(.agg #[(.int .i64 (i23)), (.int .i64 (i24))]), (.int .i64 (i25))])) [] 0 :=
  does_path (ct := ct) ctOk mixed (fn := Tryz.f162) rfl (by kernel_rfl) 2000 [.c (.v (.bool (b0))) [] 0, .f, .f, .c (.v (.bool (b1))) [] 0, .f, .f, .f, .c (.v (.agg #[(.int .u64 (i2)), (.int .u64 (i3)), (.int .u64 (i4)), (.int .u64 (i5)), (.int .u64 (i6)), (.int .u64 (i7)), (.bool (b8))])) [] 0, .c (.v (.agg #[(.int .u64 (i9)), (.int .u64 (i10)), (.int .u64 (i11)), (.int .u64 (i12)), (.int .u64 (i13)), (.int .u64 (i14)), (.bool (b15))])) [] 0, .c (.v (.agg #[(.int .u64 (i16)), (.int .u64 (i17)), (.int .u64 (i18)), (.int .u64 (i19)), (.int .u64 (i20)), (.int .u64 (i21)), (.bool (b22))])) [] 0, .c (.v (.tuple #[(.agg #[(.int .i64 (i23)), (.int .i64 (i24))]), (.int .i64 (i25))])) [] 0] (by kernel_rfl) (cj h0 (cj h1 (cj h1 (cj h2 (cj h1 (cj h1 (cj h3 (cj h4 (cj h5 (cj h6 (cj h7 cj0)))))))))))
theorem rneg_1 (u x : Int) (i0 : Int) (i1 : Int) (i2 : Int) (h0 : Does cE 162 [] 0 [.v (.agg #[(.int .i64 (0)), (.int .i64 (x))]), .v (.agg #[(.int .i64 (u)), (.int .i64 (x))])] (.v (.tuple #[(.agg #[(.int .i64 (i0)), (.int .i64 (i1))]), (.int .i64 (i2))])) [] 0) : Does cE 88 [] 0 [.v (dc u x)] (.v (.tuple #[(.agg #[(.int .i64 (i0)), (.int .i64 (i1))]), (.int .i64 (i2))])) [] 0 :=
  does_path (ct := ct) ctOk mixed (fn := Tryz.f88) rfl (by kernel_rfl) 2000 [.c (.v (.tuple #[(.agg #[(.int .i64 (i0)), (.int .i64 (i1))]), (.int .i64 (i2))])) [] 0] (by kernel_rfl) (cj h0 cj0)
theorem rmul_1 (u x v y : Int) (b0 : Bool) (h0 : Does cE 155 [] 0 [.v (.agg #[(.int .i64 (u)), (.int .i64 (x))])] (.v (.bool (b0))) [] 0) (h1 : (!b0) = true) : Does cE 234 [] 0 [.v (dc u x), .v (dc v y)] (.v (.tuple #[(.agg #[(.int .i64 (0)), (.int .i64 (0))]), (.int .i64 (1))])) [] 0 :=
  does_path (ct := ct) ctOk mixed (fn := Tryz.f234) rfl (by kernel_rfl) 2000 [.c (.v (.bool (b0))) [] 0, .t, .t, .t, .t, .l] (by kernel_rfl) (cj h0 (cj h1 (cj h1 (cj h1 (cj h1 cj0)))))
theorem rmul_2 (u x v y : Int) (b0 : Bool) (b1 : Bool) (h0 : Does cE 155 [] 0 [.v (.agg #[(.int .i64 (u)), (.int .i64 (x))])] (.v (.bool (b0))) [] 0) (h1 : (!b0) = false) (h2 : Does cE 155 [] 0 [.v (.agg #[(.int .i64 (v)), (.int .i64 (y))])] (.v (.bool (b1))) [] 0) (h3 : (!b1) = true) : Does cE 234 [] 0 [.v (dc u x), .v (dc v y)] (.v (.tuple #[(.agg #[(.int .i64 (0)), (.int .i64 (0))]), (.int .i64 (1))])) [] 0 :=
  does_path (ct := ct) ctOk mixed (fn := Tryz.f234) rfl (by kernel_rfl) 2000 [.c (.v (.bool (b0))) [] 0, .f, .f, .c (.v (.bool (b1))) [] 0, .f, .f, .t] (by kernel_rfl) (cj h0 (cj h1 (cj h1 (cj h2 (cj h1 (cj h1 (cj h3 cj0)))))))
theorem rmul_3 (u x v y : Int) (b0 : Bool) (b1 : Bool) (i2 : Int) (i3 : Int) (i4 : Int) (i5 : Int) (i6 : Int) (i7 : Int) (b8 : Bool) (i9 : Int) (i10 : Int) (i11 : Int) (i12 : Int) (i13 : Int) (i14 : Int) (b15 : Bool) (i16 : Int) (i17 : Int) (i18 : Int) (i19 : Int) (i20 : Int) (i21 : Int) (b22 : Bool) (i23 : Int) (i24 : Int) (i25 : Int) (i26 : Int) (i27 : Int) (i28 : Int) (i29 : Int) (b30 : Bool) (i31 : Int) (i32 : Int) (i33 : Int) (i34 : Int) (i35 : Int) (i36 : Int) (b37 : Bool) (i38 : Int) (i39 : Int) (i40 : Int) (h0 : Does cE 155 [] 0 [.v (.agg #[(.int .i64 (u)), (.int .i64 (x))])] (.v (.bool (b0))) [] 0) (h1 : (!b0) = false) (h2 : Does cE 155 [] 0 [.v (.agg #[(.int .i64 (v)), (.int .i64 (y))])] (.v (.bool (b1))) [] 0) (h3 : (!b1) = false) (h4 : Does cE 159 [] 0 [.v (.int .i64 (u))] (.v (.agg #[(.int .u64 (i2)), (.int .u64 (i3)), (.int .u64 (i4)), (.int .u64 (i5)), (.int .u64 (i6)), (.int .u64 (i7)), (.bool (b8))])) [] 0) (h5 : Does cE 159 [] 0 [.v (.int .i64 (v))] (.v (.agg #[(.int .u64 (i9)), (.int .u64 (i10)), (.int .u64 (i11)), (.int .u64 (i12)), (.int .u64 (i13)), (.int .u64 (i14)), (.bool (b15))])) [] 0) (h6 : Does cE 191 [] 0 [.v (.agg #[(.int .u64 (i2)), (.int .u64 (i3)), (.int .u64 (i4)), (.int .u64 (i5)), (.int .u64 (i6)), (.int .u64 (i7)), (.bool (b8))]), .v (.agg #[(.int .u64 (i9)), (.int .u64 (i10)), (.int .u64 (i11)), (.int .u64 (i12)), (.int .u64 (i13)), (.int .u64 (i14)), (.bool (b15))])] (.v (.agg #[(.int .u64 (i16)), (.int .u64 (i17)), (.int .u64 (i18)), (.int .u64 (i19)), (.int .u64 (i20)), (.int .u64 (i21)), (.bool (b22))])) [] 0) (h7 : decide (IntKind.i64.wrap (x + y) > 6) = true) (h8 : Does cE 146 [] 0 [.v (.int .i64 (IntKind.i64.wrap (IntKind.i64.wrap (x + y) - 6)))] (.v (.int .i64 (i23))) [] 0) (h9 : Does cE 159 [] 0 [.v (.int .i64 (i23))] (.v (.agg #[(.int .u64 (i24)), (.int .u64 (i25)), (.int .u64 (i26)), (.int .u64 (i27)), (.int .u64 (i28)), (.int .u64 (i29)), (.bool (b30))])) [] 0) (h10 : Does cE 158 [] 0 [.v (.agg #[(.int .u64 (i16)), (.int .u64 (i17)), (.int .u64 (i18)), (.int .u64 (i19)), (.int .u64 (i20)), (.int .u64 (i21)), (.bool (!decide (u < 0) == decide (v < 0)))]), .v (.agg #[(.int .u64 (i24)), (.int .u64 (i25)), (.int .u64 (i26)), (.int .u64 (i27)), (.int .u64 (i28)), (.int .u64 (i29)), (.bool (b30))])] (.v (.agg #[(.int .u64 (i31)), (.int .u64 (i32)), (.int .u64 (i33)), (.int .u64 (i34)), (.int .u64 (i35)), (.int .u64 (i36)), (.bool (b37))])) [] 0) (h11 : Does cE 156 [] 0 [.v (.agg #[(.int .u64 (i31)), (.int .u64 (i32)), (.int .u64 (i33)), (.int .u64 (i34)), (.int .u64 (i35)), (.int .u64 (i36)), (.bool (b37))]), .v (.int .i64 (6))] (.v (.tuple #[(.agg #[(.int .i64 (i38)), (.int .i64 (i39))]), (.int .i64 (i40))])) [] 0) : Does cE 234 [] 0 [.v (dc u x), .v (dc v y)] (.v (.tuple #[(.agg #[(.int .i64 (i38)), (.int .i64 (i39))]), (.int .i64 (i40))])) [] 0 :=
  does_path (ct := ct) ctOk mixed (fn := Tryz.f234) rfl (by kernel_rfl) 2000 [.c (.v (.bool (b0))) [] 0, .f, .f, .c (.v (.bool (b1))) [] 0, .f, .f, .f, .c (.v (.agg #[(.int .u64 (i2)), (.int .u64 (i3)), (.int .u64 (i4)), (.int .u64 (i5)), (.int .u64 (i6)), (.int .u64 (i7)), (.bool (b8))])) [] 0, .c (.v (.agg #[(.int .u64 (i9)), (.int .u64 (i10)), (.int .u64 (i11)), (.int .u64 (i12)), (.int .u64 (i13)), (.int .u64 (i14)), (.bool (b15))])) [] 0, .c (.v (.agg #[(.int .u64 (i16)), (.int .u64 (i17)), (.int .u64 (i18)), (.int .u64 (i19)), (.int .u64 (i20)), (.int .u64 (i21)), (.bool (b22))])) [] 0, .t, .c (.v (.int .i64 (i23))) [] 0, .c (.v (.agg #[(.int .u64 (i24)), (.int .u64 (i25)), (.int .u64 (i26)), (.int .u64 (i27)), (.int .u64 (i28)), (.int .u64 (i29)), (.bool (b30))])) [] 0, .c (.v (.agg #[(.int .u64 (i31)), (.int .u64 (i32)), (.int .u64 (i33)), (.int .u64 (i34)), (.int .u64 (i35)), (.int .u64 (i36)), (.bool (b37))])) [] 0, .c (.v (.tuple #[(.agg #[(.int .i64 (i38)), (.int .i64 (i39))]), (.int .i64 (i40))])) [] 0] (by kernel_rfl) (cj h0 (cj h1 (cj h1 (cj h2 (cj h1 (cj h1 (cj h3 (cj h4 (cj h5 (cj h6 (cj h7 (cj h8 (cj h9 (cj h10 (cj h11 cj0)))))))))))))))
theorem rmul_4 (u x v y : Int) (b0 : Bool) (b1 : Bool) (i2 : Int) (i3 : Int) (i4 : Int) (i5 : Int) (i6 : Int) (i7 : Int) (b8 : Bool) (i9 : Int) (i10 : Int) (i11 : Int) (i12 : Int) (i13 : Int) (i14 : Int) (b15 : Bool) (i16 : Int) (i17 : Int) (i18 : Int) (i19 : Int) (i20 : Int) (i21 : Int) (b22 : Bool) (i23 : Int) (i24 : Int) (i25 : Int) (h0 : Does cE 155 [] 0 [.v (.agg #[(.int .i64 (u)), (.int .i64 (x))])] (.v (.bool (b0))) [] 0) (h1 : (!b0) = false) (h2 : Does cE 155 [] 0 [.v (.agg #[(.int .i64 (v)), (.int .i64 (y))])] (.v (.bool (b1))) [] 0) (h3 : (!b1) = false) (h4 : Does cE 159 [] 0 [.v (.int .i64 (u))] (.v (.agg #[(.int .u64 (i2)), (.int .u64 (i3)), (.int .u64 (i4)), (.int .u64 (i5)), (.int .u64 (i6)), (.int .u64 (i7)), (.bool (b8))])) [] 0) (h5 : Does cE 159 [] 0 [.v (.int .i64 (v))] (.v (.agg #[(.int .u64 (i9)), (.int .u64 (i10)), (.int .u64 (i11)), (.int .u64 (i12)), (.int .u64 (i13)), (.int .u64 (i14)), (.bool (b15))])) [] 0) (h6 : Does cE 191 [] 0 [.v (.agg #[(.int .u64 (i2)), (.int .u64 (i3)), (.int .u64 (i4)), (.int .u64 (i5)), (.int .u64 (i6)), (.int .u64 (i7)), (.bool (b8))]), .v (.agg #[(.int .u64 (i9)), (.int .u64 (i10)), (.int .u64 (i11)), (.int .u64 (i12)), (.int .u64 (i13)), (.int .u64 (i14)), (.bool (b15))])] (.v (.agg #[(.int .u64 (i16)), (.int .u64 (i17)), (.int .u64 (i18)), (.int .u64 (i19)), (.int .u64 (i20)), (.int .u64 (i21)), (.bool (b22))])) [] 0) (h7 : decide (IntKind.i64.wrap (x + y) > 6) = false) (h8 : Does cE 156 [] 0 [.v (.agg #[(.int .u64 (i16)), (.int .u64 (i17)), (.int .u64 (i18)), (.int .u64 (i19)), (.int .u64 (i20)), (.int .u64 (i21)), (.bool (!decide (u < 0) == decide (v < 0)))]), .v (.int .i64 (IntKind.i64.wrap (x + y)))] (.v (.tuple #[(.agg #[(.int .i64 (i23)), (.int .i64 (i24))]), (.int .i64 (i25))])) [] 0) : Does cE 234 [] 0 [.v (dc u x), .v (dc v y)] (.v (.tuple #[(.agg #[(.int .i64 (i23)), (.int .i64 (i24))]), (.int .i64 (i25))])) [] 0 :=
  does_path (ct := ct) ctOk mixed (fn := Tryz.f234) rfl (by kernel_rfl) 2000 [.c (.v (.bool (b0))) [] 0, .f, .f, .c (.v (.bool (b1))) [] 0, .f, .f, .f, .c (.v (.agg #[(.int .u64 (i2)), (.int .u64 (i3)), (.int .u64 (i4)), (.int .u64 (i5)), (.int .u64 (i6)), (.int .u64 (i7)), (.bool (b8))])) [] 0, .c (.v (.agg #[(.int .u64 (i9)), (.int .u64 (i10)), (.int .u64 (i11)), (.int .u64 (i12)), (.int .u64 (i13)), (.int .u64 (i14)), (.bool (b15))])) [] 0, .c (.v (.agg #[(.int .u64 (i16)), (.int .u64 (i17)), (.int .u64 (i18)), (.int .u64 (i19)), (.int .u64 (i20)), (.int .u64 (i21)), (.bool (b22))])) [] 0, .f, .c (.v (.tuple #[(.agg #[(.int .i64 (i23)), (.int .i64 (i24))]), (.int .i64 (i25))])) [] 0] (by kernel_rfl) (cj h0 (cj h1 (cj h1 (cj h2 (cj h1 (cj h1 (cj h3 (cj h4 (cj h5 (cj h6 (cj h7 (cj h8 cj0))))))))))))
theorem rdiv_1 (u x v y sc : Int) (b0 : Bool) (h0 : Does cE 155 [] 0 [.v (.agg #[(.int .i64 (u)), (.int .i64 (x))])] (.v (.bool (b0))) [] 0) (h1 : (!b0) = true) : Does cE 235 [] 0 [.v (dc u x), .v (dc v y), .v (it sc)] (.v (.tuple #[(.agg #[(.int .i64 (0)), (.int .i64 (0))]), (.int .i64 (1))])) [] 0 :=
  does_path (ct := ct) ctOk mixed (fn := Tryz.f235) rfl (by kernel_rfl) 2000 [.c (.v (.bool (b0))) [] 0, .t, .t, .t, .t, .l, .l, .l, .l, .l, .l, .l] (by kernel_rfl) (cj h0 (cj h1 (cj h1 (cj h1 (cj h1 cj0)))))
theorem rdiv_2 (u x v y sc : Int) (b0 : Bool) (b1 : Bool) (h0 : Does cE 155 [] 0 [.v (.agg #[(.int .i64 (u)), (.int .i64 (x))])] (.v (.bool (b0))) [] 0) (h1 : (!b0) = false) (h2 : Does cE 155 [] 0 [.v (.agg #[(.int .i64 (v)), (.int .i64 (y))])] (.v (.bool (b1))) [] 0) (h3 : (!b1) = true) : Does cE 235 [] 0 [.v (dc u x), .v (dc v y), .v (it sc)] (.v (.tuple #[(.agg #[(.int .i64 (0)), (.int .i64 (0))]), (.int .i64 (1))])) [] 0 :=
  does_path (ct := ct) ctOk mixed (fn := Tryz.f235) rfl (by kernel_rfl) 2000 [.c (.v (.bool (b0))) [] 0, .f, .f, .c (.v (.bool (b1))) [] 0, .f, .f, .t, .t, .t, .l, .l, .l, .l] (by kernel_rfl) (cj h0 (cj h1 (cj h1 (cj h2 (cj h1 (cj h1 (cj h3 (cj h3 (cj h3 cj0)))))))))
theorem rdiv_3 (u x v y sc : Int) (b0 : Bool) (b1 : Bool) (h0 : Does cE 155 [] 0 [.v (.agg #[(.int .i64 (u)), (.int .i64 (x))])] (.v (.bool (b0))) [] 0) (h1 : (!b0) = false) (h2 : Does cE 155 [] 0 [.v (.agg #[(.int .i64 (v)), (.int .i64 (y))])] (.v (.bool (b1))) [] 0) (h3 : (!b1) = false) (h4 : decide (sc < 0) = true) : Does cE 235 [] 0 [.v (dc u x), .v (dc v y), .v (it sc)] (.v (.tuple #[(.agg #[(.int .i64 (0)), (.int .i64 (0))]), (.int .i64 (1))])) [] 0 :=
  does_path (ct := ct) ctOk mixed (fn := Tryz.f235) rfl (by kernel_rfl) 2000 [.c (.v (.bool (b0))) [] 0, .f, .f, .c (.v (.bool (b1))) [] 0, .f, .f, .f, .f, .f, .t, .t, .t, .l] (by kernel_rfl) (cj h0 (cj h1 (cj h1 (cj h2 (cj h1 (cj h1 (cj h3 (cj h3 (cj h3 (cj h4 (cj h4 (cj h4 cj0))))))))))))
theorem rdiv_4 (u x v y sc : Int) (b0 : Bool) (b1 : Bool) (h0 : Does cE 155 [] 0 [.v (.agg #[(.int .i64 (u)), (.int .i64 (x))])] (.v (.bool (b0))) [] 0) (h1 : (!b0) = false) (h2 : Does cE 155 [] 0 [.v (.agg #[(.int .i64 (v)), (.int .i64 (y))])] (.v (.bool (b1))) [] 0) (h3 : (!b1) = false) (h4 : decide (sc < 0) = false) (h5 : decide (sc > 6) = true) : Does cE 235 [] 0 [.v (dc u x), .v (dc v y), .v (it sc)] (.v (.tuple #[(.agg #[(.int .i64 (0)), (.int .i64 (0))]), (.int .i64 (1))])) [] 0 :=
  does_path (ct := ct) ctOk mixed (fn := Tryz.f235) rfl (by kernel_rfl) 2000 [.c (.v (.bool (b0))) [] 0, .f, .f, .c (.v (.bool (b1))) [] 0, .f, .f, .f, .f, .f, .f, .f, .f, .t] (by kernel_rfl) (cj h0 (cj h1 (cj h1 (cj h2 (cj h1 (cj h1 (cj h3 (cj h3 (cj h3 (cj h4 (cj h4 (cj h4 (cj h5 cj0)))))))))))))
theorem rdiv_5 (u x v y sc : Int) (b0 : Bool) (b1 : Bool) (h0 : Does cE 155 [] 0 [.v (.agg #[(.int .i64 (u)), (.int .i64 (x))])] (.v (.bool (b0))) [] 0) (h1 : (!b0) = false) (h2 : Does cE 155 [] 0 [.v (.agg #[(.int .i64 (v)), (.int .i64 (y))])] (.v (.bool (b1))) [] 0) (h3 : (!b1) = false) (h4 : decide (sc < 0) = false) (h5 : decide (sc > 6) = false) (h6 : (v == 0) = true) : Does cE 235 [] 0 [.v (dc u x), .v (dc v y), .v (it sc)] (.v (.tuple #[(.agg #[(.int .i64 (0)), (.int .i64 (0))]), (.int .i64 (33))])) [] 0 :=
  does_path (ct := ct) ctOk mixed (fn := Tryz.f235) rfl (by kernel_rfl) 2000 [.c (.v (.bool (b0))) [] 0, .f, .f, .c (.v (.bool (b1))) [] 0, .f, .f, .f, .f, .f, .f, .f, .f, .f, .t] (by kernel_rfl) (cj h0 (cj h1 (cj h1 (cj h2 (cj h1 (cj h1 (cj h3 (cj h3 (cj h3 (cj h4 (cj h4 (cj h4 (cj h5 (cj h6 cj0))))))))))))))
theorem rdiv_6 (u x v y sc : Int) (b0 : Bool) (b1 : Bool) (i2 : Int) (i3 : Int) (i4 : Int) (i5 : Int) (i6 : Int) (i7 : Int) (b8 : Bool) (i9 : Int) (i10 : Int) (i11 : Int) (i12 : Int) (i13 : Int) (i14 : Int) (i15 : Int) (b16 : Bool) (i17 : Int) (i18 : Int) (i19 : Int) (i20 : Int) (i21 : Int) (i22 : Int) (b23 : Bool) (i24 : Int) (i25 : Int) (i26 : Int) (i27 : Int) (i28 : Int) (i29 : Int) (b30 : Bool) (i31 : Int) (i32 : Int) (i33 : Int) (i34 : Int) (i35 : Int) (i36 : Int) (i37 : Int) (b38 : Bool) (i39 : Int) (i40 : Int) (i41 : Int) (i42 : Int) (i43 : Int) (i44 : Int) (b45 : Bool) (i46 : Int) (i47 : Int) (i48 : Int) (i49 : Int) (i50 : Int) (i51 : Int) (b52 : Bool) (i53 : Int) (i54 : Int) (i55 : Int) (h0 : Does cE 155 [] 0 [.v (.agg #[(.int .i64 (u)), (.int .i64 (x))])] (.v (.bool (b0))) [] 0) (h1 : (!b0) = false) (h2 : Does cE 155 [] 0 [.v (.agg #[(.int .i64 (v)), (.int .i64 (y))])] (.v (.bool (b1))) [] 0) (h3 : (!b1) = false) (h4 : decide (sc < 0) = false) (h5 : decide (sc > 6) = false) (h6 : (v == 0) = false) (h7 : Does cE 159 [] 0 [.v (.int .i64 (u))] (.v (.agg #[(.int .u64 (i2)), (.int .u64 (i3)), (.int .u64 (i4)), (.int .u64 (i5)), (.int .u64 (i6)), (.int .u64 (i7)), (.bool (b8))])) [] 0) (h8 : Does cE 146 [] 0 [.v (.int .i64 (IntKind.i64.wrap (y + sc)))] (.v (.int .i64 (i9))) [] 0) (h9 : Does cE 159 [] 0 [.v (.int .i64 (i9))] (.v (.agg #[(.int .u64 (i10)), (.int .u64 (i11)), (.int .u64 (i12)), (.int .u64 (i13)), (.int .u64 (i14)), (.int .u64 (i15)), (.bool (b16))])) [] 0) (h10 : Does cE 191 [] 0 [.v (.agg #[(.int .u64 (i2)), (.int .u64 (i3)), (.int .u64 (i4)), (.int .u64 (i5)), (.int .u64 (i6)), (.int .u64 (i7)), (.bool (b8))]), .v (.agg #[(.int .u64 (i10)), (.int .u64 (i11)), (.int .u64 (i12)), (.int .u64 (i13)), (.int .u64 (i14)), (.int .u64 (i15)), (.bool (b16))])] (.v (.agg #[(.int .u64 (i17)), (.int .u64 (i18)), (.int .u64 (i19)), (.int .u64 (i20)), (.int .u64 (i21)), (.int .u64 (i22)), (.bool (b23))])) [] 0) (h11 : Does cE 159 [] 0 [.v (.int .i64 (v))] (.v (.agg #[(.int .u64 (i24)), (.int .u64 (i25)), (.int .u64 (i26)), (.int .u64 (i27)), (.int .u64 (i28)), (.int .u64 (i29)), (.bool (b30))])) [] 0) (h12 : Does cE 146 [] 0 [.v (.int .i64 (x))] (.v (.int .i64 (i31))) [] 0) (h13 : Does cE 159 [] 0 [.v (.int .i64 (i31))] (.v (.agg #[(.int .u64 (i32)), (.int .u64 (i33)), (.int .u64 (i34)), (.int .u64 (i35)), (.int .u64 (i36)), (.int .u64 (i37)), (.bool (b38))])) [] 0) (h14 : Does cE 191 [] 0 [.v (.agg #[(.int .u64 (i24)), (.int .u64 (i25)), (.int .u64 (i26)), (.int .u64 (i27)), (.int .u64 (i28)), (.int .u64 (i29)), (.bool (b30))]), .v (.agg #[(.int .u64 (i32)), (.int .u64 (i33)), (.int .u64 (i34)), (.int .u64 (i35)), (.int .u64 (i36)), (.int .u64 (i37)), (.bool (b38))])] (.v (.agg #[(.int .u64 (i39)), (.int .u64 (i40)), (.int .u64 (i41)), (.int .u64 (i42)), (.int .u64 (i43)), (.int .u64 (i44)), (.bool (b45))])) [] 0) (h15 : Does cE 158 [] 0 [.v (.agg #[(.int .u64 (i17)), (.int .u64 (i18)), (.int .u64 (i19)), (.int .u64 (i20)), (.int .u64 (i21)), (.int .u64 (i22)), (.bool (!decide (u < 0) == decide (v < 0)))]), .v (.agg #[(.int .u64 (i39)), (.int .u64 (i40)), (.int .u64 (i41)), (.int .u64 (i42)), (.int .u64 (i43)), (.int .u64 (i44)), (.bool (b45))])] (.v (.agg #[(.int .u64 (i46)), (.int .u64 (i47)), (.int .u64 (i48)), (.int .u64 (i49)), (.int .u64 (i50)), (.int .u64 (i51)), (.bool (b52))])) [] 0) (h16 : Does cE 156 [] 0 [.v (.agg #[(.int .u64 (i46)), (.int .u64 (i47)), (.int .u64 (i48)), (.int .u64 (i49)), (.int .u64 (i50)), (.int .u64 (i51)), (.bool (b52))]), .v (.int .i64 (sc))] (.v (.tuple #[(.agg #[(.int .i64 (i53)), (.int .i64 (i54))]), (.int .i64 (i55))])) [] 0) : Does cE 235 [] 0 [.v (dc u x), .v (dc v y), .v (it sc)] (.v (.tuple #[(.agg #[(.int .i64 (i53)), (.int .i64 (i54))]), (.int .i64 (i55))])) [] 0 :=
  does_path (ct := ct) ctOk mixed (fn := Tryz.f235) rfl (by kernel_rfl) 2000 [.c (.v (.bool (b0))) [] 0, .f, .f, .c (.v (.bool (b1))) [] 0, .f, .f, .f, .f, .f, .f, .f, .f, .f, .f, .c (.v (.agg #[(.int .u64 (i2)), (.int .u64 (i3)), (.int .u64 (i4)), (.int .u64 (i5)), (.int .u64 (i6)), (.int .u64 (i7)), (.bool (b8))])) [] 0, .c (.v (.int .i64 (i9))) [] 0, .c (.v (.agg #[(.int .u64 (i10)), (.int .u64 (i11)), (.int .u64 (i12)), (.int .u64 (i13)), (.int .u64 (i14)), (.int .u64 (i15)), (.bool (b16))])) [] 0, .c (.v (.agg #[(.int .u64 (i17)), (.int .u64 (i18)), (.int .u64 (i19)), (.int .u64 (i20)), (.int .u64 (i21)), (.int .u64 (i22)), (.bool (b23))])) [] 0, .c (.v (.agg #[(.int .u64 (i24)), (.int .u64 (i25)), (.int .u64 (i26)), (.int .u64 (i27)), (.int .u64 (i28)), (.int .u64 (i29)), (.bool (b30))])) [] 0, .c (.v (.int .i64 (i31))) [] 0, .c (.v (.agg #[(.int .u64 (i32)), (.int .u64 (i33)), (.int .u64 (i34)), (.int .u64 (i35)), (.int .u64 (i36)), (.int .u64 (i37)), (.bool (b38))])) [] 0, .c (.v (.agg #[(.int .u64 (i39)), (.int .u64 (i40)), (.int .u64 (i41)), (.int .u64 (i42)), (.int .u64 (i43)), (.int .u64 (i44)), (.bool (b45))])) [] 0, .c (.v (.agg #[(.int .u64 (i46)), (.int .u64 (i47)), (.int .u64 (i48)), (.int .u64 (i49)), (.int .u64 (i50)), (.int .u64 (i51)), (.bool (b52))])) [] 0, .c (.v (.tuple #[(.agg #[(.int .i64 (i53)), (.int .i64 (i54))]), (.int .i64 (i55))])) [] 0] (by kernel_rfl) (cj h0 (cj h1 (cj h1 (cj h2 (cj h1 (cj h1 (cj h3 (cj h3 (cj h3 (cj h4 (cj h4 (cj h4 (cj h5 (cj h6 (cj h7 (cj h8 (cj h9 (cj h10 (cj h11 (cj h12 (cj h13 (cj h14 (cj h15 (cj h16 cj0))))))))))))))))))))))))
theorem rcmp_1 (u x v y : Int) (b0 : Bool) (h0 : Does cE 155 [] 0 [.v (.agg #[(.int .i64 (u)), (.int .i64 (x))])] (.v (.bool (b0))) [] 0) (h1 : (!b0) = true) : Does cE 100 [] 0 [.v (dc u x), .v (dc v y)] (.v (.int .i64 (0))) [] 0 :=
  does_path (ct := ct) ctOk mixed (fn := Tryz.f100) rfl (by kernel_rfl) 2000 [.c (.v (.bool (b0))) [] 0, .t, .t, .t, .t, .l] (by kernel_rfl) (cj h0 (cj h1 (cj h1 (cj h1 (cj h1 cj0)))))
theorem rcmp_2 (u x v y : Int) (b0 : Bool) (b1 : Bool) (h0 : Does cE 155 [] 0 [.v (.agg #[(.int .i64 (u)), (.int .i64 (x))])] (.v (.bool (b0))) [] 0) (h1 : (!b0) = false) (h2 : Does cE 155 [] 0 [.v (.agg #[(.int .i64 (v)), (.int .i64 (y))])] (.v (.bool (b1))) [] 0) (h3 : (!b1) = true) : Does cE 100 [] 0 [.v (dc u x), .v (dc v y)] (.v (.int .i64 (0))) [] 0 :=
  does_path (ct := ct) ctOk mixed (fn := Tryz.f100) rfl (by kernel_rfl) 2000 [.c (.v (.bool (b0))) [] 0, .f, .f, .c (.v (.bool (b1))) [] 0, .f, .f, .t] (by kernel_rfl) (cj h0 (cj h1 (cj h1 (cj h2 (cj h1 (cj h1 (cj h3 cj0)))))))
theorem rcmp_3 (u x v y : Int) (b0 : Bool) (b1 : Bool) (i2 : Int) (i3 : Int) (i4 : Int) (i5 : Int) (i6 : Int) (i7 : Int) (b8 : Bool) (i9 : Int) (i10 : Int) (i11 : Int) (i12 : Int) (i13 : Int) (i14 : Int) (b15 : Bool) (i16 : Int) (i17 : Int) (i18 : Int) (i19 : Int) (i20 : Int) (i21 : Int) (b22 : Bool) (b23 : Bool) (h0 : Does cE 155 [] 0 [.v (.agg #[(.int .i64 (u)), (.int .i64 (x))])] (.v (.bool (b0))) [] 0) (h1 : (!b0) = false) (h2 : Does cE 155 [] 0 [.v (.agg #[(.int .i64 (v)), (.int .i64 (y))])] (.v (.bool (b1))) [] 0) (h3 : (!b1) = false) (h4 : Does cE 157 [] 0 [.v (.agg #[(.int .i64 (v)), (.int .i64 (y))]), .v (.int .i64 (6))] (.v (.agg #[(.int .u64 (i2)), (.int .u64 (i3)), (.int .u64 (i4)), (.int .u64 (i5)), (.int .u64 (i6)), (.int .u64 (i7)), (.bool (b8))])) [] 0) (h5 : Does cE 157 [] 0 [.v (.agg #[(.int .i64 (u)), (.int .i64 (x))]), .v (.int .i64 (6))] (.v (.agg #[(.int .u64 (i9)), (.int .u64 (i10)), (.int .u64 (i11)), (.int .u64 (i12)), (.int .u64 (i13)), (.int .u64 (i14)), (.bool (b15))])) [] 0) (h6 : Does cE 179 [] 0 [.v (.agg #[(.int .u64 (i9)), (.int .u64 (i10)), (.int .u64 (i11)), (.int .u64 (i12)), (.int .u64 (i13)), (.int .u64 (i14)), (.bool (b15))]), .v (.agg #[(.int .u64 (i2)), (.int .u64 (i3)), (.int .u64 (i4)), (.int .u64 (i5)), (.int .u64 (i6)), (.int .u64 (i7)), (.bool (!b8))])] (.v (.agg #[(.int .u64 (i16)), (.int .u64 (i17)), (.int .u64 (i18)), (.int .u64 (i19)), (.int .u64 (i20)), (.int .u64 (i21)), (.bool (b22))])) [] 0) (h7 : Does cE 180 [] 0 [.v (.agg #[(.int .u64 (i16)), (.int .u64 (i17)), (.int .u64 (i18)), (.int .u64 (i19)), (.int .u64 (i20)), (.int .u64 (i21)), (.bool (b22))])] (.v (.bool (b23))) [] 0) (h8 : b23 = true) : Does cE 100 [] 0 [.v (dc u x), .v (dc v y)] (.v (.int .i64 (0))) [] 0 :=
  does_path (ct := ct) ctOk mixed (fn := Tryz.f100) rfl (by kernel_rfl) 2000 [.c (.v (.bool (b0))) [] 0, .f, .f, .c (.v (.bool (b1))) [] 0, .f, .f, .f, .c (.v (.agg #[(.int .u64 (i2)), (.int .u64 (i3)), (.int .u64 (i4)), (.int .u64 (i5)), (.int .u64 (i6)), (.int .u64 (i7)), (.bool (b8))])) [] 0, .c (.v (.agg #[(.int .u64 (i9)), (.int .u64 (i10)), (.int .u64 (i11)), (.int .u64 (i12)), (.int .u64 (i13)), (.int .u64 (i14)), (.bool (b15))])) [] 0, .c (.v (.agg #[(.int .u64 (i16)), (.int .u64 (i17)), (.int .u64 (i18)), (.int .u64 (i19)), (.int .u64 (i20)), (.int .u64 (i21)), (.bool (b22))])) [] 0, .c (.v (.bool (b23))) [] 0, .t] (by kernel_rfl) (cj h0 (cj h1 (cj h1 (cj h2 (cj h1 (cj h1 (cj h3 (cj h4 (cj h5 (cj h6 (cj h7 (cj h8 cj0))))))))))))
theorem rcmp_4 (u x v y : Int) (b0 : Bool) (b1 : Bool) (i2 : Int) (i3 : Int) (i4 : Int) (i5 : Int) (i6 : Int) (i7 : Int) (b8 : Bool) (i9 : Int) (i10 : Int) (i11 : Int) (i12 : Int) (i13 : Int) (i14 : Int) (b15 : Bool) (i16 : Int) (i17 : Int) (i18 : Int) (i19 : Int) (i20 : Int) (i21 : Int) (b22 : Bool) (b23 : Bool) (h0 : Does cE 155 [] 0 [.v (.agg #[(.int .i64 (u)), (.int .i64 (x))])] (.v (.bool (b0))) [] 0) (h1 : (!b0) = false) (h2 : Does cE 155 [] 0 [.v (.agg #[(.int .i64 (v)), (.int .i64 (y))])] (.v (.bool (b1))) [] 0) (h3 : (!b1) = false) (h4 : Does cE 157 [] 0 [.v (.agg #[(.int .i64 (v)), (.int .i64 (y))]), .v (.int .i64 (6))] (.v (.agg #[(.int .u64 (i2)), (.int .u64 (i3)), (.int .u64 (i4)), (.int .u64 (i5)), (.int .u64 (i6)), (.int .u64 (i7)), (.bool (b8))])) [] 0) (h5 : Does cE 157 [] 0 [.v (.agg #[(.int .i64 (u)), (.int .i64 (x))]), .v (.int .i64 (6))] (.v (.agg #[(.int .u64 (i9)), (.int .u64 (i10)), (.int .u64 (i11)), (.int .u64 (i12)), (.int .u64 (i13)), (.int .u64 (i14)), (.bool (b15))])) [] 0) (h6 : Does cE 179 [] 0 [.v (.agg #[(.int .u64 (i9)), (.int .u64 (i10)), (.int .u64 (i11)), (.int .u64 (i12)), (.int .u64 (i13)), (.int .u64 (i14)), (.bool (b15))]), .v (.agg #[(.int .u64 (i2)), (.int .u64 (i3)), (.int .u64 (i4)), (.int .u64 (i5)), (.int .u64 (i6)), (.int .u64 (i7)), (.bool (!b8))])] (.v (.agg #[(.int .u64 (i16)), (.int .u64 (i17)), (.int .u64 (i18)), (.int .u64 (i19)), (.int .u64 (i20)), (.int .u64 (i21)), (.bool (b22))])) [] 0) (h7 : Does cE 180 [] 0 [.v (.agg #[(.int .u64 (i16)), (.int .u64 (i17)), (.int .u64 (i18)), (.int .u64 (i19)), (.int .u64 (i20)), (.int .u64 (i21)), (.bool (b22))])] (.v (.bool (b23))) [] 0) (h8 : b23 = false) (h9 : b22 = true) : Does cE 100 [] 0 [.v (dc u x), .v (dc v y)] (.v (.int .i64 (-1))) [] 0 :=
  does_path (ct := ct) ctOk mixed (fn := Tryz.f100) rfl (by kernel_rfl) 2000 [.c (.v (.bool (b0))) [] 0, .f, .f, .c (.v (.bool (b1))) [] 0, .f, .f, .f, .c (.v (.agg #[(.int .u64 (i2)), (.int .u64 (i3)), (.int .u64 (i4)), (.int .u64 (i5)), (.int .u64 (i6)), (.int .u64 (i7)), (.bool (b8))])) [] 0, .c (.v (.agg #[(.int .u64 (i9)), (.int .u64 (i10)), (.int .u64 (i11)), (.int .u64 (i12)), (.int .u64 (i13)), (.int .u64 (i14)), (.bool (b15))])) [] 0, .c (.v (.agg #[(.int .u64 (i16)), (.int .u64 (i17)), (.int .u64 (i18)), (.int .u64 (i19)), (.int .u64 (i20)), (.int .u64 (i21)), (.bool (b22))])) [] 0, .c (.v (.bool (b23))) [] 0, .f, .t] (by kernel_rfl) (cj h0 (cj h1 (cj h1 (cj h2 (cj h1 (cj h1 (cj h3 (cj h4 (cj h5 (cj h6 (cj h7 (cj h8 (cj h9 cj0)))))))))))))
theorem rcmp_5 (u x v y : Int) (b0 : Bool) (b1 : Bool) (i2 : Int) (i3 : Int) (i4 : Int) (i5 : Int) (i6 : Int) (i7 : Int) (b8 : Bool) (i9 : Int) (i10 : Int) (i11 : Int) (i12 : Int) (i13 : Int) (i14 : Int) (b15 : Bool) (i16 : Int) (i17 : Int) (i18 : Int) (i19 : Int) (i20 : Int) (i21 : Int) (b22 : Bool) (b23 : Bool) (h0 : Does cE 155 [] 0 [.v (.agg #[(.int .i64 (u)), (.int .i64 (x))])] (.v (.bool (b0))) [] 0) (h1 : (!b0) = false) (h2 : Does cE 155 [] 0 [.v (.agg #[(.int .i64 (v)), (.int .i64 (y))])] (.v (.bool (b1))) [] 0) (h3 : (!b1) = false) (h4 : Does cE 157 [] 0 [.v (.agg #[(.int .i64 (v)), (.int .i64 (y))]), .v (.int .i64 (6))] (.v (.agg #[(.int .u64 (i2)), (.int .u64 (i3)), (.int .u64 (i4)), (.int .u64 (i5)), (.int .u64 (i6)), (.int .u64 (i7)), (.bool (b8))])) [] 0) (h5 : Does cE 157 [] 0 [.v (.agg #[(.int .i64 (u)), (.int .i64 (x))]), .v (.int .i64 (6))] (.v (.agg #[(.int .u64 (i9)), (.int .u64 (i10)), (.int .u64 (i11)), (.int .u64 (i12)), (.int .u64 (i13)), (.int .u64 (i14)), (.bool (b15))])) [] 0) (h6 : Does cE 179 [] 0 [.v (.agg #[(.int .u64 (i9)), (.int .u64 (i10)), (.int .u64 (i11)), (.int .u64 (i12)), (.int .u64 (i13)), (.int .u64 (i14)), (.bool (b15))]), .v (.agg #[(.int .u64 (i2)), (.int .u64 (i3)), (.int .u64 (i4)), (.int .u64 (i5)), (.int .u64 (i6)), (.int .u64 (i7)), (.bool (!b8))])] (.v (.agg #[(.int .u64 (i16)), (.int .u64 (i17)), (.int .u64 (i18)), (.int .u64 (i19)), (.int .u64 (i20)), (.int .u64 (i21)), (.bool (b22))])) [] 0) (h7 : Does cE 180 [] 0 [.v (.agg #[(.int .u64 (i16)), (.int .u64 (i17)), (.int .u64 (i18)), (.int .u64 (i19)), (.int .u64 (i20)), (.int .u64 (i21)), (.bool (b22))])] (.v (.bool (b23))) [] 0) (h8 : b23 = false) (h9 : b22 = false) : Does cE 100 [] 0 [.v (dc u x), .v (dc v y)] (.v (.int .i64 (1))) [] 0 :=
  does_path (ct := ct) ctOk mixed (fn := Tryz.f100) rfl (by kernel_rfl) 2000 [.c (.v (.bool (b0))) [] 0, .f, .f, .c (.v (.bool (b1))) [] 0, .f, .f, .f, .c (.v (.agg #[(.int .u64 (i2)), (.int .u64 (i3)), (.int .u64 (i4)), (.int .u64 (i5)), (.int .u64 (i6)), (.int .u64 (i7)), (.bool (b8))])) [] 0, .c (.v (.agg #[(.int .u64 (i9)), (.int .u64 (i10)), (.int .u64 (i11)), (.int .u64 (i12)), (.int .u64 (i13)), (.int .u64 (i14)), (.bool (b15))])) [] 0, .c (.v (.agg #[(.int .u64 (i16)), (.int .u64 (i17)), (.int .u64 (i18)), (.int .u64 (i19)), (.int .u64 (i20)), (.int .u64 (i21)), (.bool (b22))])) [] 0, .c (.v (.bool (b23))) [] 0, .f, .f] (by kernel_rfl) (cj h0 (cj h1 (cj h1 (cj h2 (cj h1 (cj h1 (cj h3 (cj h4 (cj h5 (cj h6 (cj h7 (cj h8 (cj h9 cj0)))))))))))))
theorem raddi_1 (u v : Int) (i0 : Int) (i1 : Int) (i2 : Int) (i3 : Int) (i4 : Int) (i5 : Int) (b6 : Bool) (i7 : Int) (i8 : Int) (i9 : Int) (i10 : Int) (i11 : Int) (i12 : Int) (b13 : Bool) (i14 : Int) (i15 : Int) (i16 : Int) (i17 : Int) (i18 : Int) (i19 : Int) (b20 : Bool) (i21 : Int) (i22 : Int) (i23 : Int) (h0 : Does cE 159 [] 0 [.v (.int .i64 (u))] (.v (.agg #[(.int .u64 (i0)), (.int .u64 (i1)), (.int .u64 (i2)), (.int .u64 (i3)), (.int .u64 (i4)), (.int .u64 (i5)), (.bool (b6))])) [] 0) (h1 : Does cE 159 [] 0 [.v (.int .i64 (v))] (.v (.agg #[(.int .u64 (i7)), (.int .u64 (i8)), (.int .u64 (i9)), (.int .u64 (i10)), (.int .u64 (i11)), (.int .u64 (i12)), (.bool (b13))])) [] 0) (h2 : Does cE 179 [] 0 [.v (.agg #[(.int .u64 (i0)), (.int .u64 (i1)), (.int .u64 (i2)), (.int .u64 (i3)), (.int .u64 (i4)), (.int .u64 (i5)), (.bool (b6))]), .v (.agg #[(.int .u64 (i7)), (.int .u64 (i8)), (.int .u64 (i9)), (.int .u64 (i10)), (.int .u64 (i11)), (.int .u64 (i12)), (.bool (b13))])] (.v (.agg #[(.int .u64 (i14)), (.int .u64 (i15)), (.int .u64 (i16)), (.int .u64 (i17)), (.int .u64 (i18)), (.int .u64 (i19)), (.bool (b20))])) [] 0) (h3 : Does cE 156 [] 0 [.v (.agg #[(.int .u64 (i14)), (.int .u64 (i15)), (.int .u64 (i16)), (.int .u64 (i17)), (.int .u64 (i18)), (.int .u64 (i19)), (.bool (b20))]), .v (.int .i64 (0))] (.v (.tuple #[(.agg #[(.int .i64 (i21)), (.int .i64 (i22))]), (.int .i64 (i23))])) [] 0) : Does cE 233 [] 0 [.v (it u), .v (it v)] (.v (.tuple #[(.int .i64 (i21)), (.int .i64 (i23))])) [] 0 :=
  does_path (ct := ct) ctOk mixed (fn := Tryz.f233) rfl (by kernel_rfl) 2000 [.c (.v (.agg #[(.int .u64 (i0)), (.int .u64 (i1)), (.int .u64 (i2)), (.int .u64 (i3)), (.int .u64 (i4)), (.int .u64 (i5)), (.bool (b6))])) [] 0, .c (.v (.agg #[(.int .u64 (i7)), (.int .u64 (i8)), (.int .u64 (i9)), (.int .u64 (i10)), (.int .u64 (i11)), (.int .u64 (i12)), (.bool (b13))])) [] 0, .c (.v (.agg #[(.int .u64 (i14)), (.int .u64 (i15)), (.int .u64 (i16)), (.int .u64 (i17)), (.int .u64 (i18)), (.int .u64 (i19)), (.bool (b20))])) [] 0, .c (.v (.tuple #[(.agg #[(.int .i64 (i21)), (.int .i64 (i22))]), (.int .i64 (i23))])) [] 0] (by kernel_rfl) (cj h0 (cj h1 (cj h2 (cj h3 cj0))))
theorem rmuli_1 (u v : Int) (i0 : Int) (i1 : Int) (i2 : Int) (i3 : Int) (i4 : Int) (i5 : Int) (b6 : Bool) (i7 : Int) (i8 : Int) (i9 : Int) (i10 : Int) (i11 : Int) (i12 : Int) (b13 : Bool) (i14 : Int) (i15 : Int) (i16 : Int) (i17 : Int) (i18 : Int) (i19 : Int) (b20 : Bool) (i21 : Int) (i22 : Int) (i23 : Int) (h0 : Does cE 159 [] 0 [.v (.int .i64 (u))] (.v (.agg #[(.int .u64 (i0)), (.int .u64 (i1)), (.int .u64 (i2)), (.int .u64 (i3)), (.int .u64 (i4)), (.int .u64 (i5)), (.bool (b6))])) [] 0) (h1 : Does cE 159 [] 0 [.v (.int .i64 (v))] (.v (.agg #[(.int .u64 (i7)), (.int .u64 (i8)), (.int .u64 (i9)), (.int .u64 (i10)), (.int .u64 (i11)), (.int .u64 (i12)), (.bool (b13))])) [] 0) (h2 : Does cE 191 [] 0 [.v (.agg #[(.int .u64 (i0)), (.int .u64 (i1)), (.int .u64 (i2)), (.int .u64 (i3)), (.int .u64 (i4)), (.int .u64 (i5)), (.bool (b6))]), .v (.agg #[(.int .u64 (i7)), (.int .u64 (i8)), (.int .u64 (i9)), (.int .u64 (i10)), (.int .u64 (i11)), (.int .u64 (i12)), (.bool (b13))])] (.v (.agg #[(.int .u64 (i14)), (.int .u64 (i15)), (.int .u64 (i16)), (.int .u64 (i17)), (.int .u64 (i18)), (.int .u64 (i19)), (.bool (b20))])) [] 0) (h3 : Does cE 156 [] 0 [.v (.agg #[(.int .u64 (i14)), (.int .u64 (i15)), (.int .u64 (i16)), (.int .u64 (i17)), (.int .u64 (i18)), (.int .u64 (i19)), (.bool (!decide (u < 0) == decide (v < 0)))]), .v (.int .i64 (0))] (.v (.tuple #[(.agg #[(.int .i64 (i21)), (.int .i64 (i22))]), (.int .i64 (i23))])) [] 0) : Does cE 232 [] 0 [.v (it u), .v (it v)] (.v (.tuple #[(.int .i64 (i21)), (.int .i64 (i23))])) [] 0 :=
  does_path (ct := ct) ctOk mixed (fn := Tryz.f232) rfl (by kernel_rfl) 2000 [.c (.v (.agg #[(.int .u64 (i0)), (.int .u64 (i1)), (.int .u64 (i2)), (.int .u64 (i3)), (.int .u64 (i4)), (.int .u64 (i5)), (.bool (b6))])) [] 0, .c (.v (.agg #[(.int .u64 (i7)), (.int .u64 (i8)), (.int .u64 (i9)), (.int .u64 (i10)), (.int .u64 (i11)), (.int .u64 (i12)), (.bool (b13))])) [] 0, .c (.v (.agg #[(.int .u64 (i14)), (.int .u64 (i15)), (.int .u64 (i16)), (.int .u64 (i17)), (.int .u64 (i18)), (.int .u64 (i19)), (.bool (b20))])) [] 0, .c (.v (.tuple #[(.agg #[(.int .i64 (i21)), (.int .i64 (i22))]), (.int .i64 (i23))])) [] 0] (by kernel_rfl) (cj h0 (cj h1 (cj h2 (cj h3 cj0))))
end Go.Proofs.YtnchjdhepakokaaGreatDoorC
/- What the reference's decimals come to: the same. -/
namespace Go.Proofs.YtnchjdhepakokaaGreatDoorC
open Go.Proofs Go.Proofs.YtnchjdhepakokaaGreatDoorSx
set_option maxRecDepth 100000
set_option linter.unusedVariables false
theorem rright_does (u x : Int) : Does cE 155 [] 0 [.v (dc u x)] (.v (.bool (decide (sc6 x)))) [] 0 := by
  by_cases h : x ≥ 0
  · have e : decide (sc6 x) = decide (x ≤ 6) := by rw [decide_eq_decide]; omega
    rw [e]
    exact rrt_1 u x (by simpa using h)
  · have e : decide (sc6 x) = false := decide_eq_false (by omega)
    rw [e]
    exact rrt_2 u x (by simpa using h)
theorem rscl_does {u x sc : Int} (hu : I64 u) (hx : I64 x) (h0 : 0 ≤ sc - x) (h1 : sc - x ≤ 12) : Does cE 157 [] 0 [.v (dc u x), .v (it sc)] (.v (W (ab u * p10 (sc - x)) (ng u))) [] 0 :=
  rscaled_does hu (sc - x).toNat (by omega) hx (by omega)
theorem pw_does {z : Int} (h0 : 0 ≤ z) (h1 : z ≤ 12) : Does cE 146 [] 0 [.v (it z)] (.v (it (p10 z))) [] 0 := by
  have := power_does z.toNat (by omega)
  rw [show ((z.toNat : Nat) : Int) = z by omega] at this
  exact this
theorem ofp_does {z : Int} (h1 : z ≤ 12) : Does cE 159 [] 0 [.v (it (p10 z))] (.v (W (p10 z) false)) [] 0 := by
  have hp := p10_le h1
  have ha := ab_spec (p10 z)
  have := rof_does (n := p10 z) (by omega)
  rw [show ab (p10 z) = p10 z by omega, show ng (p10 z) = false from decide_eq_false (by omega)] at this
  exact this
theorem rresc_does {u x sc : Int} (hu : I64 u) (hx : I64 x) (hs : I64 sc) : Does cE 78 [] 0 [.v (dc u x), .v (it sc)] (.v (ans (rescM u x sc))) [] 0 := by
  have hr := rright_does u x
  have hb := ab_bound hu
  unfold rescM
  by_cases hx6 : sc6 x
  · rw [decide_eq_true hx6] at hr
    by_cases h1 : sc < 0
    · rw [if_neg (by omega)]
      exact rresc_2 u x sc true hr rfl (by simpa using h1)
    · by_cases h2 : sc > 6
      · rw [if_neg (by omega)]
        exact rresc_3 u x sc true hr rfl (by simpa using h1) (by simpa using h2)
      · rw [if_pos (by omega)]
        by_cases hge : sc ≥ x
        · rw [if_pos hge]
          have hm := up_mul (z := sc - x) hu (by omega)
          exact rresc_4 (h0 := hr) (h1 := rfl) (h2 := by simpa using h1) (h3 := by simpa using h2) (h4 := by simpa using hge) (h5 := rscl_does hu hx (by omega) (by omega)) (h6 := rback_does hm.1 (by unfold big192; omega) _ _)
        · rw [if_neg hge]
          have hp := p10_le (z := x - sc) (by omega)
          have w : IntKind.i64.wrap (x - sc) = x - sc := wrap64 (by omega) (by omega)
          have hl := rnd_le hb.1 (y := p10 (x - sc)) (by omega)
          have hn := rnd_nonneg hb.1 (y := p10 (x - sc)) (by omega)
          exact rresc_5 (h0 := hr) (h1 := rfl) (h2 := by simpa using h1) (h3 := by simpa using h2) (h4 := by simpa using hge) (h5 := rof_does hu) (h6 := by rw [w]; exact pw_does (by omega) (by omega)) (h7 := ofp_does (by omega)) (h8 := rounded_does (by unfold big192; omega) (by omega) (by unfold big192; omega) (ng u) false) (h9 := rback_does hn (by unfold big192; omega) _ _)
  · rw [decide_eq_false hx6] at hr
    rw [if_neg (by omega)]
    exact rresc_1 u x sc false hr rfl
theorem rsum2_does {u x v y : Int} (hu : I64 u) (hx : I64 x) (hv : I64 v) (hy : I64 y) (hx6 : sc6 x) (hy6 : sc6 y) (t : Bool) :
    Does cE 157 [] 0 [.v (dc u x), .v (it (mx x y))] (.v (W (ab u * p10 (mx x y - x)) (ng u))) [] 0 ∧ Does cE 157 [] 0 [.v (dc v y), .v (it (mx x y))] (.v (W (ab v * p10 (mx x y - y)) (ng v))) [] 0 ∧
    Does cE 179 [] 0 [.v (W (ab u * p10 (mx x y - x)) (ng u)), .v (W (ab v * p10 (mx x y - y)) t)] (.v (W (addM (ab u * p10 (mx x y - x)) (ng u) (ab v * p10 (mx x y - y)) t).1 (addM (ab u * p10 (mx x y - x)) (ng u) (ab v * p10 (mx x y - y)) t).2)) [] 0 ∧
    Does cE 156 [] 0 [.v (W (addM (ab u * p10 (mx x y - x)) (ng u) (ab v * p10 (mx x y - y)) t).1 (addM (ab u * p10 (mx x y - x)) (ng u) (ab v * p10 (mx x y - y)) t).2), .v (it (mx x y))] (.v (ans (fitP (addM (ab u * p10 (mx x y - x)) (ng u) (ab v * p10 (mx x y - y)) t).1 (addM (ab u * p10 (mx x y - x)) (ng u) (ab v * p10 (mx x y - y)) t).2 (mx x y)))) [] 0 := by
  have hmx : mx x y ≤ 6 ∧ x ≤ mx x y ∧ y ≤ mx x y := by unfold mx; split <;> omega
  have m1 := up_mul (z := mx x y - x) hu (by omega)
  have m2 := up_mul (z := mx x y - y) hv (by omega)
  have hb := addM_bound (B := 0) m1.1 m2.1 (ng u) t
  exact ⟨rscl_does hu hx (by omega) (by omega), rscl_does hv hy (by omega) (by omega), rsum_does m1.1 m2.1 (by unfold big192; omega) _ _, rback_does hb.1 (by unfold big192; omega) _ _⟩
theorem radd_does {u x v y : Int} (hu : I64 u) (hx : I64 x) (hv : I64 v) (hy : I64 y) : Does cE 236 [] 0 [.v (dc u x), .v (dc v y)] (.v (ans (sumM u x v y false))) [] 0 := by
  have h1 := rright_does u x
  have h2 := rright_does v y
  unfold sumM
  by_cases hx6 : sc6 x
  · rw [decide_eq_true hx6] at h1
    by_cases hy6 : sc6 y
    · rw [decide_eq_true hy6] at h2
      rw [if_pos ⟨hx6, hy6⟩]
      obtain ⟨a1, a2, a3, a4⟩ := rsum2_does hu hx hv hy hx6 hy6 (ng v)
      have e : (ng v != false) = ng v := by simp
      rw [e]
      exact radd_3 (h0 := h1) (h1 := rfl) (h2 := h2) (h3 := rfl) (h4 := a1) (h5 := a2) (h6 := a3) (h7 := a4)
    · rw [decide_eq_false hy6] at h2
      rw [if_neg (by omega)]
      exact radd_2 u x v y true false h1 rfl h2 rfl
  · rw [decide_eq_false hx6] at h1
    rw [if_neg (by omega)]
    exact radd_1 u x v y false h1 rfl
theorem rsub_does {u x v y : Int} (hu : I64 u) (hx : I64 x) (hv : I64 v) (hy : I64 y) : Does cE 162 [] 0 [.v (dc u x), .v (dc v y)] (.v (ans (sumM u x v y true))) [] 0 := by
  have h1 := rright_does u x
  have h2 := rright_does v y
  unfold sumM
  by_cases hx6 : sc6 x
  · rw [decide_eq_true hx6] at h1
    by_cases hy6 : sc6 y
    · rw [decide_eq_true hy6] at h2
      rw [if_pos ⟨hx6, hy6⟩]
      obtain ⟨a1, a2, a3, a4⟩ := rsum2_does hu hx hv hy hx6 hy6 (!ng v)
      have e : (ng v != true) = !ng v := by simp
      rw [e]
      exact rsub_3 (h0 := h1) (h1 := rfl) (h2 := h2) (h3 := rfl) (h4 := a2) (h5 := a1) (h6 := a3) (h7 := a4)
    · rw [decide_eq_false hy6] at h2
      rw [if_neg (by omega)]
      exact rsub_2 u x v y true false h1 rfl h2 rfl
  · rw [decide_eq_false hx6] at h1
    rw [if_neg (by omega)]
    exact rsub_1 u x v y false h1 rfl
theorem rneg_does {u x : Int} (hu : I64 u) (hx : I64 x) : Does cE 88 [] 0 [.v (dc u x)] (.v (ans (sumM 0 x u x true))) [] 0 :=
  rneg_1 (h0 := rsub_does (by decide) hx hu hx)
theorem rmul_does {u x v y : Int} (hu : I64 u) (hx : I64 x) (hv : I64 v) (hy : I64 y) : Does cE 234 [] 0 [.v (dc u x), .v (dc v y)] (.v (ans (mulM u x v y))) [] 0 := by
  have h1 := rright_does u x
  have h2 := rright_does v y
  have hbu := ab_bound hu
  have hbv := ab_bound hv
  have hm := mul_small hbu hbv
  unfold mulM
  by_cases hx6 : sc6 x
  · rw [decide_eq_true hx6] at h1
    by_cases hy6 : sc6 y
    · rw [decide_eq_true hy6] at h2
      rw [if_pos ⟨hx6, hy6⟩]
      have ht := W_times (x := ab u) (y := ab v) (by unfold big192; omega) (by unfold big192; omega) (by unfold big192; omega) (ng u) (ng v)
      have w1 : IntKind.i64.wrap (x + y) = x + y := wrap64 (by omega) (by omega)
      have w2 : IntKind.i64.wrap (x + y - 6) = x + y - 6 := wrap64 (by omega) (by omega)
      by_cases h6 : x + y > 6
      · rw [if_pos h6]
        have hp := p10_le (z := x + y - 6) (by omega)
        have hl := rnd_le hm.1 (y := p10 (x + y - 6)) (by omega)
        have hn := rnd_nonneg hm.1 (y := p10 (x + y - 6)) (by omega)
        exact rmul_3 (h0 := h1) (h1 := rfl) (h2 := h2) (h3 := rfl) (h4 := rof_does hu) (h5 := rof_does hv) (h6 := ht) (h7 := by rw [w1]; simpa using h6) (h8 := by rw [w1, w2]; exact pw_does (by omega) (by omega)) (h9 := ofp_does (by omega))
          (h10 := rounded_does (by unfold big192; omega) (by omega) (by unfold big192; omega) (ng u != ng v) false) (h11 := rback_does hn (by unfold big192; omega) _ _)
      · rw [if_neg h6]
        have hback := rback_does hm.1 (by unfold big192; omega) (ng u != ng v) (x + y)
        exact rmul_4 (h0 := h1) (h1 := rfl) (h2 := h2) (h3 := rfl) (h4 := rof_does hu) (h5 := rof_does hv) (h6 := ht) (h7 := by rw [w1]; simpa using h6) (h8 := by rw [w1]; exact hback)
    · rw [decide_eq_false hy6] at h2
      rw [if_neg (by omega)]
      exact rmul_2 u x v y true false h1 rfl h2 rfl
  · rw [decide_eq_false hx6] at h1
    rw [if_neg (by omega)]
    exact rmul_1 u x v y false h1 rfl
theorem rdiv_does {u x v y sc : Int} (hu : I64 u) (hx : I64 x) (hv : I64 v) (hy : I64 y) (hs : I64 sc) : Does cE 235 [] 0 [.v (dc u x), .v (dc v y), .v (it sc)] (.v (ans (divM u x v y sc))) [] 0 := by
  have h1 := rright_does u x
  have h2 := rright_does v y
  have hbu := ab_bound hu
  have hbv := ab_bound hv
  unfold divM
  by_cases hx6 : sc6 x
  · rw [decide_eq_true hx6] at h1
    by_cases hy6 : sc6 y
    · rw [decide_eq_true hy6] at h2
      by_cases s1 : sc < 0
      · rw [if_neg (by omega)]
        exact rdiv_3 u x v y sc true true h1 rfl h2 rfl (by simpa using s1)
      · by_cases s2 : sc > 6
        · rw [if_neg (by omega)]
          exact rdiv_4 u x v y sc true true h1 rfl h2 rfl (by simpa using s1) (by simpa using s2)
        · rw [if_pos (by omega)]
          by_cases hv0 : v = 0
          · rw [if_pos hv0]
            exact rdiv_5 u x v y sc true true h1 rfl h2 rfl (by simpa using s1) (by simpa using s2) (by simpa using hv0)
          · rw [if_neg hv0]
            have w1 : IntKind.i64.wrap (y + sc) = y + sc := wrap64 (by omega) (by omega)
            have hp1 := p10_le (z := y + sc) (by omega)
            have hp2 := p10_le (z := x) (by omega)
            have m1 := up_mul (z := y + sc) hu (by omega)
            have m2 := up_mul (z := x) hv (by omega)
            have hpos : 0 < ab v * p10 x := Int.mul_pos (ab_pos hv0) (by omega)
            have hl := rnd_le m1.1 hpos
            have hn := rnd_nonneg m1.1 hpos
            have t1 := W_times (x := ab u) (y := p10 (y + sc)) (by unfold big192; omega) (by unfold big192; omega) (by unfold big192; omega) (ng u) false
            have t2 := W_times (x := ab v) (y := p10 x) (by unfold big192; omega) (by unfold big192; omega) (by unfold big192; omega) (ng v) false
            exact rdiv_6 (h0 := h1) (h1 := rfl) (h2 := h2) (h3 := rfl) (h4 := by simpa using s1) (h5 := by simpa using s2) (h6 := by simpa using hv0) (h7 := rof_does hu) (h8 := by rw [w1]; exact pw_does (by omega) (by omega)) (h9 := ofp_does (by omega)) (h10 := t1)
              (h11 := rof_does hv) (h12 := pw_does (by omega) (by omega)) (h13 := ofp_does (by omega)) (h14 := t2) (h15 := rounded_does (by unfold big192; omega) hpos (by unfold big192; omega) (ng u != ng v) false) (h16 := rback_does hn (by unfold big192; omega) _ _)
    · rw [decide_eq_false hy6] at h2
      rw [if_neg (by omega)]
      exact rdiv_2 u x v y sc true false h1 rfl h2 rfl
  · rw [decide_eq_false hx6] at h1
    rw [if_neg (by omega)]
    exact rdiv_1 u x v y sc false h1 rfl
theorem rcmp_does {u x v y : Int} (hu : I64 u) (hx : I64 x) (hv : I64 v) (hy : I64 y) : Does cE 100 [] 0 [.v (dc u x), .v (dc v y)] (.v (it (cmpM u x v y))) [] 0 := by
  have h1 := rright_does u x
  have h2 := rright_does v y
  unfold cmpM
  by_cases hx6 : sc6 x
  · rw [decide_eq_true hx6] at h1
    by_cases hy6 : sc6 y
    · rw [decide_eq_true hy6] at h2
      rw [if_pos ⟨hx6, hy6⟩]
      have m1 := up_mul (z := 6 - x) hu (by omega)
      have m2 := up_mul (z := 6 - y) hv (by omega)
      have hb := addM_bound (B := 0) m1.1 m2.1 (ng u) (!ng v)
      have hs := rsum_does m1.1 m2.1 (by unfold big192; omega) (ng u) (!ng v)
      have s1 := rscl_does (sc := 6) hu hx (by omega) (by omega)
      have s2 := rscl_does (sc := 6) hv hy (by omega) (by omega)
      generalize addM (ab u * p10 (6 - x)) (ng u) (ab v * p10 (6 - y)) (!ng v) = D at hb hs
      obtain ⟨d, e⟩ := D
      simp only at hb hs ⊢
      have hz := W_zero (x := d) (by unfold big192; omega) e
      by_cases h0 : d = 0
      · rw [if_pos h0]
        rw [decide_eq_true h0] at hz
        exact rcmp_3 (h0 := h1) (h1 := rfl) (h2 := h2) (h3 := rfl) (h4 := s2) (h5 := s1) (h6 := hs) (h7 := hz) (h8 := rfl)
      · rw [if_neg h0]
        rw [decide_eq_false h0] at hz
        cases e with
        | true => exact rcmp_4 (h0 := h1) (h1 := rfl) (h2 := h2) (h3 := rfl) (h4 := s2) (h5 := s1) (h6 := hs) (h7 := hz) (h8 := rfl) (h9 := rfl)
        | false => exact rcmp_5 (h0 := h1) (h1 := rfl) (h2 := h2) (h3 := rfl) (h4 := s2) (h5 := s1) (h6 := hs) (h7 := hz) (h8 := rfl) (h9 := rfl)
    · rw [decide_eq_false hy6] at h2
      rw [if_neg (by omega)]
      exact rcmp_2 u x v y true false h1 rfl h2 rfl
  · rw [decide_eq_false hx6] at h1
    rw [if_neg (by omega)]
    exact rcmp_1 u x v y false h1 rfl
theorem p10_zero : p10 0 = 1 := rfl
theorem sumM0 (u v : Int) : sumM u 0 v 0 false = fitP (addM (ab u) (ng u) (ab v) (ng v)).1 (addM (ab u) (ng u) (ab v) (ng v)).2 0 := by
  have e : (ng v != false) = ng v := by simp
  unfold sumM
  rw [if_pos (by decide), show mx 0 0 = 0 from rfl, show (0 : Int) - 0 = 0 from rfl, p10_zero, Int.mul_one, Int.mul_one, e]
theorem mulM0 (u v : Int) : mulM u 0 v 0 = fitP (ab u * ab v) (ng u != ng v) 0 := by
  unfold mulM
  rw [if_pos (by decide), if_neg (by decide)]
  rfl
theorem raddi_does {u v : Int} (hu : I64 u) (hv : I64 v) : Does cE 233 [] 0 [.v (it u), .v (it v)] (.v (.tuple #[it (sumM u 0 v 0 false).1, it (sumM u 0 v 0 false).2.2])) [] 0 := by
  have hbu := ab_bound hu
  have hbv := ab_bound hv
  have hb := addM_bound (B := 0) hbu.1 hbv.1 (ng u) (ng v)
  rw [sumM0]
  exact raddi_1 (h0 := rof_does hu) (h1 := rof_does hv) (h2 := rsum_does hbu.1 hbv.1 (by unfold big192; omega) _ _) (h3 := rback_does hb.1 (by unfold big192; omega) _ _)
theorem rmuli_does {u v : Int} (hu : I64 u) (hv : I64 v) : Does cE 232 [] 0 [.v (it u), .v (it v)] (.v (.tuple #[it (mulM u 0 v 0).1, it (mulM u 0 v 0).2.2])) [] 0 := by
  have hbu := ab_bound hu
  have hbv := ab_bound hv
  have hm := mul_small hbu hbv
  have ht := W_times (x := ab u) (y := ab v) (by unfold big192; omega) (by unfold big192; omega) (by unfold big192; omega) (ng u) (ng v)
  rw [mulM0]
  exact rmuli_1 (h0 := rof_does hu) (h1 := rof_does hv) (h2 := ht) (h3 := rback_does hm.1 (by unfold big192; omega) (ng u != ng v) 0)
end Go.Proofs.YtnchjdhepakokaaGreatDoorC
/- The order of values, and steps of two: what they come to. -/
namespace Go.Proofs.YtnchjdhepakokaaGreatDoorC
open Go.Proofs Go.Proofs.YtnchjdhepakokaaGreatDoorSx Go.Lib
set_option maxRecDepth 100000
set_option linter.unusedVariables false
theorem cmpi_does (x y : Int) : Does cE 121 [] 0 [.v (it x), .v (it y)] (.v (it (cmI x y))) [] 0 := by
  have h := pCmi_does x y
  have e : pCmi x y = it (cmI x y) := by unfold pCmi cmI; simp only [it_if]
  rw [e] at h
  exact h
def byF (k n m : Int) (s : ByteArray) (j p q : Int) (u : ByteArray) : Int := orL [cmI k j, cmI n p, cmI m q, compareBytes s.data.toList u.data.toList]
def cpV (k n m : Int) (s : ByteArray) (j p q : Int) (u : ByteArray) : Int :=
  bif !okV k n m s then byF k n m s j p q u else bif !okV j p q u then byF k n m s j p q u
  else bif (cmI (clsV k) (clsV j) != 0) then cmI (clsV k) (clsV j)
  else bif (clsV k == 2) then orL [cmpM n m p q, cmI k j, cmI m q]
  else byF k n m s j p q u
end Go.Proofs.YtnchjdhepakokaaGreatDoorC
/- The order of values, of the program and of the reference. Printed by a program (wip/tools); Lean checks each. -/
namespace Go.Proofs.YtnchjdhepakokaaGreatDoorC
open Go.Proofs Go.Proofs.YtnchjdhepakokaaGreatDoorSx Go.Lib
set_option maxRecDepth 100000
set_option linter.unusedVariables false
def pCo (k n m j p q : Int) (s u : ByteArray) : Value :=
  bif (!okV k n m s) then (.int .i64 (orL [cmI k j, cmI n p, cmI m q, Go.Lib.compareBytes s.data.toList u.data.toList]))
  else bif (!okV j p q u) then (.int .i64 (orL [cmI k j, cmI n p, cmI m q, Go.Lib.compareBytes s.data.toList u.data.toList]))
    else bif (cmI (clsV k) (clsV j) != 0) then (.int .i64 (cmI (clsV k) (clsV j)))
      else bif (clsV k == 2) then (.int .i64 (orL [cmpM n m p q, cmI k j, cmI m q]))
        else (.int .i64 (orL [cmI k j, cmI n p, cmI m q, Go.Lib.compareBytes s.data.toList u.data.toList]))
theorem pCo_does (k n m j p q : Int) (s u : ByteArray) (hn : I64 n) (hm : I64 m) (hs : s.size ≤ 140737488351232) (hp : I64 p) (hq : I64 q) (hu : u.size ≤ 140737488351232) : Does cE 48 [] 0 [.v (vl k n m s), .v (vl j p q u)] (.v (pCo k n m j p q s u)) [] 0 := by
  unfold pCo
  refine tbif (fun c1 => ?_) (fun c1 => ?_)
  · exact pth (fn := Tryz.f48) rfl (by kernel_rfl) [.c (.v (.int .i64 (cmI k j))) [] 0, .c (.v (.int .i64 (cmI n p))) [] 0, .c (.v (.int .i64 (cmI m q))) [] 0, .c (.v (.int .i64 (Go.Lib.compareBytes s.data.toList u.data.toList))) [] 0, .c (.v (.int .i64 (orL [cmI k j, cmI n p, cmI m q, Go.Lib.compareBytes s.data.toList u.data.toList]))) [] 1, .c (.v (.bool (okV k n m s))) [] 0, .t, .t, .t, .t, .l] (by kernel_rfl) (cj (cmpi_does (k) (j)) (cj (cmpi_does (n) (p)) (cj (cmpi_does (m) (q)) (cj (scmp_does (s) (u)) (cj (cor_nil ([cmI k j, cmI n p, cmI m q, Go.Lib.compareBytes s.data.toList u.data.toList]) (by simp)) (cj (right_does (k) (n) (m) (s) (by assumption)) (cj c1 (cj c1 (cj c1 (cj c1 cj0))))))))))
  · refine tbif (fun c2 => ?_) (fun c2 => ?_)
    · exact pth (fn := Tryz.f48) rfl (by kernel_rfl) [.c (.v (.int .i64 (cmI k j))) [] 0, .c (.v (.int .i64 (cmI n p))) [] 0, .c (.v (.int .i64 (cmI m q))) [] 0, .c (.v (.int .i64 (Go.Lib.compareBytes s.data.toList u.data.toList))) [] 0, .c (.v (.int .i64 (orL [cmI k j, cmI n p, cmI m q, Go.Lib.compareBytes s.data.toList u.data.toList]))) [] 1, .c (.v (.bool (okV k n m s))) [] 0, .f, .f, .c (.v (.bool (okV j p q u))) [] 0, .f, .f, .t] (by kernel_rfl) (cj (cmpi_does (k) (j)) (cj (cmpi_does (n) (p)) (cj (cmpi_does (m) (q)) (cj (scmp_does (s) (u)) (cj (cor_nil ([cmI k j, cmI n p, cmI m q, Go.Lib.compareBytes s.data.toList u.data.toList]) (by simp)) (cj (right_does (k) (n) (m) (s) (by assumption)) (cj c1 (cj c1 (cj (right_does (j) (p) (q) (u) (by assumption)) (cj c1 (cj c1 (cj c2 cj0))))))))))))
    · refine tbif (fun c3 => ?_) (fun c3 => ?_)
      · exact pth (fn := Tryz.f48) rfl (by kernel_rfl) [.c (.v (.int .i64 (cmI k j))) [] 0, .c (.v (.int .i64 (cmI n p))) [] 0, .c (.v (.int .i64 (cmI m q))) [] 0, .c (.v (.int .i64 (Go.Lib.compareBytes s.data.toList u.data.toList))) [] 0, .c (.v (.int .i64 (orL [cmI k j, cmI n p, cmI m q, Go.Lib.compareBytes s.data.toList u.data.toList]))) [] 1, .c (.v (.bool (okV k n m s))) [] 0, .f, .f, .c (.v (.bool (okV j p q u))) [] 0, .f, .f, .f, .c (.v (.int .i64 (clsV k))) [] 0, .c (.v (.int .i64 (clsV j))) [] 0, .c (.v (.int .i64 (cmI (clsV k) (clsV j)))) [] 0, .t] (by kernel_rfl) (cj (cmpi_does (k) (j)) (cj (cmpi_does (n) (p)) (cj (cmpi_does (m) (q)) (cj (scmp_does (s) (u)) (cj (cor_nil ([cmI k j, cmI n p, cmI m q, Go.Lib.compareBytes s.data.toList u.data.toList]) (by simp)) (cj (right_does (k) (n) (m) (s) (by assumption)) (cj c1 (cj c1 (cj (right_does (j) (p) (q) (u) (by assumption)) (cj c1 (cj c1 (cj c2 (cj (class_does (k) (n) (m) (s)) (cj (class_does (j) (p) (q) (u)) (cj (cmpi_does (clsV k) (clsV j)) (cj c3 cj0))))))))))))))))
      · refine tbif (fun c4 => ?_) (fun c4 => ?_)
        · exact pth (fn := Tryz.f48) rfl (by kernel_rfl) [.c (.v (.int .i64 (cmI k j))) [] 0, .c (.v (.int .i64 (cmI n p))) [] 0, .c (.v (.int .i64 (cmI m q))) [] 0, .c (.v (.int .i64 (Go.Lib.compareBytes s.data.toList u.data.toList))) [] 0, .c (.v (.int .i64 (orL [cmI k j, cmI n p, cmI m q, Go.Lib.compareBytes s.data.toList u.data.toList]))) [] 1, .c (.v (.bool (okV k n m s))) [] 0, .f, .f, .c (.v (.bool (okV j p q u))) [] 0, .f, .f, .f, .c (.v (.int .i64 (clsV k))) [] 0, .c (.v (.int .i64 (clsV j))) [] 0, .c (.v (.int .i64 (cmI (clsV k) (clsV j)))) [] 0, .f, .c (.v (.int .i64 (clsV k))) [] 0, .t, .c (.v (.agg #[(.int .i64 (n)), (.int .i64 (m))])) [] 0, .c (.v (.agg #[(.int .i64 (p)), (.int .i64 (q))])) [] 0, .c (.v (.int .i64 (cmpM n m p q))) [] 0, .c (.v (.int .i64 (cmI k j))) [] 0, .c (.v (.int .i64 (cmI m q))) [] 0, .c (.v (.int .i64 (orL [cmpM n m p q, cmI k j, cmI m q]))) [] 1] (by kernel_rfl) (cj (cmpi_does (k) (j)) (cj (cmpi_does (n) (p)) (cj (cmpi_does (m) (q)) (cj (scmp_does (s) (u)) (cj (cor_nil ([cmI k j, cmI n p, cmI m q, Go.Lib.compareBytes s.data.toList u.data.toList]) (by simp)) (cj (right_does (k) (n) (m) (s) (by assumption)) (cj c1 (cj c1 (cj (right_does (j) (p) (q) (u) (by assumption)) (cj c1 (cj c1 (cj c2 (cj (class_does (k) (n) (m) (s)) (cj (class_does (j) (p) (q) (u)) (cj (cmpi_does (clsV k) (clsV j)) (cj c3 (cj (class_does (k) (n) (m) (s)) (cj c4 (cj (ddec_does (k) (n) (m) (s)) (cj (ddec_does (j) (p) (q) (u)) (cj (pcmp_does (u := (n)) (x := (m)) (v := (p)) (y := (q)) (by assumption) (by assumption) (by assumption) (by assumption)) (cj (cmpi_does (k) (j)) (cj (cmpi_does (m) (q)) (cj (cor_nil ([cmpM n m p q, cmI k j, cmI m q]) (by simp)) cj0))))))))))))))))))))))))
        · exact pth (fn := Tryz.f48) rfl (by kernel_rfl) [.c (.v (.int .i64 (cmI k j))) [] 0, .c (.v (.int .i64 (cmI n p))) [] 0, .c (.v (.int .i64 (cmI m q))) [] 0, .c (.v (.int .i64 (Go.Lib.compareBytes s.data.toList u.data.toList))) [] 0, .c (.v (.int .i64 (orL [cmI k j, cmI n p, cmI m q, Go.Lib.compareBytes s.data.toList u.data.toList]))) [] 1, .c (.v (.bool (okV k n m s))) [] 0, .f, .f, .c (.v (.bool (okV j p q u))) [] 0, .f, .f, .f, .c (.v (.int .i64 (clsV k))) [] 0, .c (.v (.int .i64 (clsV j))) [] 0, .c (.v (.int .i64 (cmI (clsV k) (clsV j)))) [] 0, .f, .c (.v (.int .i64 (clsV k))) [] 0, .f] (by kernel_rfl) (cj (cmpi_does (k) (j)) (cj (cmpi_does (n) (p)) (cj (cmpi_does (m) (q)) (cj (scmp_does (s) (u)) (cj (cor_nil ([cmI k j, cmI n p, cmI m q, Go.Lib.compareBytes s.data.toList u.data.toList]) (by simp)) (cj (right_does (k) (n) (m) (s) (by assumption)) (cj c1 (cj c1 (cj (right_does (j) (p) (q) (u) (by assumption)) (cj c1 (cj c1 (cj c2 (cj (class_does (k) (n) (m) (s)) (cj (class_does (j) (p) (q) (u)) (cj (cmpi_does (clsV k) (clsV j)) (cj c3 (cj (class_does (k) (n) (m) (s)) (cj c4 cj0))))))))))))))))))
def rCo (k n m j p q : Int) (s u : ByteArray) : Value :=
  bif (!okV k n m s) then bif (Go.Op.bytesLess s.toList u.toList) then (.int .i64 (orL [cmI k j, cmI n p, cmI m q, -1]))
    else bif (!(Go.Op.bytesLess s.toList u.toList || s.toList == u.toList)) then (.int .i64 (orL [cmI k j, cmI n p, cmI m q, 1]))
      else (.int .i64 (orL [cmI k j, cmI n p, cmI m q, 0]))
  else bif (!okV j p q u) then bif (Go.Op.bytesLess s.toList u.toList) then (.int .i64 (orL [cmI k j, cmI n p, cmI m q, -1]))
      else bif (!(Go.Op.bytesLess s.toList u.toList || s.toList == u.toList)) then (.int .i64 (orL [cmI k j, cmI n p, cmI m q, 1]))
        else (.int .i64 (orL [cmI k j, cmI n p, cmI m q, 0]))
    else bif (clsV k != clsV j) then (.int .i64 (cmI (clsV k) (clsV j)))
      else bif (clsV k == 2) then (.int .i64 (orL [cmpM n m p q, cmI k j, cmI m q]))
        else bif (Go.Op.bytesLess s.toList u.toList) then (.int .i64 (orL [cmI n p, cmI m q, -1]))
          else bif (!(Go.Op.bytesLess s.toList u.toList || s.toList == u.toList)) then (.int .i64 (orL [cmI n p, cmI m q, 1]))
            else (.int .i64 (orL [cmI n p, cmI m q, 0]))
theorem rCo_does (k n m j p q : Int) (s u : ByteArray) (hn : I64 n) (hm : I64 m) (hs : s.size ≤ 140737488351232) (hp : I64 p) (hq : I64 q) (hu : u.size ≤ 140737488351232) : Does cE 50 [] 0 [.v (vl k n m s), .v (vl j p q u)] (.v (rCo k n m j p q s u)) [] 0 := by
  unfold rCo
  refine tbif (fun c1 => ?_) (fun c1 => ?_)
  · refine tbif (fun c2 => ?_) (fun c2 => ?_)
    · exact pth (fn := Tryz.f50) rfl (by kernel_rfl) [.c (.v (.bool (okV k n m s))) [] 0, .t, .t, .t, .t, .l, .t, .c (.v (.int .i64 (cmI k j))) [] 0, .c (.v (.int .i64 (cmI n p))) [] 0, .c (.v (.int .i64 (cmI m q))) [] 0, .c (.v (.int .i64 (orL [cmI k j, cmI n p, cmI m q, -1]))) [] 1] (by kernel_rfl) (cj (right4_does (k) (n) (m) (s) (by assumption)) (cj c1 (cj c1 (cj c1 (cj c1 (cj c2 (cj (rcmi_does (k) (j)) (cj (rcmi_does (n) (p)) (cj (rcmi_does (m) (q)) (cj (first_nil ([cmI k j, cmI n p, cmI m q, -1]) (by simp)) cj0))))))))))
    · refine tbif (fun c3 => ?_) (fun c3 => ?_)
      · exact pth (fn := Tryz.f50) rfl (by kernel_rfl) [.c (.v (.bool (okV k n m s))) [] 0, .t, .t, .t, .t, .l, .f, .t, .c (.v (.int .i64 (cmI k j))) [] 0, .c (.v (.int .i64 (cmI n p))) [] 0, .c (.v (.int .i64 (cmI m q))) [] 0, .c (.v (.int .i64 (orL [cmI k j, cmI n p, cmI m q, 1]))) [] 1] (by kernel_rfl) (cj (right4_does (k) (n) (m) (s) (by assumption)) (cj c1 (cj c1 (cj c1 (cj c1 (cj c2 (cj c3 (cj (rcmi_does (k) (j)) (cj (rcmi_does (n) (p)) (cj (rcmi_does (m) (q)) (cj (first_nil ([cmI k j, cmI n p, cmI m q, 1]) (by simp)) cj0)))))))))))
      · exact pth (fn := Tryz.f50) rfl (by kernel_rfl) [.c (.v (.bool (okV k n m s))) [] 0, .t, .t, .t, .t, .l, .f, .f, .c (.v (.int .i64 (cmI k j))) [] 0, .c (.v (.int .i64 (cmI n p))) [] 0, .c (.v (.int .i64 (cmI m q))) [] 0, .c (.v (.int .i64 (orL [cmI k j, cmI n p, cmI m q, 0]))) [] 1] (by kernel_rfl) (cj (right4_does (k) (n) (m) (s) (by assumption)) (cj c1 (cj c1 (cj c1 (cj c1 (cj c2 (cj c3 (cj (rcmi_does (k) (j)) (cj (rcmi_does (n) (p)) (cj (rcmi_does (m) (q)) (cj (first_nil ([cmI k j, cmI n p, cmI m q, 0]) (by simp)) cj0)))))))))))
  · refine tbif (fun c4 => ?_) (fun c4 => ?_)
    · refine tbif (fun c5 => ?_) (fun c5 => ?_)
      · exact pth (fn := Tryz.f50) rfl (by kernel_rfl) [.c (.v (.bool (okV k n m s))) [] 0, .f, .f, .c (.v (.bool (okV j p q u))) [] 0, .f, .f, .t, .t, .c (.v (.int .i64 (cmI k j))) [] 0, .c (.v (.int .i64 (cmI n p))) [] 0, .c (.v (.int .i64 (cmI m q))) [] 0, .c (.v (.int .i64 (orL [cmI k j, cmI n p, cmI m q, -1]))) [] 1] (by kernel_rfl) (cj (right4_does (k) (n) (m) (s) (by assumption)) (cj c1 (cj c1 (cj (right4_does (j) (p) (q) (u) (by assumption)) (cj c1 (cj c1 (cj c4 (cj c5 (cj (rcmi_does (k) (j)) (cj (rcmi_does (n) (p)) (cj (rcmi_does (m) (q)) (cj (first_nil ([cmI k j, cmI n p, cmI m q, -1]) (by simp)) cj0))))))))))))
      · refine tbif (fun c6 => ?_) (fun c6 => ?_)
        · exact pth (fn := Tryz.f50) rfl (by kernel_rfl) [.c (.v (.bool (okV k n m s))) [] 0, .f, .f, .c (.v (.bool (okV j p q u))) [] 0, .f, .f, .t, .f, .t, .c (.v (.int .i64 (cmI k j))) [] 0, .c (.v (.int .i64 (cmI n p))) [] 0, .c (.v (.int .i64 (cmI m q))) [] 0, .c (.v (.int .i64 (orL [cmI k j, cmI n p, cmI m q, 1]))) [] 1] (by kernel_rfl) (cj (right4_does (k) (n) (m) (s) (by assumption)) (cj c1 (cj c1 (cj (right4_does (j) (p) (q) (u) (by assumption)) (cj c1 (cj c1 (cj c4 (cj c5 (cj c6 (cj (rcmi_does (k) (j)) (cj (rcmi_does (n) (p)) (cj (rcmi_does (m) (q)) (cj (first_nil ([cmI k j, cmI n p, cmI m q, 1]) (by simp)) cj0)))))))))))))
        · exact pth (fn := Tryz.f50) rfl (by kernel_rfl) [.c (.v (.bool (okV k n m s))) [] 0, .f, .f, .c (.v (.bool (okV j p q u))) [] 0, .f, .f, .t, .f, .f, .c (.v (.int .i64 (cmI k j))) [] 0, .c (.v (.int .i64 (cmI n p))) [] 0, .c (.v (.int .i64 (cmI m q))) [] 0, .c (.v (.int .i64 (orL [cmI k j, cmI n p, cmI m q, 0]))) [] 1] (by kernel_rfl) (cj (right4_does (k) (n) (m) (s) (by assumption)) (cj c1 (cj c1 (cj (right4_does (j) (p) (q) (u) (by assumption)) (cj c1 (cj c1 (cj c4 (cj c5 (cj c6 (cj (rcmi_does (k) (j)) (cj (rcmi_does (n) (p)) (cj (rcmi_does (m) (q)) (cj (first_nil ([cmI k j, cmI n p, cmI m q, 0]) (by simp)) cj0)))))))))))))
    · refine tbif (fun c7 => ?_) (fun c7 => ?_)
      · exact pth (fn := Tryz.f50) rfl (by kernel_rfl) [.c (.v (.bool (okV k n m s))) [] 0, .f, .f, .c (.v (.bool (okV j p q u))) [] 0, .f, .f, .f, .c (.v (.int .i64 (clsV k))) [] 0, .c (.v (.int .i64 (clsV j))) [] 0, .t, .c (.v (.int .i64 (clsV j))) [] 0, .c (.v (.int .i64 (cmI (clsV k) (clsV j)))) [] 0] (by kernel_rfl) (cj (right4_does (k) (n) (m) (s) (by assumption)) (cj c1 (cj c1 (cj (right4_does (j) (p) (q) (u) (by assumption)) (cj c1 (cj c1 (cj c4 (cj (rclass_does (k)) (cj (rclass_does (j)) (cj c7 (cj (rclass_does (j)) (cj (rcmi_does (clsV k) (clsV j)) cj0))))))))))))
      · refine tbif (fun c8 => ?_) (fun c8 => ?_)
        · exact pth (fn := Tryz.f50) rfl (by kernel_rfl) [.c (.v (.bool (okV k n m s))) [] 0, .f, .f, .c (.v (.bool (okV j p q u))) [] 0, .f, .f, .f, .c (.v (.int .i64 (clsV k))) [] 0, .c (.v (.int .i64 (clsV j))) [] 0, .f, .t, .c (.v (.int .i64 (cmpM n m p q))) [] 0, .c (.v (.int .i64 (cmI k j))) [] 0, .c (.v (.int .i64 (cmI m q))) [] 0, .c (.v (.int .i64 (orL [cmpM n m p q, cmI k j, cmI m q]))) [] 1] (by kernel_rfl) (cj (right4_does (k) (n) (m) (s) (by assumption)) (cj c1 (cj c1 (cj (right4_does (j) (p) (q) (u) (by assumption)) (cj c1 (cj c1 (cj c4 (cj (rclass_does (k)) (cj (rclass_does (j)) (cj c7 (cj c8 (cj (rcmp_does (u := (n)) (x := (m)) (v := (p)) (y := (q)) (by assumption) (by assumption) (by assumption) (by assumption)) (cj (rcmi_does (k) (j)) (cj (rcmi_does (m) (q)) (cj (first_nil ([cmpM n m p q, cmI k j, cmI m q]) (by simp)) cj0)))))))))))))))
        · refine tbif (fun c9 => ?_) (fun c9 => ?_)
          · exact pth (fn := Tryz.f50) rfl (by kernel_rfl) [.c (.v (.bool (okV k n m s))) [] 0, .f, .f, .c (.v (.bool (okV j p q u))) [] 0, .f, .f, .f, .c (.v (.int .i64 (clsV k))) [] 0, .c (.v (.int .i64 (clsV j))) [] 0, .f, .f, .t, .c (.v (.int .i64 (cmI n p))) [] 0, .c (.v (.int .i64 (cmI m q))) [] 0, .c (.v (.int .i64 (orL [cmI n p, cmI m q, -1]))) [] 1] (by kernel_rfl) (cj (right4_does (k) (n) (m) (s) (by assumption)) (cj c1 (cj c1 (cj (right4_does (j) (p) (q) (u) (by assumption)) (cj c1 (cj c1 (cj c4 (cj (rclass_does (k)) (cj (rclass_does (j)) (cj c7 (cj c8 (cj c9 (cj (rcmi_does (n) (p)) (cj (rcmi_does (m) (q)) (cj (first_nil ([cmI n p, cmI m q, -1]) (by simp)) cj0)))))))))))))))
          · refine tbif (fun c10 => ?_) (fun c10 => ?_)
            · exact pth (fn := Tryz.f50) rfl (by kernel_rfl) [.c (.v (.bool (okV k n m s))) [] 0, .f, .f, .c (.v (.bool (okV j p q u))) [] 0, .f, .f, .f, .c (.v (.int .i64 (clsV k))) [] 0, .c (.v (.int .i64 (clsV j))) [] 0, .f, .f, .f, .t, .c (.v (.int .i64 (cmI n p))) [] 0, .c (.v (.int .i64 (cmI m q))) [] 0, .c (.v (.int .i64 (orL [cmI n p, cmI m q, 1]))) [] 1] (by kernel_rfl) (cj (right4_does (k) (n) (m) (s) (by assumption)) (cj c1 (cj c1 (cj (right4_does (j) (p) (q) (u) (by assumption)) (cj c1 (cj c1 (cj c4 (cj (rclass_does (k)) (cj (rclass_does (j)) (cj c7 (cj c8 (cj c9 (cj c10 (cj (rcmi_does (n) (p)) (cj (rcmi_does (m) (q)) (cj (first_nil ([cmI n p, cmI m q, 1]) (by simp)) cj0))))))))))))))))
            · exact pth (fn := Tryz.f50) rfl (by kernel_rfl) [.c (.v (.bool (okV k n m s))) [] 0, .f, .f, .c (.v (.bool (okV j p q u))) [] 0, .f, .f, .f, .c (.v (.int .i64 (clsV k))) [] 0, .c (.v (.int .i64 (clsV j))) [] 0, .f, .f, .f, .f, .c (.v (.int .i64 (cmI n p))) [] 0, .c (.v (.int .i64 (cmI m q))) [] 0, .c (.v (.int .i64 (orL [cmI n p, cmI m q, 0]))) [] 1] (by kernel_rfl) (cj (right4_does (k) (n) (m) (s) (by assumption)) (cj c1 (cj c1 (cj (right4_does (j) (p) (q) (u) (by assumption)) (cj c1 (cj c1 (cj c4 (cj (rclass_does (k)) (cj (rclass_does (j)) (cj c7 (cj c8 (cj c9 (cj c10 (cj (rcmi_does (n) (p)) (cj (rcmi_does (m) (q)) (cj (first_nil ([cmI n p, cmI m q, 0]) (by simp)) cj0))))))))))))))))
end Go.Proofs.YtnchjdhepakokaaGreatDoorC
/- The order of values, told: program and reference come to the same. -/
namespace Go.Proofs.YtnchjdhepakokaaGreatDoorC
open Go.Proofs Go.Proofs.YtnchjdhepakokaaGreatDoorSx Go.Lib
set_option maxRecDepth 100000
set_option linter.unusedVariables false
set_option linter.unusedSimpArgs false
theorem compare_does (k n m : Int) (s : ByteArray) (j p q : Int) (u : ByteArray) (hn : I64 n) (hm : I64 m) (hs : s.size ≤ 140737488351232) (hp : I64 p) (hq : I64 q) (hu : u.size ≤ 140737488351232) : Does cE 48 [] 0 [.v (vl k n m s), .v (vl j p q u)] (.v (it (cpV k n m s j p q u))) [] 0 := by
  have h := pCo_does k n m j p q s u hn hm hs hp hq hu
  have e : pCo k n m j p q s u = it (cpV k n m s j p q u) := by
    unfold pCo cpV byF
    simp only [it_if]
  rw [e] at h
  exact h
theorem less_cmp : ∀ a b : List UInt8, compareBytes a b = bif Go.Op.bytesLess a b then -1 else bif !(Go.Op.bytesLess a b || a == b) then 1 else 0
  | [], [] => rfl
  | [], _ :: _ => rfl
  | _ :: _, [] => by simp [compareBytes, Go.Op.bytesLess]
  | x :: a, y :: b => by
    have ih := less_cmp a b
    unfold compareBytes Go.Op.bytesLess
    by_cases h1 : x < y
    · simp [h1]
    · by_cases h2 : y < x
      · have h3 : (x == y) = false := by
          rw [beq_eq_false_iff_ne]
          intro e
          subst e
          exact h1 h2
        simp [h1, h2, h3, List.cons_beq_cons]
      · have h3 : x = y := UInt8.le_antisymm (UInt8.not_lt.mp h2) (UInt8.not_lt.mp h1)
        subst h3
        simp [h1, ih, List.cons_beq_cons]
theorem cmI_ne (x y : Int) : (cmI x y != 0) = (x != y) := by
  unfold cmI
  by_cases h1 : x < y
  · rw [decide_eq_true h1]
    have : (x != y) = true := by simp; omega
    rw [this]; rfl
  · rw [decide_eq_false h1]
    by_cases h2 : x > y
    · rw [decide_eq_true h2]
      have : (x != y) = true := by simp; omega
      rw [this]; rfl
    · rw [decide_eq_false h2]
      have : (x != y) = false := by simp; omega
      rw [this]; rfl
theorem cmI_self (x : Int) : cmI x x = 0 := by
  simp [cmI]
theorem ok_kind {k n m : Int} {s : ByteArray} (h : okV k n m s = true) : k = 0 ∨ k = 1 ∨ k = 2 ∨ k = 3 ∨ k = 4 ∨ k = 5 := by
  by_cases h0 : k = 0
  · exact .inl h0
  by_cases h1 : k = 1
  · exact .inr (.inl h1)
  by_cases h2 : k = 2
  · exact .inr (.inr (.inl h2))
  by_cases h3 : k = 3
  · exact .inr (.inr (.inr (.inl h3)))
  by_cases h4 : k = 4
  · exact .inr (.inr (.inr (.inr (.inl h4))))
  by_cases h5 : k = 5
  · exact .inr (.inr (.inr (.inr (.inr h5))))
  unfold okV at h
  rw [beq_eq_false_iff_ne.mpr h0, beq_eq_false_iff_ne.mpr h1, beq_eq_false_iff_ne.mpr h2, beq_eq_false_iff_ne.mpr h3, beq_eq_false_iff_ne.mpr h4, beq_eq_false_iff_ne.mpr h5] at h
  cases (show false = true from h)
theorem kind_one {k n m j p q : Int} {s u : ByteArray} (h1 : okV k n m s = true) (h2 : okV j p q u = true) (hc : (clsV k != clsV j) = false) (h : (clsV k == 2) = false) : k = j := by
  rcases ok_kind h1 with rfl | rfl | rfl | rfl | rfl | rfl <;> rcases ok_kind h2 with rfl | rfl | rfl | rfl | rfl | rfl <;> first | rfl | exact absurd hc (by decide) | exact absurd h (by decide)
theorem rCo_said (k n m j p q : Int) (s u : ByteArray) : rCo k n m j p q s u = it (cpV k n m s j p q u) := by
  have e : ∀ (f : Int → Int), (bif Go.Op.bytesLess s.toList u.toList then it (f (-1)) else bif !(Go.Op.bytesLess s.toList u.toList || s.toList == u.toList) then it (f 1) else it (f 0)) = it (f (compareBytes s.data.toList u.data.toList)) := by
    intro f
    rw [less_cmp, ← Go.ByteArray.toList_eq, ← Go.ByteArray.toList_eq]
    cases Go.Op.bytesLess s.toList u.toList
    · cases (!(false || s.toList == u.toList)) <;> rfl
    · rfl
  unfold rCo cpV byF
  have e1 := e (fun x => orL [cmI k j, cmI n p, cmI m q, x])
  have e2 := e (fun x => orL [cmI n p, cmI m q, x])
  rw [e1, e2, cmI_ne]
  cases h1 : okV k n m s
  · rfl
  · cases h2 : okV j p q u
    · rfl
    · cases h3 : (clsV k != clsV j)
      · cases h4 : (clsV k == 2)
        · have := kind_one h1 h2 h3 h4
          subst this
          rw [cmI_self]
          rfl
        · rfl
      · rfl
theorem rcompare_does (k n m : Int) (s : ByteArray) (j p q : Int) (u : ByteArray) (hn : I64 n) (hm : I64 m) (hs : s.size ≤ 140737488351232) (hp : I64 p) (hq : I64 q) (hu : u.size ≤ 140737488351232) : Does cE 50 [] 0 [.v (vl k n m s), .v (vl j p q u)] (.v (it (cpV k n m s j p q u))) [] 0 := by
  rw [← rCo_said]
  exact rCo_does k n m j p q s u hn hm hs hp hq hu
theorem ix_ok {op : Int} {a b c d e f : Bool} (c5 : decide (op ≥ 17) = false) (c8 : decide (op < 11) = false) : 0 ≤ IntKind.i64.wrap (op - 11) ∧ IntKind.i64.wrap (op - 11) < ((6 : Nat) : Int) ∧ IntKind.i64.wrap (op - 11) < ((preB [.bool a, .bool b, .bool c, .bool d, .bool e, .bool f]).length : Int) := by
  have h1 := of_decide_eq_false c5
  have h2 := of_decide_eq_false c8
  rw [wrap64 (by omega) (by omega)]
  change _ ∧ _ ∧ op - 11 < ((6 : Nat) : Int)
  omega
end Go.Proofs.YtnchjdhepakokaaGreatDoorC
/- May they be, are they: of one. Printed by a program (wip/tools); Lean checks each. -/
namespace Go.Proofs.YtnchjdhepakokaaGreatDoorC
open Go.Proofs Go.Proofs.YtnchjdhepakokaaGreatDoorSx Go.Lib
set_option maxRecDepth 100000
set_option linter.unusedVariables false
def pRb (k n m : Int) (s : ByteArray) : Value :=
  (.bool (!okV k n m s))
theorem pRb_does (k n m : Int) (s : ByteArray) (hs : s.size ≤ 140737488351232) : Does cE 130 [] 0 [.v (vl k n m s)] (.v (pRb k n m s)) [] 0 := by
  unfold pRb
  exact pth (fn := Tryz.f130) rfl (by kernel_rfl) [.c (.v (.bool (okV k n m s))) [] 0] (by kernel_rfl) (cj (right_does (k) (n) (m) (s) (by first | assumption | decide)) cj0)
def pSa (k n m j p q : Int) (s u : ByteArray) : Value :=
  (.bool (k == j && (n == p && (m == q && (s == u && true)))))
theorem pSa_does (k n m j p q : Int) (s u : ByteArray) : Does cE 51 [] 0 [.v (vl k n m s), .v (vl j p q u)] (.v (pSa k n m j p q s u)) [] 0 := by
  unfold pSa
  exact pth (fn := Tryz.f51) rfl (by kernel_rfl) [] (by kernel_rfl) cj0
end Go.Proofs.YtnchjdhepakokaaGreatDoorC
/- A slice of values among a law's arguments: opened as one list of them, read only; its texts are not too long. -/
namespace Go.Proofs.YtnchjdhepakokaaGreatDoorC
open Go.Proofs Go.Proofs.YtnchjdhepakokaaGreatDoorSx Go.RowKit Go.ChangeShapes Go.WideShapes Go.Joins Go.Deep
set_option linter.unusedVariables false
section
variable {H : Type} {enc : TypeId × Value → H} {P : Program} {w : World} {base : Nat} {spare : Nat → Bool} {held : Bool}
theorem open_rowD {t e : TypeId} {F : Fmt} {G : F.α → DataW H → Prop} {a : Option Addr} {len cap : Nat} {d : DataW H} {ps : List MemPlace} (ht : P.underlying t = some (.slice e)) (hsz : P.cellsOf e = F.sz)
    (hone : ∀ n cs x, cs.length = F.sz → DataW.trod enc P w base spare held n e cs = some x → ∃ a, F.enc a = cs ∧ G a x.1) (h : DataW.Trod enc P w base spare held t (.slice a len cap) d ps) :
    ∃ l : List F.α, l.length = len ∧ Opened w F a len cap l ∧ ((d = .nil ∧ len = 0 ∧ l = []) ∨ ∃ es rs, d = .slice es rs ∧ es.length = len ∧ ∀ y ∈ l, ∃ x ∈ es, G y x) := by
  obtain ⟨fuel, hf⟩ := h
  rcases DataW.trod_slice ht hf with ⟨hcs, hx⟩ | ⟨x, l, c, elems, rest, n, _, hcs, hx, _, hl, hm, hlen, hel, _, _⟩
  · simp [Value.cells] at hcs
    obtain ⟨rfl, rfl, rfl⟩ := hcs
    exact ⟨[], rfl, .inl ⟨rfl, rfl, rfl, rfl⟩, .inl ⟨(Prod.mk.inj hx).1, rfl, rfl⟩⟩
  · simp [Value.cells] at hcs
    obtain ⟨rfl, rfl, rfl⟩ := hcs
    rw [hsz] at hel
    have key : ∀ k, k ≤ len → ∃ L : List F.α, L.length = k ∧ (∀ y ∈ L, ∃ x ∈ elems.map (·.1), G y x) ∧ ∀ j u, (cellsF F L)[j]? = some u → w.cell? (x.add j) = some u := by
      intro k
      induction k with
      | zero => exact fun _ => ⟨[], rfl, fun y hy => by simp at hy, fun j u hu => by simp [cellsF] at hu⟩
      | succ k ih =>
        intro hk
        obtain ⟨L, i1, i2, i3⟩ := ih (by omega)
        have he := hel k (by omega)
        cases hc : w.cells? base (x.add (k * F.sz)) F.sz with
        | none =>
          rw [hc] at he
          simp only [Option.bind_none] at he
          have : k < elems.length := by omega
          simp [List.getElem?_eq_getElem this] at he
        | some cs =>
          rw [hc] at he
          simp only [Option.bind_some] at he
          obtain ⟨c1, c2⟩ := cells_at hc
          have hkl : k < elems.length := by omega
          obtain ⟨b, hb1, hb2⟩ := hone n cs elems[k] c1 (by rw [he]; exact List.getElem?_eq_getElem hkl)
          refine ⟨L ++ [b], by simp [i1], fun y hy => ?_, fun j u hu => ?_⟩
          · rcases List.mem_append.1 hy with hy | hy
            · exact i2 y hy
            · simp at hy
              subst hy
              exact ⟨elems[k].1, List.mem_map.2 ⟨elems[k], List.getElem_mem hkl, rfl⟩, hb2⟩
          · rw [cellsF_app] at hu
            have hcl := cellsF_length F L
            have hb3 : cellsF F [b] = cs := by simp [cellsF, hb1]
            rw [hb3] at hu
            by_cases hj : j < (cellsF F L).length
            · rw [List.getElem?_append_left hj] at hu
              exact i3 j u hu
            · rw [List.getElem?_append_right (by omega), hcl, i1] at hu
              have := c2 _ u hu
              rw [addr_add2] at this
              rw [← this]
              congr 2
              rw [hcl, i1] at hj
              omega
    obtain ⟨L, i1, i2, i3⟩ := key len (Nat.le_refl _)
    exact ⟨L, i1, .inr ⟨x, rfl, hl, i1, i3⟩, .inr ⟨_, _, (Prod.mk.inj hx).1, by simpa using hlen, i2⟩⟩
def GV (z : Int × Int × Int × ByteArray) (x : DataW H) : Prop :=
  (Lit.int .i64 z.1).wf = true ∧ (Lit.int .i64 z.2.1).wf = true ∧ (Lit.int .i64 z.2.2.1).wf = true ∧ ∃ x0 x1 x2, x = .agg [x0, x1, x2, .lit (.string z.2.2.2.data.toList)]
theorem list4 {α : Type} {l : List α} (h : l.length = 4) : ∃ c0 c1 c2 c3, l = [c0, c1, c2, c3] := by
  match l, h with
  | [c0, c1, c2, c3], _ => exact ⟨c0, c1, c2, c3, rfl⟩
theorem reads_valD {e : TypeId} {f0 f1 f2 f3 : Field} (hs : P.underlying e = some (.struct #[f0, f1, f2, f3])) (hone : oneCellFields P #[f0, f1, f2, f3] = true) (h0 : P.underlying f0.type = some (.int .i64)) (h1 : P.underlying f1.type = some (.int .i64)) (h2 : P.underlying f2.type = some (.int .i64)) (h3 : P.underlying f3.type = some .string) :
    ∀ n cs x, cs.length = valF.sz → DataW.trod enc P w base spare held n e cs = some x → ∃ a : valF.α, valF.enc a = cs ∧ GV a x.1 := by
  intro n cs x hl h
  obtain ⟨c0, c1, c2, c3, rfl⟩ := list4 hl
  obtain ⟨y0, y1, y2, y3, m, hx, _, t0, t1, t2, t3⟩ := trod_struct4 hs h
  obtain ⟨o0, k0⟩ := hone_of hone 0 f0 rfl
  obtain ⟨o1, k1⟩ := hone_of hone 1 f1 rfl
  obtain ⟨o2, k2⟩ := hone_of hone 2 f2 rfl
  obtain ⟨o3, k3⟩ := hone_of hone 3 f3 rfl
  have t0 : DataW.trod enc P w base spare held m f0.type [c0] = some y0 := by simpa [o0, k0] using t0
  have t1 : DataW.trod enc P w base spare held m f1.type [c1] = some y1 := by simpa [o1, k1] using t1
  have t2 : DataW.trod enc P w base spare held m f2.type [c2] = some y2 := by simpa [o2, k2] using t2
  have t3 : DataW.trod enc P w base spare held m f3.type [c3] = some y3 := by simpa [o3, k3] using t3
  obtain ⟨z0, e0, r0, w0⟩ := DataW.trod_int h0 t0
  obtain ⟨z1, e1, r1, w1⟩ := DataW.trod_int h1 t1
  obtain ⟨z2, e2, r2, w2⟩ := DataW.trod_int h2 t2
  obtain ⟨s, e3, r3, w3⟩ := DataW.trod_string h3 t3
  simp only [List.cons.injEq, and_true] at e0 e1 e2 e3
  subst e0 e1 e2 e3
  refine ⟨(z0, z1, z2, s), rfl, w0, w1, w2, y0.1, y1.1, y2.1, ?_⟩
  rw [hx, r3]
theorem weights_all {e : TypeId} {es : List (DataW H)} {x : DataW H} (h : x ∈ es) {n : Nat} (hn : n ∈ x.weights P e) : n ∈ DataW.weightsAll P e es := by
  induction es with
  | nil => cases h
  | cons d r ih =>
    simp only [DataW.weightsAll, List.mem_append]
    rcases List.mem_cons.1 h with rfl | h
    · exact .inl hn
    · exact .inr (ih h)
/-- What is known of a row of values. -/
def Vals (l : List (Int × Int × Int × ByteArray)) : Prop := ∀ z ∈ l, (Lit.int .i64 z.1).wf = true ∧ (Lit.int .i64 z.2.1).wf = true ∧ (Lit.int .i64 z.2.2.1).wf = true ∧ z.2.2.2.size ≤ 140737488351232
theorem open_vals {ts : List TypeId} {ds : List (DataW H)} {t e : TypeId} {j : Nat} {d : DataW H} {a : Option Addr} {len cap : Nat} {ps : List MemPlace} {f0 f1 f2 f3 : Field} {B : Nat} (hsz : (DataW.weightsEach P ts ds).all (· ≤ reachBytes) = true) (ht : ts[j]? = some t) (hd : ds[j]? = some d)
    (hu : P.underlying t = some (.slice e)) (hB : P.bytesOf e = B) (hc : P.cellsOf e = 4) (hs : P.underlying e = some (.struct #[f0, f1, f2, f3])) (hone : oneCellFields P #[f0, f1, f2, f3] = true) (h0 : P.underlying f0.type = some (.int .i64)) (h1 : P.underlying f1.type = some (.int .i64)) (h2 : P.underlying f2.type = some (.int .i64)) (h3 : P.underlying f3.type = some .string)
    (h : DataW.Trod enc P w base spare held t (.slice a len cap) d ps) :
    ∃ l : List (Int × Int × Int × ByteArray), l.length = len ∧ Opened w valF a len cap l ∧ Vals l ∧ len * B ≤ 140737488351232 := by
  obtain ⟨l, q1, q2, q3⟩ := open_rowD (F := valF) (G := GV) hu hc (reads_valD hs hone h0 h1 h2 h3) h
  refine ⟨l, q1, q2, fun z hz => ?_, ?_⟩
  · rcases q3 with ⟨_, _, rfl⟩ | ⟨es, rs, rfl, q4, q5⟩
    · cases hz
    · obtain ⟨x, hx, g0, g1, g2, x0, x1, x2, rfl⟩ := q5 z hz
      refine ⟨g0, g1, g2, ?_⟩
      have hw : z.2.2.2.data.toList.length ∈ (DataW.slice es rs).weights P t := by
        simp only [DataW.weights, hu, List.mem_cons, List.mem_append]
        refine .inr (.inl (weights_all hx ?_))
        simp only [DataW.weights, hs]
        exact DataW.weights_mem_each (j := 3) rfl rfl _ (by simp [DataW.weights])
      have := List.all_eq_true.1 hsz _ (DataW.weights_mem_each ht hd _ hw)
      have := of_decide_eq_true this
      rw [Array.length_toList] at this
      exact this
  · rcases q3 with ⟨q4, q5, _⟩ | ⟨es, rs, rfl, q4, q5⟩
    · exact sized_row hsz ht hd hu hB (.inl ⟨q4, q5⟩)
    · exact sized_row hsz ht hd hu hB (.inr ⟨es, rs, rfl, q4⟩)
end
end Go.Proofs.YtnchjdhepakokaaGreatDoorC
/- Same, and what may not be in a row: told. -/
namespace Go.Proofs.YtnchjdhepakokaaGreatDoorC
open Go.Proofs Go.Proofs.YtnchjdhepakokaaGreatDoorSx Go.Lib
set_option maxRecDepth 100000
set_option linter.unusedVariables false
theorem dsame_does (k n m : Int) (s : ByteArray) (j p q : Int) (u : ByteArray) : Does cE 51 [] 0 [.v (vl k n m s), .v (vl j p q u)] (.v (.bool (sameV k n m s j p q u))) [] 0 := by
  have h := pSa_does k n m j p q s u
  have e : pSa k n m j p q s u = .bool (sameV k n m s j p q u) := by
    unfold pSa sameV
    rw [bytes_beq]
    cases (k == j) <;> cases (n == p) <;> cases (m == q) <;> cases (s.toList == u.toList) <;> rfl
  rw [e] at h
  exact h
theorem rowbad_does (k n m : Int) (s : ByteArray) (hs : s.size ≤ 140737488351232) : Does cE 130 [] 0 [.v (vl k n m s)] (.v (.bool (!okV k n m s))) [] 0 := pRb_does k n m s hs
abbrev VZ := Int × Int × Int × ByteArray
abbrev d0 : VZ := (0, 0, 0, ByteArray.empty)
def okZ (z : VZ) : Bool := okV z.1 z.2.1 z.2.2.1 z.2.2.2
def cpZ (y z : VZ) : Int := cpV y.1 y.2.1 y.2.2.1 y.2.2.2 z.1 z.2.1 z.2.2.1 z.2.2.2
/-- The first that may not be. -/
def ixL : List VZ → Int → Int
  | [], _ => -1
  | z :: r, i => bif !okZ z then i else ixL r (i + 1)
def rowV (r : List VZ) : Bool := decide (r.length ≤ 64) && r.all okZ
/-- How rows stand. -/
def cfL : List VZ → List VZ → Int
  | [], [] => 0
  | [], _ :: _ => -1
  | _ :: _, [] => 1
  | x :: a, y :: b => bif cpZ x y != 0 then cpZ x y else cfL a b
theorem vals_at {r : List VZ} (hv : Vals r) (i : Nat) : I64 (r.getD i d0).2.1 ∧ I64 (r.getD i d0).2.2.1 ∧ (r.getD i d0).2.2.2.size ≤ 140737488351232 := by
  rw [List.getD_eq_getElem?_getD]
  cases h : r[i]? with
  | none => exact ⟨by decide, by decide, by decide⟩
  | some z =>
    obtain ⟨_, h1, h2, h3⟩ := hv z (List.mem_of_getElem? h)
    exact ⟨by simpa [Lit.wf, IntKind.min, IntKind.max, IntKind.signed, IntKind.bits] using h1, by simpa [Lit.wf, IntKind.min, IntKind.max, IntKind.signed, IntKind.bits] using h2, h3⟩
theorem drop_at {r : List VZ} {i : Nat} (h : i < r.length) : r.drop i = r.getD i d0 :: r.drop (i + 1) := by
  rw [List.drop_eq_getElem_cons h, List.getD_eq_getElem?_getD, List.getElem?_eq_getElem h]
  rfl
theorem wsuc {i n : Nat} (h : i < n) (hn : n ≤ 4000000000000) : IntKind.i64.wrap ((i : Int) + 1) = ((i + 1 : Nat) : Int) := by
  rw [wrap64 (by omega) (by omega)]; omega
end Go.Proofs.YtnchjdhepakokaaGreatDoorC
