import Derived.Test.YtnchjdhepakokaaGreatDoorOo06
import Derived.Test.YtnchjdhepakokaaGreatDoorOo10
import Derived.Shelf.Strings.Replace
import Derived.Shelf.Strings.SplitShaped
import Derived.Shelf.LaysM
import Derived.Ground.NamesProg
import Derived.KernelRfl
import Derived.Test.YtnchjdhepakokaaGreatDoorProg
import Derived.Test.YtnchjdhepakokaaGreatDoorOo05
import Derived.Test.YtnchjdhepakokaaGreatDoorOo09
/- Each path of each function: on which conditions it is taken, what it gives. Printed by a program (wip/tools/sxexp2.lean); Lean checks each. -/
namespace Go.Proofs.YtnchjdhepakokaaGreatDoorC
open Go.Proofs Go.Proofs.YtnchjdhepakokaaGreatDoorSx
set_option maxRecDepth 100000
set_option linter.unusedVariables false

theorem rresc_1 (u x sc : Int) (b0 : Bool) (h0 : Does cE 155 [] 0 [.v (.agg #[(.int .i64 (u)), (.int .i64 (x))])] (.v (.bool (b0))) [] 0) (h1 : (!b0) = true) : Does cE 78 [] 0 [.v (dc u x), .v (it sc)] (.v (.tuple #[(.agg #[(.int .i64 (0)), (.int .i64 (0))]), (.int .i64 (1))])) [] 0 :=
  does_path (ct := ct) ctOk mixed (fn := Tryz.f78) rfl (by kernel_rfl) 2000 [.c (.v (.bool (b0))) [] 0, .t, .t, .t, .l, .l, .l, .l] (by kernel_rfl) (cj h0 (cj h1 (cj h1 (cj h1 cj0))))
theorem rresc_2 (u x sc : Int) (b0 : Bool) (h0 : Does cE 155 [] 0 [.v (.agg #[(.int .i64 (u)), (.int .i64 (x))])] (.v (.bool (b0))) [] 0) (h1 : (!b0) = false) (h2 : decide (sc < 0) = true) : Does cE 78 [] 0 [.v (dc u x), .v (it sc)] (.v (.tuple #[(.agg #[(.int .i64 (0)), (.int .i64 (0))]), (.int .i64 (1))])) [] 0 :=
  does_path (ct := ct) ctOk mixed (fn := Tryz.f78) rfl (by kernel_rfl) 2000 [.c (.v (.bool (b0))) [] 0, .f, .f, .f, .t, .t, .t, .l] (by kernel_rfl) (cj h0 (cj h1 (cj h1 (cj h1 (cj h2 (cj h2 (cj h2 cj0)))))))
theorem rresc_3 (u x sc : Int) (b0 : Bool) (h0 : Does cE 155 [] 0 [.v (.agg #[(.int .i64 (u)), (.int .i64 (x))])] (.v (.bool (b0))) [] 0) (h1 : (!b0) = false) (h2 : decide (sc < 0) = false) (h3 : decide (sc > 6) = true) : Does cE 78 [] 0 [.v (dc u x), .v (it sc)] (.v (.tuple #[(.agg #[(.int .i64 (0)), (.int .i64 (0))]), (.int .i64 (1))])) [] 0 :=
  does_path (ct := ct) ctOk mixed (fn := Tryz.f78) rfl (by kernel_rfl) 2000 [.c (.v (.bool (b0))) [] 0, .f, .f, .f, .f, .f, .f, .t] (by kernel_rfl) (cj h0 (cj h1 (cj h1 (cj h1 (cj h2 (cj h2 (cj h2 (cj h3 cj0))))))))
theorem rresc_4 (u x sc : Int) (b0 : Bool) (i1 : Int) (i2 : Int) (i3 : Int) (i4 : Int) (i5 : Int) (i6 : Int) (b7 : Bool) (i8 : Int) (i9 : Int) (i10 : Int) (h0 : Does cE 155 [] 0 [.v (.agg #[(.int .i64 (u)), (.int .i64 (x))])] (.v (.bool (b0))) [] 0) (h1 : (!b0) = false) (h2 : decide (sc < 0) = false) (h3 : decide (sc > 6) = false) (h4 : decide (sc ≥ x) = true) (h5 : Does cE 157 [] 0 [.v (.agg #[(.int .i64 (u)), (.int .i64 (x))]), .v (.int .i64 (sc))] (.v (.agg #[(.int .u64 (i1)), (.int .u64 (i2)), (.int .u64 (i3)), (.int .u64 (i4)), (.int .u64 (i5)), (.int .u64 (i6)), (.bool (b7))])) [] 0) (h6 : Does cE 156 [] 0 [.v (.agg #[(.int .u64 (i1)), (.int .u64 (i2)), (.int .u64 (i3)), (.int .u64 (i4)), (.int .u64 (i5)), (.int .u64 (i6)), (.bool (b7))]), .v (.int .i64 (sc))] (.v (.tuple #[(.agg #[(.int .i64 (i8)), (.int .i64 (i9))]), (.int .i64 (i10))])) [] 0) : Does cE 78 [] 0 [.v (dc u x), .v (it sc)] (.v (.tuple #[(.agg #[(.int .i64 (i8)), (.int .i64 (i9))]), (.int .i64 (i10))])) [] 0 :=
  does_path (ct := ct) ctOk mixed (fn := Tryz.f78) rfl (by kernel_rfl) 2000 [.c (.v (.bool (b0))) [] 0, .f, .f, .f, .f, .f, .f, .f, .t, .c (.v (.agg #[(.int .u64 (i1)), (.int .u64 (i2)), (.int .u64 (i3)), (.int .u64 (i4)), (.int .u64 (i5)), (.int .u64 (i6)), (.bool (b7))])) [] 0, .c (.v (.tuple #[(.agg #[(.int .i64 (i8)), (.int .i64 (i9))]), (.int .i64 (i10))])) [] 0] (by kernel_rfl) (cj h0 (cj h1 (cj h1 (cj h1 (cj h2 (cj h2 (cj h2 (cj h3 (cj h4 (cj h5 (cj h6 cj0)))))))))))
theorem rresc_5 (u x sc : Int) (b0 : Bool) (i1 : Int) (i2 : Int) (i3 : Int) (i4 : Int) (i5 : Int) (i6 : Int) (b7 : Bool) (i8 : Int) (i9 : Int) (i10 : Int) (i11 : Int) (i12 : Int) (i13 : Int) (i14 : Int) (b15 : Bool) (i16 : Int) (i17 : Int) (i18 : Int) (i19 : Int) (i20 : Int) (i21 : Int) (b22 : Bool) (i23 : Int) (i24 : Int) (i25 : Int) (h0 : Does cE 155 [] 0 [.v (.agg #[(.int .i64 (u)), (.int .i64 (x))])] (.v (.bool (b0))) [] 0) (h1 : (!b0) = false) (h2 : decide (sc < 0) = false) (h3 : decide (sc > 6) = false) (h4 : decide (sc ≥ x) = false) (h5 : Does cE 159 [] 0 [.v (.int .i64 (u))] (.v (.agg #[(.int .u64 (i1)), (.int .u64 (i2)), (.int .u64 (i3)), (.int .u64 (i4)), (.int .u64 (i5)), (.int .u64 (i6)), (.bool (b7))])) [] 0) (h6 : Does cE 146 [] 0 [.v (.int .i64 (IntKind.i64.wrap (x - sc)))] (.v (.int .i64 (i8))) [] 0) (h7 : Does cE 159 [] 0 [.v (.int .i64 (i8))] (.v (.agg #[(.int .u64 (i9)), (.int .u64 (i10)), (.int .u64 (i11)), (.int .u64 (i12)), (.int .u64 (i13)), (.int .u64 (i14)), (.bool (b15))])) [] 0) (h8 : Does cE 158 [] 0 [.v (.agg #[(.int .u64 (i1)), (.int .u64 (i2)), (.int .u64 (i3)), (.int .u64 (i4)), (.int .u64 (i5)), (.int .u64 (i6)), (.bool (b7))]), .v (.agg #[(.int .u64 (i9)), (.int .u64 (i10)), (.int .u64 (i11)), (.int .u64 (i12)), (.int .u64 (i13)), (.int .u64 (i14)), (.bool (b15))])] (.v (.agg #[(.int .u64 (i16)), (.int .u64 (i17)), (.int .u64 (i18)), (.int .u64 (i19)), (.int .u64 (i20)), (.int .u64 (i21)), (.bool (b22))])) [] 0) (h9 : Does cE 156 [] 0 [.v (.agg #[(.int .u64 (i16)), (.int .u64 (i17)), (.int .u64 (i18)), (.int .u64 (i19)), (.int .u64 (i20)), (.int .u64 (i21)), (.bool (b22))]), .v (.int .i64 (sc))] (.v (.tuple #[(.agg #[(.int .i64 (i23)), (.int .i64 (i24))]), (.int .i64 (i25))])) [] 0) : Does cE 78 [] 0 [.v (dc u x), .v (it sc)] (.v (.tuple #[(.agg #[(.int .i64 (i23)), (.int .i64 (i24))]), (.int .i64 (i25))])) [] 0 :=
  does_path (ct := ct) ctOk mixed (fn := Tryz.f78) rfl (by kernel_rfl) 2000 [.c (.v (.bool (b0))) [] 0, .f, .f, .f, .f, .f, .f, .f, .f, .c (.v (.agg #[(.int .u64 (i1)), (.int .u64 (i2)), (.int .u64 (i3)), (.int .u64 (i4)), (.int .u64 (i5)), (.int .u64 (i6)), (.bool (b7))])) [] 0, .c (.v (.int .i64 (i8))) [] 0, .c (.v (.agg #[(.int .u64 (i9)), (.int .u64 (i10)), (.int .u64 (i11)), (.int .u64 (i12)), (.int .u64 (i13)), (.int .u64 (i14)), (.bool (b15))])) [] 0, .c (.v (.agg #[(.int .u64 (i16)), (.int .u64 (i17)), (.int .u64 (i18)), (.int .u64 (i19)), (.int .u64 (i20)), (.int .u64 (i21)), (.bool (b22))])) [] 0, .c (.v (.tuple #[(.agg #[(.int .i64 (i23)), (.int .i64 (i24))]), (.int .i64 (i25))])) [] 0] (by kernel_rfl) (cj h0 (cj h1 (cj h1 (cj h1 (cj h2 (cj h2 (cj h2 (cj h3 (cj h4 (cj h5 (cj h6 (cj h7 (cj h8 (cj h9 cj0))))))))))))))
theorem radd_1 (u x v y : Int) (b0 : Bool) (h0 : Does cE 155 [] 0 [.v (.agg #[(.int .i64 (u)), (.int .i64 (x))])] (.v (.bool (b0))) [] 0) (h1 : (!b0) = true) : Does cE 236 [] 0 [.v (dc u x), .v (dc v y)] (.v (.tuple #[(.agg #[(.int .i64 (0)), (.int .i64 (0))]), (.int .i64 (1))])) [] 0 :=
  does_path (ct := ct) ctOk mixed (fn := Tryz.f236) rfl (by kernel_rfl) 2000 [.c (.v (.bool (b0))) [] 0, .t, .t, .t, .t, .l] (by kernel_rfl) (cj h0 (cj h1 (cj h1 (cj h1 (cj h1 cj0)))))
theorem radd_2 (u x v y : Int) (b0 : Bool) (b1 : Bool) (h0 : Does cE 155 [] 0 [.v (.agg #[(.int .i64 (u)), (.int .i64 (x))])] (.v (.bool (b0))) [] 0) (h1 : (!b0) = false) (h2 : Does cE 155 [] 0 [.v (.agg #[(.int .i64 (v)), (.int .i64 (y))])] (.v (.bool (b1))) [] 0) (h3 : (!b1) = true) : Does cE 236 [] 0 [.v (dc u x), .v (dc v y)] (.v (.tuple #[(.agg #[(.int .i64 (0)), (.int .i64 (0))]), (.int .i64 (1))])) [] 0 :=
  does_path (ct := ct) ctOk mixed (fn := Tryz.f236) rfl (by kernel_rfl) 2000 [.c (.v (.bool (b0))) [] 0, .f, .f, .c (.v (.bool (b1))) [] 0, .f, .f, .t] (by kernel_rfl) (cj h0 (cj h1 (cj h1 (cj h2 (cj h1 (cj h1 (cj h3 cj0)))))))
theorem radd_3 (u x v y : Int) (b0 : Bool) (b1 : Bool) (i2 : Int) (i3 : Int) (i4 : Int) (i5 : Int) (i6 : Int) (i7 : Int) (b8 : Bool) (i9 : Int) (i10 : Int) (i11 : Int) (i12 : Int) (i13 : Int) (i14 : Int) (b15 : Bool) (i16 : Int) (i17 : Int) (i18 : Int) (i19 : Int) (i20 : Int) (i21 : Int) (b22 : Bool) (i23 : Int) (i24 : Int) (i25 : Int) (h0 : Does cE 155 [] 0 [.v (.agg #[(.int .i64 (u)), (.int .i64 (x))])] (.v (.bool (b0))) [] 0) (h1 : (!b0) = false) (h2 : Does cE 155 [] 0 [.v (.agg #[(.int .i64 (v)), (.int .i64 (y))])] (.v (.bool (b1))) [] 0) (h3 : (!b1) = false) (h4 : Does cE 157 [] 0 [.v (.agg #[(.int .i64 (u)), (.int .i64 (x))]), .v (.int .i64 (if y > x then y else x))] (.v (.agg #[(.int .u64 (i2)), (.int .u64 (i3)), (.int .u64 (i4)), (.int .u64 (i5)), (.int .u64 (i6)), (.int .u64 (i7)), (.bool (b8))])) [] 0) (h5 : Does cE 157 [] 0 [.v (.agg #[(.int .i64 (v)), (.int .i64 (y))]), .v (.int .i64 (if y > x then y else x))] (.v (.agg #[(.int .u64 (i9)), (.int .u64 (i10)), (.int .u64 (i11)), (.int .u64 (i12)), (.int .u64 (i13)), (.int .u64 (i14)), (.bool (b15))])) [] 0) (h6 : Does cE 179 [] 0 [.v (.agg #[(.int .u64 (i2)), (.int .u64 (i3)), (.int .u64 (i4)), (.int .u64 (i5)), (.int .u64 (i6)), (.int .u64 (i7)), (.bool (b8))]), .v (.agg #[(.int .u64 (i9)), (.int .u64 (i10)), (.int .u64 (i11)), (.int .u64 (i12)), (.int .u64 (i13)), (.int .u64 (i14)), (.bool (b15))])] (.v (.agg #[(.int .u64 (i16)), (.int .u64 (i17)), (.int .u64 (i18)), (.int .u64 (i19)), (.int .u64 (i20)), (.int .u64 (i21)), (.bool (b22))])) [] 0) (h7 : Does cE 156 [] 0 [.v (.agg #[(.int .u64 (i16)), (.int .u64 (i17)), (.int .u64 (i18)), (.int .u64 (i19)), (.int .u64 (i20)), (.int .u64 (i21)), (.bool (b22))]), .v (.int .i64 (if y > x then y else x))] (.v (.tuple #[(.agg #[(.int .i64 (i23)), (.int .i64 (i24))]), (.int .i64 (i25))])) [] 0) : Does cE 236 [] 0 [.v (dc u x), .v (dc v y)] (.v (.tuple #[(.agg #[(.int .i64 (i23)), (.int .i64 (i24))]), (.int .i64 (i25))])) [] 0 :=
  does_path (ct := ct) ctOk mixed (fn := Tryz.f236) rfl (by kernel_rfl) 2000 [.c (.v (.bool (b0))) [] 0, .f, .f, .c (.v (.bool (b1))) [] 0, .f, .f, .f, .c (.v (.agg #[(.int .u64 (i2)), (.int .u64 (i3)), (.int .u64 (i4)), (.int .u64 (i5)), (.int .u64 (i6)), (.int .u64 (i7)), (.bool (b8))])) [] 0, .c (.v (.agg #[(.int .u64 (i9)), (.int .u64 (i10)), (.int .u64 (i11)), (.int .u64 (i12)), (.int .u64 (i13)), (.int .u64 (i14)), (.bool (b15))])) [] 0, .c (.v (.agg #[(.int .u64 (i16)), (.int .u64 (i17)), (.int .u64 (i18)), (.int .u64 (i19)), (.int .u64 (i20)), (.int .u64 (i21)), (.bool (b22))])) [] 0, .c (.v (.tuple #[(.agg #[(.int .i64 (i23)), (.int .i64 (i24))]), (.int .i64 (i25))])) [] 0] (by kernel_rfl) (cj h0 (cj h1 (cj h1 (cj h2 (cj h1 (cj h1 (cj h3 (cj h4 (cj h5 (cj h6 (cj h7 cj0)))))))))))
theorem rsub_1 (u x v y : Int) (b0 : Bool) (h0 : Does cE 155 [] 0 [.v (.agg #[(.int .i64 (u)), (.int .i64 (x))])] (.v (.bool (b0))) [] 0) (h1 : (!b0) = true) : Does cE 162 [] 0 [.v (dc u x), .v (dc v y)] (.v (.tuple #[(.agg #[(.int .i64 (0)), (.int .i64 (0))]), (.int .i64 (1))])) [] 0 :=
  does_path (ct := ct) ctOk mixed (fn := Tryz.f162) rfl (by kernel_rfl) 2000 [.c (.v (.bool (b0))) [] 0, .t, .t, .t, .t, .l] (by kernel_rfl) (cj h0 (cj h1 (cj h1 (cj h1 (cj h1 cj0)))))
theorem rsub_2 (u x v y : Int) (b0 : Bool) (b1 : Bool) (h0 : Does cE 155 [] 0 [.v (.agg #[(.int .i64 (u)), (.int .i64 (x))])] (.v (.bool (b0))) [] 0) (h1 : (!b0) = false) (h2 : Does cE 155 [] 0 [.v (.agg #[(.int .i64 (v)), (.int .i64 (y))])] (.v (.bool (b1))) [] 0) (h3 : (!b1) = true) : Does cE 162 [] 0 [.v (dc u x), .v (dc v y)] (.v (.tuple #[(.agg #[(.int .i64 (0)), (.int .i64 (0))]), (.int .i64 (1))])) [] 0 :=
  does_path (ct := ct) ctOk mixed (fn := Tryz.f162) rfl (by kernel_rfl) 2000 [.c (.v (.bool (b0))) [] 0, .f, .f, .c (.v (.bool (b1))) [] 0, .f, .f, .t] (by kernel_rfl) (cj h0 (cj h1 (cj h1 (cj h2 (cj h1 (cj h1 (cj h3 cj0)))))))
theorem rsub_3 (u x v y : Int) (b0 : Bool) (b1 : Bool) (i2 : Int) (i3 : Int) (i4 : Int) (i5 : Int) (i6 : Int) (i7 : Int) (b8 : Bool) (i9 : Int) (i10 : Int) (i11 : Int) (i12 : Int) (i13 : Int) (i14 : Int) (b15 : Bool) (i16 : Int) (i17 : Int) (i18 : Int) (i19 : Int) (i20 : Int) (i21 : Int) (b22 : Bool) (i23 : Int) (i24 : Int) (i25 : Int) (h0 : Does cE 155 [] 0 [.v (.agg #[(.int .i64 (u)), (.int .i64 (x))])] (.v (.bool (b0))) [] 0) (h1 : (!b0) = false) (h2 : Does cE 155 [] 0 [.v (.agg #[(.int .i64 (v)), (.int .i64 (y))])] (.v (.bool (b1))) [] 0) (h3 : (!b1) = false) (h4 : Does cE 157 [] 0 [.v (.agg #[(.int .i64 (v)), (.int .i64 (y))]), .v (.int .i64 (if y > x then y else x))] (.v (.agg #[(.int .u64 (i2)), (.int .u64 (i3)), (.int .u64 (i4)), (.int .u64 (i5)), (.int .u64 (i6)), (.int .u64 (i7)), (.bool (b8))])) [] 0) (h5 : Does cE 157 [] 0 [.v (.agg #[(.int .i64 (u)), (.int .i64 (x))]), .v (.int .i64 (if y > x then y else x))] (.v (.agg #[(.int .u64 (i9)), (.int .u64 (i10)), (.int .u64 (i11)), (.int .u64 (i12)), (.int .u64 (i13)), (.int .u64 (i14)), (.bool (b15))])) [] 0) (h6 : Does cE 179 [] 0 [.v (.agg #[(.int .u64 (i9)), (.int .u64 (i10)), (.int .u64 (i11)), (.int .u64 (i12)), (.int .u64 (i13)), (.int .u64 (i14)), (.bool (b15))]), .v (.agg #[(.int .u64 (i2)), (.int .u64 (i3)), (.int .u64 (i4)), (.int .u64 (i5)), (.int .u64 (i6)), (.int .u64 (i7)), (.bool (!b8))])] (.v (.agg #[(.int .u64 (i16)), (.int .u64 (i17)), (.int .u64 (i18)), (.int .u64 (i19)), (.int .u64 (i20)), (.int .u64 (i21)), (.bool (b22))])) [] 0) (h7 : Does cE 156 [] 0 [.v (.agg #[(.int .u64 (i16)), (.int .u64 (i17)), (.int .u64 (i18)), (.int .u64 (i19)), (.int .u64 (i20)), (.int .u64 (i21)), (.bool (b22))]), .v (.int .i64 (if y > x then y else x))] (.v (.tuple #[(.agg #[(.int .i64 (i23)), (.int .i64 (i24))]), (.int .i64 (i25))])) [] 0) : Does cE 162 [] 0 [.v (dc u x), .v (dc v y)] (.v (.tuple #[(.agg #[(.int .i64 (i23)), (.int .i64 (i24))]), (.int .i64 (i25))])) [] 0 :=
  does_path (ct := ct) ctOk mixed (fn := Tryz.f162) rfl (by kernel_rfl) 2000 [.c (.v (.bool (b0))) [] 0, .f, .f, .c (.v (.bool (b1))) [] 0, .f, .f, .f, .c (.v (.agg #[(.int .u64 (i2)), (.int .u64 (i3)), (.int .u64 (i4)), (.int .u64 (i5)), (.int .u64 (i6)), (.int .u64 (i7)), (.bool (b8))])) [] 0, .c (.v (.agg #[(.int .u64 (i9)), (.int .u64 (i10)), (.int .u64 (i11)), (.int .u64 (i12)), (.int .u64 (i13)), (.int .u64 (i14)), (.bool (b15))])) [] 0, .c (.v (.agg #[(.int .u64 (i16)), (.int .u64 (i17)), (.int .u64 (i18)), (.int .u64 (i19)), (.int .u64 (i20)), (.int .u64 (i21)), (.bool (b22))])) [] 0, .c (.v (.tuple #[(.agg #[(.int .i64 (i23)), (.int .i64 (i24))]), (.int .i64 (i25))])) [] 0] (by kernel_rfl) (cj h0 (cj h1 (cj h1 (cj h2 (cj h1 (cj h1 (cj h3 (cj h4 (cj h5 (cj h6 (cj h7 cj0)))))))))))
theorem rneg_1 (u x : Int) (i0 : Int) (i1 : Int) (i2 : Int) (h0 : Does cE 162 [] 0 [.v (.agg #[(.int .i64 (0)), (.int .i64 (x))]), .v (.agg #[(.int .i64 (u)), (.int .i64 (x))])] (.v (.tuple #[(.agg #[(.int .i64 (i0)), (.int .i64 (i1))]), (.int .i64 (i2))])) [] 0) : Does cE 88 [] 0 [.v (dc u x)] (.v (.tuple #[(.agg #[(.int .i64 (i0)), (.int .i64 (i1))]), (.int .i64 (i2))])) [] 0 :=
  does_path (ct := ct) ctOk mixed (fn := Tryz.f88) rfl (by kernel_rfl) 2000 [.c (.v (.tuple #[(.agg #[(.int .i64 (i0)), (.int .i64 (i1))]), (.int .i64 (i2))])) [] 0] (by kernel_rfl) (cj h0 cj0)
theorem rmul_1 (u x v y : Int) (b0 : Bool) (h0 : Does cE 155 [] 0 [.v (.agg #[(.int .i64 (u)), (.int .i64 (x))])] (.v (.bool (b0))) [] 0) (h1 : (!b0) = true) : Does cE 234 [] 0 [.v (dc u x), .v (dc v y)] (.v (.tuple #[(.agg #[(.int .i64 (0)), (.int .i64 (0))]), (.int .i64 (1))])) [] 0 :=
  does_path (ct := ct) ctOk mixed (fn := Tryz.f234) rfl (by kernel_rfl) 2000 [.c (.v (.bool (b0))) [] 0, .t, .t, .t, .t, .l] (by kernel_rfl) (cj h0 (cj h1 (cj h1 (cj h1 (cj h1 cj0)))))
theorem rmul_2 (u x v y : Int) (b0 : Bool) (b1 : Bool) (h0 : Does cE 155 [] 0 [.v (.agg #[(.int .i64 (u)), (.int .i64 (x))])] (.v (.bool (b0))) [] 0) (h1 : (!b0) = false) (h2 : Does cE 155 [] 0 [.v (.agg #[(.int .i64 (v)), (.int .i64 (y))])] (.v (.bool (b1))) [] 0) (h3 : (!b1) = true) : Does cE 234 [] 0 [.v (dc u x), .v (dc v y)] (.v (.tuple #[(.agg #[(.int .i64 (0)), (.int .i64 (0))]), (.int .i64 (1))])) [] 0 :=
  does_path (ct := ct) ctOk mixed (fn := Tryz.f234) rfl (by kernel_rfl) 2000 [.c (.v (.bool (b0))) [] 0, .f, .f, .c (.v (.bool (b1))) [] 0, .f, .f, .t] (by kernel_rfl) (cj h0 (cj h1 (cj h1 (cj h2 (cj h1 (cj h1 (cj h3 cj0)))))))
theorem rmul_3 (u x v y : Int) (b0 : Bool) (b1 : Bool) (i2 : Int) (i3 : Int) (i4 : Int) (i5 : Int) (i6 : Int) (i7 : Int) (b8 : Bool) (i9 : Int) (i10 : Int) (i11 : Int) (i12 : Int) (i13 : Int) (i14 : Int) (b15 : Bool) (i16 : Int) (i17 : Int) (i18 : Int) (i19 : Int) (i20 : Int) (i21 : Int) (b22 : Bool) (i23 : Int) (i24 : Int) (i25 : Int) (i26 : Int) (i27 : Int) (i28 : Int) (i29 : Int) (b30 : Bool) (i31 : Int) (i32 : Int) (i33 : Int) (i34 : Int) (i35 : Int) (i36 : Int) (b37 : Bool) (i38 : Int) (i39 : Int) (i40 : Int) (h0 : Does cE 155 [] 0 [.v (.agg #[(.int .i64 (u)), (.int .i64 (x))])] (.v (.bool (b0))) [] 0) (h1 : (!b0) = false) (h2 : Does cE 155 [] 0 [.v (.agg #[(.int .i64 (v)), (.int .i64 (y))])] (.v (.bool (b1))) [] 0) (h3 : (!b1) = false) (h4 : Does cE 159 [] 0 [.v (.int .i64 (u))] (.v (.agg #[(.int .u64 (i2)), (.int .u64 (i3)), (.int .u64 (i4)), (.int .u64 (i5)), (.int .u64 (i6)), (.int .u64 (i7)), (.bool (b8))])) [] 0) (h5 : Does cE 159 [] 0 [.v (.int .i64 (v))] (.v (.agg #[(.int .u64 (i9)), (.int .u64 (i10)), (.int .u64 (i11)), (.int .u64 (i12)), (.int .u64 (i13)), (.int .u64 (i14)), (.bool (b15))])) [] 0) (h6 : Does cE 191 [] 0 [.v (.agg #[(.int .u64 (i2)), (.int .u64 (i3)), (.int .u64 (i4)), (.int .u64 (i5)), (.int .u64 (i6)), (.int .u64 (i7)), (.bool (b8))]), .v (.agg #[(.int .u64 (i9)), (.int .u64 (i10)), (.int .u64 (i11)), (.int .u64 (i12)), (.int .u64 (i13)), (.int .u64 (i14)), (.bool (b15))])] (.v (.agg #[(.int .u64 (i16)), (.int .u64 (i17)), (.int .u64 (i18)), (.int .u64 (i19)), (.int .u64 (i20)), (.int .u64 (i21)), (.bool (b22))])) [] 0) (h7 : decide (IntKind.i64.wrap (x + y) > 6) = true) (h8 : Does cE 146 [] 0 [.v (.int .i64 (IntKind.i64.wrap (IntKind.i64.wrap (x + y) - 6)))] (.v (.int .i64 (i23))) [] 0) (h9 : Does cE 159 [] 0 [.v (.int .i64 (i23))] (.v (.agg #[(.int .u64 (i24)), (.int .u64 (i25)), (.int .u64 (i26)), (.int .u64 (i27)), (.int .u64 (i28)), (.int .u64 (i29)), (.bool (b30))])) [] 0) (h10 : Does cE 158 [] 0 [.v (.agg #[(.int .u64 (i16)), (.int .u64 (i17)), (.int .u64 (i18)), (.int .u64 (i19)), (.int .u64 (i20)), (.int .u64 (i21)), (.bool (!decide (u < 0) == decide (v < 0)))]), .v (.agg #[(.int .u64 (i24)), (.int .u64 (i25)), (.int .u64 (i26)), (.int .u64 (i27)), (.int .u64 (i28)), (.int .u64 (i29)), (.bool (b30))])] (.v (.agg #[(.int .u64 (i31)), (.int .u64 (i32)), (.int .u64 (i33)), (.int .u64 (i34)), (.int .u64 (i35)), (.int .u64 (i36)), (.bool (b37))])) [] 0) (h11 : Does cE 156 [] 0 [.v (.agg #[(.int .u64 (i31)), (.int .u64 (i32)), (.int .u64 (i33)), (.int .u64 (i34)), (.int .u64 (i35)), (.int .u64 (i36)), (.bool (b37))]), .v (.int .i64 (6))] (.v (.tuple #[(.agg #[(.int .i64 (i38)), (.int .i64 (i39))]), (.int .i64 (i40))])) [] 0) : Does cE 234 [] 0 [.v (dc u x), .v (dc v y)] (.v (.tuple #[(.agg #[(.int .i64 (i38)), (.int .i64 (i39))]), (.int .i64 (i40))])) [] 0 :=
  does_path (ct := ct) ctOk mixed (fn := Tryz.f234) rfl (by kernel_rfl) 2000 [.c (.v (.bool (b0))) [] 0, .f, .f, .c (.v (.bool (b1))) [] 0, .f, .f, .f, .c (.v (.agg #[(.int .u64 (i2)), (.int .u64 (i3)), (.int .u64 (i4)), (.int .u64 (i5)), (.int .u64 (i6)), (.int .u64 (i7)), (.bool (b8))])) [] 0, .c (.v (.agg #[(.int .u64 (i9)), (.int .u64 (i10)), (.int .u64 (i11)), (.int .u64 (i12)), (.int .u64 (i13)), (.int .u64 (i14)), (.bool (b15))])) [] 0, .c (.v (.agg #[(.int .u64 (i16)), (.int .u64 (i17)), (.int .u64 (i18)), (.int .u64 (i19)), (.int .u64 (i20)), (.int .u64 (i21)), (.bool (b22))])) [] 0, .t, .c (.v (.int .i64 (i23))) [] 0, .c (.v (.agg #[(.int .u64 (i24)), (.int .u64 (i25)), (.int .u64 (i26)), (.int .u64 (i27)), (.int .u64 (i28)), (.int .u64 (i29)), (.bool (b30))])) [] 0, .c (.v (.agg #[(.int .u64 (i31)), (.int .u64 (i32)), (.int .u64 (i33)), (.int .u64 (i34)), (.int .u64 (i35)), (.int .u64 (i36)), (.bool (b37))])) [] 0, .c (.v (.tuple #[(.agg #[(.int .i64 (i38)), (.int .i64 (i39))]), (.int .i64 (i40))])) [] 0] (by kernel_rfl) (cj h0 (cj h1 (cj h1 (cj h2 (cj h1 (cj h1 (cj h3 (cj h4 (cj h5 (cj h6 (cj h7 (cj h8 (cj h9 (cj h10 (cj h11 cj0)))))))))))))))
theorem rmul_4 (u x v y : Int) (b0 : Bool) (b1 : Bool) (i2 : Int) (i3 : Int) (i4 : Int) (i5 : Int) (i6 : Int) (i7 : Int) (b8 : Bool) (i9 : Int) (i10 : Int) (i11 : Int) (i12 : Int) (i13 : Int) (i14 : Int) (b15 : Bool) (i16 : Int) (i17 : Int) (i18 : Int) (i19 : Int) (i20 : Int) (i21 : Int) (b22 : Bool) (i23 : Int) (i24 : Int) (i25 : Int) (h0 : Does cE 155 [] 0 [.v (.agg #[(.int .i64 (u)), (.int .i64 (x))])] (.v (.bool (b0))) [] 0) (h1 : (!b0) = false) (h2 : Does cE 155 [] 0 [.v (.agg #[(.int .i64 (v)), (.int .i64 (y))])] (.v (.bool (b1))) [] 0) (h3 : (!b1) = false) (h4 : Does cE 159 [] 0 [.v (.int .i64 (u))] (.v (.agg #[(.int .u64 (i2)), (.int .u64 (i3)), (.int .u64 (i4)), (.int .u64 (i5)), (.int .u64 (i6)), (.int .u64 (i7)), (.bool (b8))])) [] 0) (h5 : Does cE 159 [] 0 [.v (.int .i64 (v))] (.v (.agg #[(.int .u64 (i9)), (.int .u64 (i10)), (.int .u64 (i11)), (.int .u64 (i12)), (.int .u64 (i13)), (.int .u64 (i14)), (.bool (b15))])) [] 0) (h6 : Does cE 191 [] 0 [.v (.agg #[(.int .u64 (i2)), (.int .u64 (i3)), (.int .u64 (i4)), (.int .u64 (i5)), (.int .u64 (i6)), (.int .u64 (i7)), (.bool (b8))]), .v (.agg #[(.int .u64 (i9)), (.int .u64 (i10)), (.int .u64 (i11)), (.int .u64 (i12)), (.int .u64 (i13)), (.int .u64 (i14)), (.bool (b15))])] (.v (.agg #[(.int .u64 (i16)), (.int .u64 (i17)), (.int .u64 (i18)), (.int .u64 (i19)), (.int .u64 (i20)), (.int .u64 (i21)), (.bool (b22))])) [] 0) (h7 : decide (IntKind.i64.wrap (x + y) > 6) = false) (h8 : Does cE 156 [] 0 [.v (.agg #[(.int .u64 (i16)), (.int .u64 (i17)), (.int .u64 (i18)), (.int .u64 (i19)), (.int .u64 (i20)), (.int .u64 (i21)), (.bool (!decide (u < 0) == decide (v < 0)))]), .v (.int .i64 (IntKind.i64.wrap (x + y)))] (.v (.tuple #[(.agg #[(.int .i64 (i23)), (.int .i64 (i24))]), (.int .i64 (i25))])) [] 0) : Does cE 234 [] 0 [.v (dc u x), .v (dc v y)] (.v (.tuple #[(.agg #[(.int .i64 (i23)), (.int .i64 (i24))]), (.int .i64 (i25))])) [] 0 :=
  does_path (ct := ct) ctOk mixed (fn := Tryz.f234) rfl (by kernel_rfl) 2000 [.c (.v (.bool (b0))) [] 0, .f, .f, .c (.v (.bool (b1))) [] 0, .f, .f, .f, .c (.v (.agg #[(.int .u64 (i2)), (.int .u64 (i3)), (.int .u64 (i4)), (.int .u64 (i5)), (.int .u64 (i6)), (.int .u64 (i7)), (.bool (b8))])) [] 0, .c (.v (.agg #[(.int .u64 (i9)), (.int .u64 (i10)), (.int .u64 (i11)), (.int .u64 (i12)), (.int .u64 (i13)), (.int .u64 (i14)), (.bool (b15))])) [] 0, .c (.v (.agg #[(.int .u64 (i16)), (.int .u64 (i17)), (.int .u64 (i18)), (.int .u64 (i19)), (.int .u64 (i20)), (.int .u64 (i21)), (.bool (b22))])) [] 0, .f, .c (.v (.tuple #[(.agg #[(.int .i64 (i23)), (.int .i64 (i24))]), (.int .i64 (i25))])) [] 0] (by kernel_rfl) (cj h0 (cj h1 (cj h1 (cj h2 (cj h1 (cj h1 (cj h3 (cj h4 (cj h5 (cj h6 (cj h7 (cj h8 cj0))))))))))))
theorem rdiv_1 (u x v y sc : Int) (b0 : Bool) (h0 : Does cE 155 [] 0 [.v (.agg #[(.int .i64 (u)), (.int .i64 (x))])] (.v (.bool (b0))) [] 0) (h1 : (!b0) = true) : Does cE 235 [] 0 [.v (dc u x), .v (dc v y), .v (it sc)] (.v (.tuple #[(.agg #[(.int .i64 (0)), (.int .i64 (0))]), (.int .i64 (1))])) [] 0 :=
  does_path (ct := ct) ctOk mixed (fn := Tryz.f235) rfl (by kernel_rfl) 2000 [.c (.v (.bool (b0))) [] 0, .t, .t, .t, .t, .l, .l, .l, .l, .l, .l, .l] (by kernel_rfl) (cj h0 (cj h1 (cj h1 (cj h1 (cj h1 cj0)))))
theorem rdiv_2 (u x v y sc : Int) (b0 : Bool) (b1 : Bool) (h0 : Does cE 155 [] 0 [.v (.agg #[(.int .i64 (u)), (.int .i64 (x))])] (.v (.bool (b0))) [] 0) (h1 : (!b0) = false) (h2 : Does cE 155 [] 0 [.v (.agg #[(.int .i64 (v)), (.int .i64 (y))])] (.v (.bool (b1))) [] 0) (h3 : (!b1) = true) : Does cE 235 [] 0 [.v (dc u x), .v (dc v y), .v (it sc)] (.v (.tuple #[(.agg #[(.int .i64 (0)), (.int .i64 (0))]), (.int .i64 (1))])) [] 0 :=
  does_path (ct := ct) ctOk mixed (fn := Tryz.f235) rfl (by kernel_rfl) 2000 [.c (.v (.bool (b0))) [] 0, .f, .f, .c (.v (.bool (b1))) [] 0, .f, .f, .t, .t, .t, .l, .l, .l, .l] (by kernel_rfl) (cj h0 (cj h1 (cj h1 (cj h2 (cj h1 (cj h1 (cj h3 (cj h3 (cj h3 cj0)))))))))
theorem rdiv_3 (u x v y sc : Int) (b0 : Bool) (b1 : Bool) (h0 : Does cE 155 [] 0 [.v (.agg #[(.int .i64 (u)), (.int .i64 (x))])] (.v (.bool (b0))) [] 0) (h1 : (!b0) = false) (h2 : Does cE 155 [] 0 [.v (.agg #[(.int .i64 (v)), (.int .i64 (y))])] (.v (.bool (b1))) [] 0) (h3 : (!b1) = false) (h4 : decide (sc < 0) = true) : Does cE 235 [] 0 [.v (dc u x), .v (dc v y), .v (it sc)] (.v (.tuple #[(.agg #[(.int .i64 (0)), (.int .i64 (0))]), (.int .i64 (1))])) [] 0 :=
  does_path (ct := ct) ctOk mixed (fn := Tryz.f235) rfl (by kernel_rfl) 2000 [.c (.v (.bool (b0))) [] 0, .f, .f, .c (.v (.bool (b1))) [] 0, .f, .f, .f, .f, .f, .t, .t, .t, .l] (by kernel_rfl) (cj h0 (cj h1 (cj h1 (cj h2 (cj h1 (cj h1 (cj h3 (cj h3 (cj h3 (cj h4 (cj h4 (cj h4 cj0))))))))))))
theorem rdiv_4 (u x v y sc : Int) (b0 : Bool) (b1 : Bool) (h0 : Does cE 155 [] 0 [.v (.agg #[(.int .i64 (u)), (.int .i64 (x))])] (.v (.bool (b0))) [] 0) (h1 : (!b0) = false) (h2 : Does cE 155 [] 0 [.v (.agg #[(.int .i64 (v)), (.int .i64 (y))])] (.v (.bool (b1))) [] 0) (h3 : (!b1) = false) (h4 : decide (sc < 0) = false) (h5 : decide (sc > 6) = true) : Does cE 235 [] 0 [.v (dc u x), .v (dc v y), .v (it sc)] (.v (.tuple #[(.agg #[(.int .i64 (0)), (.int .i64 (0))]), (.int .i64 (1))])) [] 0 :=
  does_path (ct := ct) ctOk mixed (fn := Tryz.f235) rfl (by kernel_rfl) 2000 [.c (.v (.bool (b0))) [] 0, .f, .f, .c (.v (.bool (b1))) [] 0, .f, .f, .f, .f, .f, .f, .f, .f, .t] (by kernel_rfl) (cj h0 (cj h1 (cj h1 (cj h2 (cj h1 (cj h1 (cj h3 (cj h3 (cj h3 (cj h4 (cj h4 (cj h4 (cj h5 cj0)))))))))))))
theorem rdiv_5 (u x v y sc : Int) (b0 : Bool) (b1 : Bool) (h0 : Does cE 155 [] 0 [.v (.agg #[(.int .i64 (u)), (.int .i64 (x))])] (.v (.bool (b0))) [] 0) (h1 : (!b0) = false) (h2 : Does cE 155 [] 0 [.v (.agg #[(.int .i64 (v)), (.int .i64 (y))])] (.v (.bool (b1))) [] 0) (h3 : (!b1) = false) (h4 : decide (sc < 0) = false) (h5 : decide (sc > 6) = false) (h6 : (v == 0) = true) : Does cE 235 [] 0 [.v (dc u x), .v (dc v y), .v (it sc)] (.v (.tuple #[(.agg #[(.int .i64 (0)), (.int .i64 (0))]), (.int .i64 (33))])) [] 0 :=
  does_path (ct := ct) ctOk mixed (fn := Tryz.f235) rfl (by kernel_rfl) 2000 [.c (.v (.bool (b0))) [] 0, .f, .f, .c (.v (.bool (b1))) [] 0, .f, .f, .f, .f, .f, .f, .f, .f, .f, .t] (by kernel_rfl) (cj h0 (cj h1 (cj h1 (cj h2 (cj h1 (cj h1 (cj h3 (cj h3 (cj h3 (cj h4 (cj h4 (cj h4 (cj h5 (cj h6 cj0))))))))))))))
theorem rdiv_6 (u x v y sc : Int) (b0 : Bool) (b1 : Bool) (i2 : Int) (i3 : Int) (i4 : Int) (i5 : Int) (i6 : Int) (i7 : Int) (b8 : Bool) (i9 : Int) (i10 : Int) (i11 : Int) (i12 : Int) (i13 : Int) (i14 : Int) (i15 : Int) (b16 : Bool) (i17 : Int) (i18 : Int) (i19 : Int) (i20 : Int) (i21 : Int) (i22 : Int) (b23 : Bool) (i24 : Int) (i25 : Int) (i26 : Int) (i27 : Int) (i28 : Int) (i29 : Int) (b30 : Bool) (i31 : Int) (i32 : Int) (i33 : Int) (i34 : Int) (i35 : Int) (i36 : Int) (i37 : Int) (b38 : Bool) (i39 : Int) (i40 : Int) (i41 : Int) (i42 : Int) (i43 : Int) (i44 : Int) (b45 : Bool) (i46 : Int) (i47 : Int) (i48 : Int) (i49 : Int) (i50 : Int) (i51 : Int) (b52 : Bool) (i53 : Int) (i54 : Int) (i55 : Int) (h0 : Does cE 155 [] 0 [.v (.agg #[(.int .i64 (u)), (.int .i64 (x))])] (.v (.bool (b0))) [] 0) (h1 : (!b0) = false) (h2 : Does cE 155 [] 0 [.v (.agg #[(.int .i64 (v)), (.int .i64 (y))])] (.v (.bool (b1))) [] 0) (h3 : (!b1) = false) (h4 : decide (sc < 0) = false) (h5 : decide (sc > 6) = false) (h6 : (v == 0) = false) (h7 : Does cE 159 [] 0 [.v (.int .i64 (u))] (.v (.agg #[(.int .u64 (i2)), (.int .u64 (i3)), (.int .u64 (i4)), (.int .u64 (i5)), (.int .u64 (i6)), (.int .u64 (i7)), (.bool (b8))])) [] 0) (h8 : Does cE 146 [] 0 [.v (.int .i64 (IntKind.i64.wrap (y + sc)))] (.v (.int .i64 (i9))) [] 0) (h9 : Does cE 159 [] 0 [.v (.int .i64 (i9))] (.v (.agg #[(.int .u64 (i10)), (.int .u64 (i11)), (.int .u64 (i12)), (.int .u64 (i13)), (.int .u64 (i14)), (.int .u64 (i15)), (.bool (b16))])) [] 0) (h10 : Does cE 191 [] 0 [.v (.agg #[(.int .u64 (i2)), (.int .u64 (i3)), (.int .u64 (i4)), (.int .u64 (i5)), (.int .u64 (i6)), (.int .u64 (i7)), (.bool (b8))]), .v (.agg #[(.int .u64 (i10)), (.int .u64 (i11)), (.int .u64 (i12)), (.int .u64 (i13)), (.int .u64 (i14)), (.int .u64 (i15)), (.bool (b16))])] (.v (.agg #[(.int .u64 (i17)), (.int .u64 (i18)), (.int .u64 (i19)), (.int .u64 (i20)), (.int .u64 (i21)), (.int .u64 (i22)), (.bool (b23))])) [] 0) (h11 : Does cE 159 [] 0 [.v (.int .i64 (v))] (.v (.agg #[(.int .u64 (i24)), (.int .u64 (i25)), (.int .u64 (i26)), (.int .u64 (i27)), (.int .u64 (i28)), (.int .u64 (i29)), (.bool (b30))])) [] 0) (h12 : Does cE 146 [] 0 [.v (.int .i64 (x))] (.v (.int .i64 (i31))) [] 0) (h13 : Does cE 159 [] 0 [.v (.int .i64 (i31))] (.v (.agg #[(.int .u64 (i32)), (.int .u64 (i33)), (.int .u64 (i34)), (.int .u64 (i35)), (.int .u64 (i36)), (.int .u64 (i37)), (.bool (b38))])) [] 0) (h14 : Does cE 191 [] 0 [.v (.agg #[(.int .u64 (i24)), (.int .u64 (i25)), (.int .u64 (i26)), (.int .u64 (i27)), (.int .u64 (i28)), (.int .u64 (i29)), (.bool (b30))]), .v (.agg #[(.int .u64 (i32)), (.int .u64 (i33)), (.int .u64 (i34)), (.int .u64 (i35)), (.int .u64 (i36)), (.int .u64 (i37)), (.bool (b38))])] (.v (.agg #[(.int .u64 (i39)), (.int .u64 (i40)), (.int .u64 (i41)), (.int .u64 (i42)), (.int .u64 (i43)), (.int .u64 (i44)), (.bool (b45))])) [] 0) (h15 : Does cE 158 [] 0 [.v (.agg #[(.int .u64 (i17)), (.int .u64 (i18)), (.int .u64 (i19)), (.int .u64 (i20)), (.int .u64 (i21)), (.int .u64 (i22)), (.bool (!decide (u < 0) == decide (v < 0)))]), .v (.agg #[(.int .u64 (i39)), (.int .u64 (i40)), (.int .u64 (i41)), (.int .u64 (i42)), (.int .u64 (i43)), (.int .u64 (i44)), (.bool (b45))])] (.v (.agg #[(.int .u64 (i46)), (.int .u64 (i47)), (.int .u64 (i48)), (.int .u64 (i49)), (.int .u64 (i50)), (.int .u64 (i51)), (.bool (b52))])) [] 0) (h16 : Does cE 156 [] 0 [.v (.agg #[(.int .u64 (i46)), (.int .u64 (i47)), (.int .u64 (i48)), (.int .u64 (i49)), (.int .u64 (i50)), (.int .u64 (i51)), (.bool (b52))]), .v (.int .i64 (sc))] (.v (.tuple #[(.agg #[(.int .i64 (i53)), (.int .i64 (i54))]), (.int .i64 (i55))])) [] 0) : Does cE 235 [] 0 [.v (dc u x), .v (dc v y), .v (it sc)] (.v (.tuple #[(.agg #[(.int .i64 (i53)), (.int .i64 (i54))]), (.int .i64 (i55))])) [] 0 :=
  does_path (ct := ct) ctOk mixed (fn := Tryz.f235) rfl (by kernel_rfl) 2000 [.c (.v (.bool (b0))) [] 0, .f, .f, .c (.v (.bool (b1))) [] 0, .f, .f, .f, .f, .f, .f, .f, .f, .f, .f, .c (.v (.agg #[(.int .u64 (i2)), (.int .u64 (i3)), (.int .u64 (i4)), (.int .u64 (i5)), (.int .u64 (i6)), (.int .u64 (i7)), (.bool (b8))])) [] 0, .c (.v (.int .i64 (i9))) [] 0, .c (.v (.agg #[(.int .u64 (i10)), (.int .u64 (i11)), (.int .u64 (i12)), (.int .u64 (i13)), (.int .u64 (i14)), (.int .u64 (i15)), (.bool (b16))])) [] 0, .c (.v (.agg #[(.int .u64 (i17)), (.int .u64 (i18)), (.int .u64 (i19)), (.int .u64 (i20)), (.int .u64 (i21)), (.int .u64 (i22)), (.bool (b23))])) [] 0, .c (.v (.agg #[(.int .u64 (i24)), (.int .u64 (i25)), (.int .u64 (i26)), (.int .u64 (i27)), (.int .u64 (i28)), (.int .u64 (i29)), (.bool (b30))])) [] 0, .c (.v (.int .i64 (i31))) [] 0, .c (.v (.agg #[(.int .u64 (i32)), (.int .u64 (i33)), (.int .u64 (i34)), (.int .u64 (i35)), (.int .u64 (i36)), (.int .u64 (i37)), (.bool (b38))])) [] 0, .c (.v (.agg #[(.int .u64 (i39)), (.int .u64 (i40)), (.int .u64 (i41)), (.int .u64 (i42)), (.int .u64 (i43)), (.int .u64 (i44)), (.bool (b45))])) [] 0, .c (.v (.agg #[(.int .u64 (i46)), (.int .u64 (i47)), (.int .u64 (i48)), (.int .u64 (i49)), (.int .u64 (i50)), (.int .u64 (i51)), (.bool (b52))])) [] 0, .c (.v (.tuple #[(.agg #[(.int .i64 (i53)), (.int .i64 (i54))]), (.int .i64 (i55))])) [] 0] (by kernel_rfl) (cj h0 (cj h1 (cj h1 (cj h2 (cj h1 (cj h1 (cj h3 (cj h3 (cj h3 (cj h4 (cj h4 (cj h4 (cj h5 (cj h6 (cj h7 (cj h8 (cj h9 (cj h10 (cj h11 (cj h12 (cj h13 (cj h14 (cj h15 (cj h16 cj0))))))))))))))))))))))))
theorem rcmp_1 (u x v y : Int) (b0 : Bool) (h0 : Does cE 155 [] 0 [.v (.agg #[(.int .i64 (u)), (.int .i64 (x))])] (.v (.bool (b0))) [] 0) (h1 : (!b0) = true) : Does cE 100 [] 0 [.v (dc u x), .v (dc v y)] (.v (.int .i64 (0))) [] 0 :=
  does_path (ct := ct) ctOk mixed (fn := Tryz.f100) rfl (by kernel_rfl) 2000 [.c (.v (.bool (b0))) [] 0, .t, .t, .t, .t, .l] (by kernel_rfl) (cj h0 (cj h1 (cj h1 (cj h1 (cj h1 cj0)))))
theorem rcmp_2 (u x v y : Int) (b0 : Bool) (b1 : Bool) (h0 : Does cE 155 [] 0 [.v (.agg #[(.int .i64 (u)), (.int .i64 (x))])] (.v (.bool (b0))) [] 0) (h1 : (!b0) = false) (h2 : Does cE 155 [] 0 [.v (.agg #[(.int .i64 (v)), (.int .i64 (y))])] (.v (.bool (b1))) [] 0) (h3 : (!b1) = true) : Does cE 100 [] 0 [.v (dc u x), .v (dc v y)] (.v (.int .i64 (0))) [] 0 :=
  does_path (ct := ct) ctOk mixed (fn := Tryz.f100) rfl (by kernel_rfl) 2000 [.c (.v (.bool (b0))) [] 0, .f, .f, .c (.v (.bool (b1))) [] 0, .f, .f, .t] (by kernel_rfl) (cj h0 (cj h1 (cj h1 (cj h2 (cj h1 (cj h1 (cj h3 cj0)))))))
theorem rcmp_3 (u x v y : Int) (b0 : Bool) (b1 : Bool) (i2 : Int) (i3 : Int) (i4 : Int) (i5 : Int) (i6 : Int) (i7 : Int) (b8 : Bool) (i9 : Int) (i10 : Int) (i11 : Int) (i12 : Int) (i13 : Int) (i14 : Int) (b15 : Bool) (i16 : Int) (i17 : Int) (i18 : Int) (i19 : Int) (i20 : Int) (i21 : Int) (b22 : Bool) (b23 : Bool) (h0 : Does cE 155 [] 0 [.v (.agg #[(.int .i64 (u)), (.int .i64 (x))])] (.v (.bool (b0))) [] 0) (h1 : (!b0) = false) (h2 : Does cE 155 [] 0 [.v (.agg #[(.int .i64 (v)), (.int .i64 (y))])] (.v (.bool (b1))) [] 0) (h3 : (!b1) = false) (h4 : Does cE 157 [] 0 [.v (.agg #[(.int .i64 (v)), (.int .i64 (y))]), .v (.int .i64 (6))] (.v (.agg #[(.int .u64 (i2)), (.int .u64 (i3)), (.int .u64 (i4)), (.int .u64 (i5)), (.int .u64 (i6)), (.int .u64 (i7)), (.bool (b8))])) [] 0) (h5 : Does cE 157 [] 0 [.v (.agg #[(.int .i64 (u)), (.int .i64 (x))]), .v (.int .i64 (6))] (.v (.agg #[(.int .u64 (i9)), (.int .u64 (i10)), (.int .u64 (i11)), (.int .u64 (i12)), (.int .u64 (i13)), (.int .u64 (i14)), (.bool (b15))])) [] 0) (h6 : Does cE 179 [] 0 [.v (.agg #[(.int .u64 (i9)), (.int .u64 (i10)), (.int .u64 (i11)), (.int .u64 (i12)), (.int .u64 (i13)), (.int .u64 (i14)), (.bool (b15))]), .v (.agg #[(.int .u64 (i2)), (.int .u64 (i3)), (.int .u64 (i4)), (.int .u64 (i5)), (.int .u64 (i6)), (.int .u64 (i7)), (.bool (!b8))])] (.v (.agg #[(.int .u64 (i16)), (.int .u64 (i17)), (.int .u64 (i18)), (.int .u64 (i19)), (.int .u64 (i20)), (.int .u64 (i21)), (.bool (b22))])) [] 0) (h7 : Does cE 180 [] 0 [.v (.agg #[(.int .u64 (i16)), (.int .u64 (i17)), (.int .u64 (i18)), (.int .u64 (i19)), (.int .u64 (i20)), (.int .u64 (i21)), (.bool (b22))])] (.v (.bool (b23))) [] 0) (h8 : b23 = true) : Does cE 100 [] 0 [.v (dc u x), .v (dc v y)] (.v (.int .i64 (0))) [] 0 :=
  does_path (ct := ct) ctOk mixed (fn := Tryz.f100) rfl (by kernel_rfl) 2000 [.c (.v (.bool (b0))) [] 0, .f, .f, .c (.v (.bool (b1))) [] 0, .f, .f, .f, .c (.v (.agg #[(.int .u64 (i2)), (.int .u64 (i3)), (.int .u64 (i4)), (.int .u64 (i5)), (.int .u64 (i6)), (.int .u64 (i7)), (.bool (b8))])) [] 0, .c (.v (.agg #[(.int .u64 (i9)), (.int .u64 (i10)), (.int .u64 (i11)), (.int .u64 (i12)), (.int .u64 (i13)), (.int .u64 (i14)), (.bool (b15))])) [] 0, .c (.v (.agg #[(.int .u64 (i16)), (.int .u64 (i17)), (.int .u64 (i18)), (.int .u64 (i19)), (.int .u64 (i20)), (.int .u64 (i21)), (.bool (b22))])) [] 0, .c (.v (.bool (b23))) [] 0, .t] (by kernel_rfl) (cj h0 (cj h1 (cj h1 (cj h2 (cj h1 (cj h1 (cj h3 (cj h4 (cj h5 (cj h6 (cj h7 (cj h8 cj0))))))))))))
theorem rcmp_4 (u x v y : Int) (b0 : Bool) (b1 : Bool) (i2 : Int) (i3 : Int) (i4 : Int) (i5 : Int) (i6 : Int) (i7 : Int) (b8 : Bool) (i9 : Int) (i10 : Int) (i11 : Int) (i12 : Int) (i13 : Int) (i14 : Int) (b15 : Bool) (i16 : Int) (i17 : Int) (i18 : Int) (i19 : Int) (i20 : Int) (i21 : Int) (b22 : Bool) (b23 : Bool) (h0 : Does cE 155 [] 0 [.v (.agg #[(.int .i64 (u)), (.int .i64 (x))])] (.v (.bool (b0))) [] 0) (h1 : (!b0) = false) (h2 : Does cE 155 [] 0 [.v (.agg #[(.int .i64 (v)), (.int .i64 (y))])] (.v (.bool (b1))) [] 0) (h3 : (!b1) = false) (h4 : Does cE 157 [] 0 [.v (.agg #[(.int .i64 (v)), (.int .i64 (y))]), .v (.int .i64 (6))] (.v (.agg #[(.int .u64 (i2)), (.int .u64 (i3)), (.int .u64 (i4)), (.int .u64 (i5)), (.int .u64 (i6)), (.int .u64 (i7)), (.bool (b8))])) [] 0) (h5 : Does cE 157 [] 0 [.v (.agg #[(.int .i64 (u)), (.int .i64 (x))]), .v (.int .i64 (6))] (.v (.agg #[(.int .u64 (i9)), (.int .u64 (i10)), (.int .u64 (i11)), (.int .u64 (i12)), (.int .u64 (i13)), (.int .u64 (i14)), (.bool (b15))])) [] 0) (h6 : Does cE 179 [] 0 [.v (.agg #[(.int .u64 (i9)), (.int .u64 (i10)), (.int .u64 (i11)), (.int .u64 (i12)), (.int .u64 (i13)), (.int .u64 (i14)), (.bool (b15))]), .v (.agg #[(.int .u64 (i2)), (.int .u64 (i3)), (.int .u64 (i4)), (.int .u64 (i5)), (.int .u64 (i6)), (.int .u64 (i7)), (.bool (!b8))])] (.v (.agg #[(.int .u64 (i16)), (.int .u64 (i17)), (.int .u64 (i18)), (.int .u64 (i19)), (.int .u64 (i20)), (.int .u64 (i21)), (.bool (b22))])) [] 0) (h7 : Does cE 180 [] 0 [.v (.agg #[(.int .u64 (i16)), (.int .u64 (i17)), (.int .u64 (i18)), (.int .u64 (i19)), (.int .u64 (i20)), (.int .u64 (i21)), (.bool (b22))])] (.v (.bool (b23))) [] 0) (h8 : b23 = false) (h9 : b22 = true) : Does cE 100 [] 0 [.v (dc u x), .v (dc v y)] (.v (.int .i64 (-1))) [] 0 :=
  does_path (ct := ct) ctOk mixed (fn := Tryz.f100) rfl (by kernel_rfl) 2000 [.c (.v (.bool (b0))) [] 0, .f, .f, .c (.v (.bool (b1))) [] 0, .f, .f, .f, .c (.v (.agg #[(.int .u64 (i2)), (.int .u64 (i3)), (.int .u64 (i4)), (.int .u64 (i5)), (.int .u64 (i6)), (.int .u64 (i7)), (.bool (b8))])) [] 0, .c (.v (.agg #[(.int .u64 (i9)), (.int .u64 (i10)), (.int .u64 (i11)), (.int .u64 (i12)), (.int .u64 (i13)), (.int .u64 (i14)), (.bool (b15))])) [] 0, .c (.v (.agg #[(.int .u64 (i16)), (.int .u64 (i17)), (.int .u64 (i18)), (.int .u64 (i19)), (.int .u64 (i20)), (.int .u64 (i21)), (.bool (b22))])) [] 0, .c (.v (.bool (b23))) [] 0, .f, .t] (by kernel_rfl) (cj h0 (cj h1 (cj h1 (cj h2 (cj h1 (cj h1 (cj h3 (cj h4 (cj h5 (cj h6 (cj h7 (cj h8 (cj h9 cj0)))))))))))))
theorem rcmp_5 (u x v y : Int) (b0 : Bool) (b1 : Bool) (i2 : Int) (i3 : Int) (i4 : Int) (i5 : Int) (i6 : Int) (i7 : Int) (b8 : Bool) (i9 : Int) (i10 : Int) (i11 : Int) (i12 : Int) (i13 : Int) (i14 : Int) (b15 : Bool) (i16 : Int) (i17 : Int) (i18 : Int) (i19 : Int) (i20 : Int) (i21 : Int) (b22 : Bool) (b23 : Bool) (h0 : Does cE 155 [] 0 [.v (.agg #[(.int .i64 (u)), (.int .i64 (x))])] (.v (.bool (b0))) [] 0) (h1 : (!b0) = false) (h2 : Does cE 155 [] 0 [.v (.agg #[(.int .i64 (v)), (.int .i64 (y))])] (.v (.bool (b1))) [] 0) (h3 : (!b1) = false) (h4 : Does cE 157 [] 0 [.v (.agg #[(.int .i64 (v)), (.int .i64 (y))]), .v (.int .i64 (6))] (.v (.agg #[(.int .u64 (i2)), (.int .u64 (i3)), (.int .u64 (i4)), (.int .u64 (i5)), (.int .u64 (i6)), (.int .u64 (i7)), (.bool (b8))])) [] 0) (h5 : Does cE 157 [] 0 [.v (.agg #[(.int .i64 (u)), (.int .i64 (x))]), .v (.int .i64 (6))] (.v (.agg #[(.int .u64 (i9)), (.int .u64 (i10)), (.int .u64 (i11)), (.int .u64 (i12)), (.int .u64 (i13)), (.int .u64 (i14)), (.bool (b15))])) [] 0) (h6 : Does cE 179 [] 0 [.v (.agg #[(.int .u64 (i9)), (.int .u64 (i10)), (.int .u64 (i11)), (.int .u64 (i12)), (.int .u64 (i13)), (.int .u64 (i14)), (.bool (b15))]), .v (.agg #[(.int .u64 (i2)), (.int .u64 (i3)), (.int .u64 (i4)), (.int .u64 (i5)), (.int .u64 (i6)), (.int .u64 (i7)), (.bool (!b8))])] (.v (.agg #[(.int .u64 (i16)), (.int .u64 (i17)), (.int .u64 (i18)), (.int .u64 (i19)), (.int .u64 (i20)), (.int .u64 (i21)), (.bool (b22))])) [] 0) (h7 : Does cE 180 [] 0 [.v (.agg #[(.int .u64 (i16)), (.int .u64 (i17)), (.int .u64 (i18)), (.int .u64 (i19)), (.int .u64 (i20)), (.int .u64 (i21)), (.bool (b22))])] (.v (.bool (b23))) [] 0) (h8 : b23 = false) (h9 : b22 = false) : Does cE 100 [] 0 [.v (dc u x), .v (dc v y)] (.v (.int .i64 (1))) [] 0 :=
  does_path (ct := ct) ctOk mixed (fn := Tryz.f100) rfl (by kernel_rfl) 2000 [.c (.v (.bool (b0))) [] 0, .f, .f, .c (.v (.bool (b1))) [] 0, .f, .f, .f, .c (.v (.agg #[(.int .u64 (i2)), (.int .u64 (i3)), (.int .u64 (i4)), (.int .u64 (i5)), (.int .u64 (i6)), (.int .u64 (i7)), (.bool (b8))])) [] 0, .c (.v (.agg #[(.int .u64 (i9)), (.int .u64 (i10)), (.int .u64 (i11)), (.int .u64 (i12)), (.int .u64 (i13)), (.int .u64 (i14)), (.bool (b15))])) [] 0, .c (.v (.agg #[(.int .u64 (i16)), (.int .u64 (i17)), (.int .u64 (i18)), (.int .u64 (i19)), (.int .u64 (i20)), (.int .u64 (i21)), (.bool (b22))])) [] 0, .c (.v (.bool (b23))) [] 0, .f, .f] (by kernel_rfl) (cj h0 (cj h1 (cj h1 (cj h2 (cj h1 (cj h1 (cj h3 (cj h4 (cj h5 (cj h6 (cj h7 (cj h8 (cj h9 cj0)))))))))))))
theorem raddi_1 (u v : Int) (i0 : Int) (i1 : Int) (i2 : Int) (i3 : Int) (i4 : Int) (i5 : Int) (b6 : Bool) (i7 : Int) (i8 : Int) (i9 : Int) (i10 : Int) (i11 : Int) (i12 : Int) (b13 : Bool) (i14 : Int) (i15 : Int) (i16 : Int) (i17 : Int) (i18 : Int) (i19 : Int) (b20 : Bool) (i21 : Int) (i22 : Int) (i23 : Int) (h0 : Does cE 159 [] 0 [.v (.int .i64 (u))] (.v (.agg #[(.int .u64 (i0)), (.int .u64 (i1)), (.int .u64 (i2)), (.int .u64 (i3)), (.int .u64 (i4)), (.int .u64 (i5)), (.bool (b6))])) [] 0) (h1 : Does cE 159 [] 0 [.v (.int .i64 (v))] (.v (.agg #[(.int .u64 (i7)), (.int .u64 (i8)), (.int .u64 (i9)), (.int .u64 (i10)), (.int .u64 (i11)), (.int .u64 (i12)), (.bool (b13))])) [] 0) (h2 : Does cE 179 [] 0 [.v (.agg #[(.int .u64 (i0)), (.int .u64 (i1)), (.int .u64 (i2)), (.int .u64 (i3)), (.int .u64 (i4)), (.int .u64 (i5)), (.bool (b6))]), .v (.agg #[(.int .u64 (i7)), (.int .u64 (i8)), (.int .u64 (i9)), (.int .u64 (i10)), (.int .u64 (i11)), (.int .u64 (i12)), (.bool (b13))])] (.v (.agg #[(.int .u64 (i14)), (.int .u64 (i15)), (.int .u64 (i16)), (.int .u64 (i17)), (.int .u64 (i18)), (.int .u64 (i19)), (.bool (b20))])) [] 0) (h3 : Does cE 156 [] 0 [.v (.agg #[(.int .u64 (i14)), (.int .u64 (i15)), (.int .u64 (i16)), (.int .u64 (i17)), (.int .u64 (i18)), (.int .u64 (i19)), (.bool (b20))]), .v (.int .i64 (0))] (.v (.tuple #[(.agg #[(.int .i64 (i21)), (.int .i64 (i22))]), (.int .i64 (i23))])) [] 0) : Does cE 233 [] 0 [.v (it u), .v (it v)] (.v (.tuple #[(.int .i64 (i21)), (.int .i64 (i23))])) [] 0 :=
  does_path (ct := ct) ctOk mixed (fn := Tryz.f233) rfl (by kernel_rfl) 2000 [.c (.v (.agg #[(.int .u64 (i0)), (.int .u64 (i1)), (.int .u64 (i2)), (.int .u64 (i3)), (.int .u64 (i4)), (.int .u64 (i5)), (.bool (b6))])) [] 0, .c (.v (.agg #[(.int .u64 (i7)), (.int .u64 (i8)), (.int .u64 (i9)), (.int .u64 (i10)), (.int .u64 (i11)), (.int .u64 (i12)), (.bool (b13))])) [] 0, .c (.v (.agg #[(.int .u64 (i14)), (.int .u64 (i15)), (.int .u64 (i16)), (.int .u64 (i17)), (.int .u64 (i18)), (.int .u64 (i19)), (.bool (b20))])) [] 0, .c (.v (.tuple #[(.agg #[(.int .i64 (i21)), (.int .i64 (i22))]), (.int .i64 (i23))])) [] 0] (by kernel_rfl) (cj h0 (cj h1 (cj h2 (cj h3 cj0))))
theorem rmuli_1 (u v : Int) (i0 : Int) (i1 : Int) (i2 : Int) (i3 : Int) (i4 : Int) (i5 : Int) (b6 : Bool) (i7 : Int) (i8 : Int) (i9 : Int) (i10 : Int) (i11 : Int) (i12 : Int) (b13 : Bool) (i14 : Int) (i15 : Int) (i16 : Int) (i17 : Int) (i18 : Int) (i19 : Int) (b20 : Bool) (i21 : Int) (i22 : Int) (i23 : Int) (h0 : Does cE 159 [] 0 [.v (.int .i64 (u))] (.v (.agg #[(.int .u64 (i0)), (.int .u64 (i1)), (.int .u64 (i2)), (.int .u64 (i3)), (.int .u64 (i4)), (.int .u64 (i5)), (.bool (b6))])) [] 0) (h1 : Does cE 159 [] 0 [.v (.int .i64 (v))] (.v (.agg #[(.int .u64 (i7)), (.int .u64 (i8)), (.int .u64 (i9)), (.int .u64 (i10)), (.int .u64 (i11)), (.int .u64 (i12)), (.bool (b13))])) [] 0) (h2 : Does cE 191 [] 0 [.v (.agg #[(.int .u64 (i0)), (.int .u64 (i1)), (.int .u64 (i2)), (.int .u64 (i3)), (.int .u64 (i4)), (.int .u64 (i5)), (.bool (b6))]), .v (.agg #[(.int .u64 (i7)), (.int .u64 (i8)), (.int .u64 (i9)), (.int .u64 (i10)), (.int .u64 (i11)), (.int .u64 (i12)), (.bool (b13))])] (.v (.agg #[(.int .u64 (i14)), (.int .u64 (i15)), (.int .u64 (i16)), (.int .u64 (i17)), (.int .u64 (i18)), (.int .u64 (i19)), (.bool (b20))])) [] 0) (h3 : Does cE 156 [] 0 [.v (.agg #[(.int .u64 (i14)), (.int .u64 (i15)), (.int .u64 (i16)), (.int .u64 (i17)), (.int .u64 (i18)), (.int .u64 (i19)), (.bool (!decide (u < 0) == decide (v < 0)))]), .v (.int .i64 (0))] (.v (.tuple #[(.agg #[(.int .i64 (i21)), (.int .i64 (i22))]), (.int .i64 (i23))])) [] 0) : Does cE 232 [] 0 [.v (it u), .v (it v)] (.v (.tuple #[(.int .i64 (i21)), (.int .i64 (i23))])) [] 0 :=
  does_path (ct := ct) ctOk mixed (fn := Tryz.f232) rfl (by kernel_rfl) 2000 [.c (.v (.agg #[(.int .u64 (i0)), (.int .u64 (i1)), (.int .u64 (i2)), (.int .u64 (i3)), (.int .u64 (i4)), (.int .u64 (i5)), (.bool (b6))])) [] 0, .c (.v (.agg #[(.int .u64 (i7)), (.int .u64 (i8)), (.int .u64 (i9)), (.int .u64 (i10)), (.int .u64 (i11)), (.int .u64 (i12)), (.bool (b13))])) [] 0, .c (.v (.agg #[(.int .u64 (i14)), (.int .u64 (i15)), (.int .u64 (i16)), (.int .u64 (i17)), (.int .u64 (i18)), (.int .u64 (i19)), (.bool (b20))])) [] 0, .c (.v (.tuple #[(.agg #[(.int .i64 (i21)), (.int .i64 (i22))]), (.int .i64 (i23))])) [] 0] (by kernel_rfl) (cj h0 (cj h1 (cj h2 (cj h3 cj0))))
end Go.Proofs.YtnchjdhepakokaaGreatDoorC
/- What the reference's decimals come to: the same. -/
namespace Go.Proofs.YtnchjdhepakokaaGreatDoorC
open Go.Proofs Go.Proofs.YtnchjdhepakokaaGreatDoorSx
set_option maxRecDepth 100000
set_option linter.unusedVariables false
theorem rright_does (u x : Int) : Does cE 155 [] 0 [.v (dc u x)] (.v (.bool (decide (sc6 x)))) [] 0 := by
  by_cases h : x ≥ 0
  · have e : decide (sc6 x) = decide (x ≤ 6) := by rw [decide_eq_decide]; omega
    rw [e]
    exact rrt_1 u x (by simpa using h)
  · have e : decide (sc6 x) = false := decide_eq_false (by omega)
    rw [e]
    exact rrt_2 u x (by simpa using h)
theorem rscl_does {u x sc : Int} (hu : I64 u) (hx : I64 x) (h0 : 0 ≤ sc - x) (h1 : sc - x ≤ 12) : Does cE 157 [] 0 [.v (dc u x), .v (it sc)] (.v (W (ab u * p10 (sc - x)) (ng u))) [] 0 :=
  rscaled_does hu (sc - x).toNat (by omega) hx (by omega)
theorem pw_does {z : Int} (h0 : 0 ≤ z) (h1 : z ≤ 12) : Does cE 146 [] 0 [.v (it z)] (.v (it (p10 z))) [] 0 := by
  have := power_does z.toNat (by omega)
  rw [show ((z.toNat : Nat) : Int) = z by omega] at this
  exact this
theorem ofp_does {z : Int} (h1 : z ≤ 12) : Does cE 159 [] 0 [.v (it (p10 z))] (.v (W (p10 z) false)) [] 0 := by
  have hp := p10_le h1
  have ha := ab_spec (p10 z)
  have := rof_does (n := p10 z) (by omega)
  rw [show ab (p10 z) = p10 z by omega, show ng (p10 z) = false from decide_eq_false (by omega)] at this
  exact this
theorem rresc_does {u x sc : Int} (hu : I64 u) (hx : I64 x) (hs : I64 sc) : Does cE 78 [] 0 [.v (dc u x), .v (it sc)] (.v (ans (rescM u x sc))) [] 0 := by
  have hr := rright_does u x
  have hb := ab_bound hu
  unfold rescM
  by_cases hx6 : sc6 x
  · rw [decide_eq_true hx6] at hr
    by_cases h1 : sc < 0
    · rw [if_neg (by omega)]
      exact rresc_2 u x sc true hr rfl (by simpa using h1)
    · by_cases h2 : sc > 6
      · rw [if_neg (by omega)]
        exact rresc_3 u x sc true hr rfl (by simpa using h1) (by simpa using h2)
      · rw [if_pos (by omega)]
        by_cases hge : sc ≥ x
        · rw [if_pos hge]
          have hm := up_mul (z := sc - x) hu (by omega)
          exact rresc_4 (h0 := hr) (h1 := rfl) (h2 := by simpa using h1) (h3 := by simpa using h2) (h4 := by simpa using hge) (h5 := rscl_does hu hx (by omega) (by omega)) (h6 := rback_does hm.1 (by unfold big192; omega) _ _)
        · rw [if_neg hge]
          have hp := p10_le (z := x - sc) (by omega)
          have w : IntKind.i64.wrap (x - sc) = x - sc := wrap64 (by omega) (by omega)
          have hl := rnd_le hb.1 (y := p10 (x - sc)) (by omega)
          have hn := rnd_nonneg hb.1 (y := p10 (x - sc)) (by omega)
          exact rresc_5 (h0 := hr) (h1 := rfl) (h2 := by simpa using h1) (h3 := by simpa using h2) (h4 := by simpa using hge) (h5 := rof_does hu) (h6 := by rw [w]; exact pw_does (by omega) (by omega)) (h7 := ofp_does (by omega)) (h8 := rounded_does (by unfold big192; omega) (by omega) (by unfold big192; omega) (ng u) false) (h9 := rback_does hn (by unfold big192; omega) _ _)
  · rw [decide_eq_false hx6] at hr
    rw [if_neg (by omega)]
    exact rresc_1 u x sc false hr rfl
theorem rsum2_does {u x v y : Int} (hu : I64 u) (hx : I64 x) (hv : I64 v) (hy : I64 y) (hx6 : sc6 x) (hy6 : sc6 y) (t : Bool) :
    Does cE 157 [] 0 [.v (dc u x), .v (it (mx x y))] (.v (W (ab u * p10 (mx x y - x)) (ng u))) [] 0 ∧ Does cE 157 [] 0 [.v (dc v y), .v (it (mx x y))] (.v (W (ab v * p10 (mx x y - y)) (ng v))) [] 0 ∧
    Does cE 179 [] 0 [.v (W (ab u * p10 (mx x y - x)) (ng u)), .v (W (ab v * p10 (mx x y - y)) t)] (.v (W (addM (ab u * p10 (mx x y - x)) (ng u) (ab v * p10 (mx x y - y)) t).1 (addM (ab u * p10 (mx x y - x)) (ng u) (ab v * p10 (mx x y - y)) t).2)) [] 0 ∧
    Does cE 156 [] 0 [.v (W (addM (ab u * p10 (mx x y - x)) (ng u) (ab v * p10 (mx x y - y)) t).1 (addM (ab u * p10 (mx x y - x)) (ng u) (ab v * p10 (mx x y - y)) t).2), .v (it (mx x y))] (.v (ans (fitP (addM (ab u * p10 (mx x y - x)) (ng u) (ab v * p10 (mx x y - y)) t).1 (addM (ab u * p10 (mx x y - x)) (ng u) (ab v * p10 (mx x y - y)) t).2 (mx x y)))) [] 0 := by
  have hmx : mx x y ≤ 6 ∧ x ≤ mx x y ∧ y ≤ mx x y := by unfold mx; split <;> omega
  have m1 := up_mul (z := mx x y - x) hu (by omega)
  have m2 := up_mul (z := mx x y - y) hv (by omega)
  have hb := addM_bound (B := 0) m1.1 m2.1 (ng u) t
  exact ⟨rscl_does hu hx (by omega) (by omega), rscl_does hv hy (by omega) (by omega), rsum_does m1.1 m2.1 (by unfold big192; omega) _ _, rback_does hb.1 (by unfold big192; omega) _ _⟩
theorem radd_does {u x v y : Int} (hu : I64 u) (hx : I64 x) (hv : I64 v) (hy : I64 y) : Does cE 236 [] 0 [.v (dc u x), .v (dc v y)] (.v (ans (sumM u x v y false))) [] 0 := by
  have h1 := rright_does u x
  have h2 := rright_does v y
  unfold sumM
  by_cases hx6 : sc6 x
  · rw [decide_eq_true hx6] at h1
    by_cases hy6 : sc6 y
    · rw [decide_eq_true hy6] at h2
      rw [if_pos ⟨hx6, hy6⟩]
      obtain ⟨a1, a2, a3, a4⟩ := rsum2_does hu hx hv hy hx6 hy6 (ng v)
      have e : (ng v != false) = ng v := by simp
      rw [e]
      exact radd_3 (h0 := h1) (h1 := rfl) (h2 := h2) (h3 := rfl) (h4 := a1) (h5 := a2) (h6 := a3) (h7 := a4)
    · rw [decide_eq_false hy6] at h2
      rw [if_neg (by omega)]
      exact radd_2 u x v y true false h1 rfl h2 rfl
  · rw [decide_eq_false hx6] at h1
    rw [if_neg (by omega)]
    exact radd_1 u x v y false h1 rfl
theorem rsub_does {u x v y : Int} (hu : I64 u) (hx : I64 x) (hv : I64 v) (hy : I64 y) : Does cE 162 [] 0 [.v (dc u x), .v (dc v y)] (.v (ans (sumM u x v y true))) [] 0 := by
  have h1 := rright_does u x
  have h2 := rright_does v y
  unfold sumM
  by_cases hx6 : sc6 x
  · rw [decide_eq_true hx6] at h1
    by_cases hy6 : sc6 y
    · rw [decide_eq_true hy6] at h2
      rw [if_pos ⟨hx6, hy6⟩]
      obtain ⟨a1, a2, a3, a4⟩ := rsum2_does hu hx hv hy hx6 hy6 (!ng v)
      have e : (ng v != true) = !ng v := by simp
      rw [e]
      exact rsub_3 (h0 := h1) (h1 := rfl) (h2 := h2) (h3 := rfl) (h4 := a2) (h5 := a1) (h6 := a3) (h7 := a4)
    · rw [decide_eq_false hy6] at h2
      rw [if_neg (by omega)]
      exact rsub_2 u x v y true false h1 rfl h2 rfl
  · rw [decide_eq_false hx6] at h1
    rw [if_neg (by omega)]
    exact rsub_1 u x v y false h1 rfl
theorem rneg_does {u x : Int} (hu : I64 u) (hx : I64 x) : Does cE 88 [] 0 [.v (dc u x)] (.v (ans (sumM 0 x u x true))) [] 0 :=
  rneg_1 (h0 := rsub_does (by decide) hx hu hx)
theorem rmul_does {u x v y : Int} (hu : I64 u) (hx : I64 x) (hv : I64 v) (hy : I64 y) : Does cE 234 [] 0 [.v (dc u x), .v (dc v y)] (.v (ans (mulM u x v y))) [] 0 := by
  have h1 := rright_does u x
  have h2 := rright_does v y
  have hbu := ab_bound hu
  have hbv := ab_bound hv
  have hm := mul_small hbu hbv
  unfold mulM
  by_cases hx6 : sc6 x
  · rw [decide_eq_true hx6] at h1
    by_cases hy6 : sc6 y
    · rw [decide_eq_true hy6] at h2
      rw [if_pos ⟨hx6, hy6⟩]
      have ht := W_times (x := ab u) (y := ab v) (by unfold big192; omega) (by unfold big192; omega) (by unfold big192; omega) (ng u) (ng v)
      have w1 : IntKind.i64.wrap (x + y) = x + y := wrap64 (by omega) (by omega)
      have w2 : IntKind.i64.wrap (x + y - 6) = x + y - 6 := wrap64 (by omega) (by omega)
      by_cases h6 : x + y > 6
      · rw [if_pos h6]
        have hp := p10_le (z := x + y - 6) (by omega)
        have hl := rnd_le hm.1 (y := p10 (x + y - 6)) (by omega)
        have hn := rnd_nonneg hm.1 (y := p10 (x + y - 6)) (by omega)
        exact rmul_3 (h0 := h1) (h1 := rfl) (h2 := h2) (h3 := rfl) (h4 := rof_does hu) (h5 := rof_does hv) (h6 := ht) (h7 := by rw [w1]; simpa using h6) (h8 := by rw [w1, w2]; exact pw_does (by omega) (by omega)) (h9 := ofp_does (by omega))
          (h10 := rounded_does (by unfold big192; omega) (by omega) (by unfold big192; omega) (ng u != ng v) false) (h11 := rback_does hn (by unfold big192; omega) _ _)
      · rw [if_neg h6]
        have hback := rback_does hm.1 (by unfold big192; omega) (ng u != ng v) (x + y)
        exact rmul_4 (h0 := h1) (h1 := rfl) (h2 := h2) (h3 := rfl) (h4 := rof_does hu) (h5 := rof_does hv) (h6 := ht) (h7 := by rw [w1]; simpa using h6) (h8 := by rw [w1]; exact hback)
    · rw [decide_eq_false hy6] at h2
      rw [if_neg (by omega)]
      exact rmul_2 u x v y true false h1 rfl h2 rfl
  · rw [decide_eq_false hx6] at h1
    rw [if_neg (by omega)]
    exact rmul_1 u x v y false h1 rfl
theorem rdiv_does {u x v y sc : Int} (hu : I64 u) (hx : I64 x) (hv : I64 v) (hy : I64 y) (hs : I64 sc) : Does cE 235 [] 0 [.v (dc u x), .v (dc v y), .v (it sc)] (.v (ans (divM u x v y sc))) [] 0 := by
  have h1 := rright_does u x
  have h2 := rright_does v y
  have hbu := ab_bound hu
  have hbv := ab_bound hv
  unfold divM
  by_cases hx6 : sc6 x
  · rw [decide_eq_true hx6] at h1
    by_cases hy6 : sc6 y
    · rw [decide_eq_true hy6] at h2
      by_cases s1 : sc < 0
      · rw [if_neg (by omega)]
        exact rdiv_3 u x v y sc true true h1 rfl h2 rfl (by simpa using s1)
      · by_cases s2 : sc > 6
        · rw [if_neg (by omega)]
          exact rdiv_4 u x v y sc true true h1 rfl h2 rfl (by simpa using s1) (by simpa using s2)
        · rw [if_pos (by omega)]
          by_cases hv0 : v = 0
          · rw [if_pos hv0]
            exact rdiv_5 u x v y sc true true h1 rfl h2 rfl (by simpa using s1) (by simpa using s2) (by simpa using hv0)
          · rw [if_neg hv0]
            have w1 : IntKind.i64.wrap (y + sc) = y + sc := wrap64 (by omega) (by omega)
            have hp1 := p10_le (z := y + sc) (by omega)
            have hp2 := p10_le (z := x) (by omega)
            have m1 := up_mul (z := y + sc) hu (by omega)
            have m2 := up_mul (z := x) hv (by omega)
            have hpos : 0 < ab v * p10 x := Int.mul_pos (ab_pos hv0) (by omega)
            have hl := rnd_le m1.1 hpos
            have hn := rnd_nonneg m1.1 hpos
            have t1 := W_times (x := ab u) (y := p10 (y + sc)) (by unfold big192; omega) (by unfold big192; omega) (by unfold big192; omega) (ng u) false
            have t2 := W_times (x := ab v) (y := p10 x) (by unfold big192; omega) (by unfold big192; omega) (by unfold big192; omega) (ng v) false
            exact rdiv_6 (h0 := h1) (h1 := rfl) (h2 := h2) (h3 := rfl) (h4 := by simpa using s1) (h5 := by simpa using s2) (h6 := by simpa using hv0) (h7 := rof_does hu) (h8 := by rw [w1]; exact pw_does (by omega) (by omega)) (h9 := ofp_does (by omega)) (h10 := t1)
              (h11 := rof_does hv) (h12 := pw_does (by omega) (by omega)) (h13 := ofp_does (by omega)) (h14 := t2) (h15 := rounded_does (by unfold big192; omega) hpos (by unfold big192; omega) (ng u != ng v) false) (h16 := rback_does hn (by unfold big192; omega) _ _)
    · rw [decide_eq_false hy6] at h2
      rw [if_neg (by omega)]
      exact rdiv_2 u x v y sc true false h1 rfl h2 rfl
  · rw [decide_eq_false hx6] at h1
    rw [if_neg (by omega)]
    exact rdiv_1 u x v y sc false h1 rfl
theorem rcmp_does {u x v y : Int} (hu : I64 u) (hx : I64 x) (hv : I64 v) (hy : I64 y) : Does cE 100 [] 0 [.v (dc u x), .v (dc v y)] (.v (it (cmpM u x v y))) [] 0 := by
  have h1 := rright_does u x
  have h2 := rright_does v y
  unfold cmpM
  by_cases hx6 : sc6 x
  · rw [decide_eq_true hx6] at h1
    by_cases hy6 : sc6 y
    · rw [decide_eq_true hy6] at h2
      rw [if_pos ⟨hx6, hy6⟩]
      have m1 := up_mul (z := 6 - x) hu (by omega)
      have m2 := up_mul (z := 6 - y) hv (by omega)
      have hb := addM_bound (B := 0) m1.1 m2.1 (ng u) (!ng v)
      have hs := rsum_does m1.1 m2.1 (by unfold big192; omega) (ng u) (!ng v)
      have s1 := rscl_does (sc := 6) hu hx (by omega) (by omega)
      have s2 := rscl_does (sc := 6) hv hy (by omega) (by omega)
      generalize addM (ab u * p10 (6 - x)) (ng u) (ab v * p10 (6 - y)) (!ng v) = D at hb hs
      obtain ⟨d, e⟩ := D
      simp only at hb hs ⊢
      have hz := W_zero (x := d) (by unfold big192; omega) e
      by_cases h0 : d = 0
      · rw [if_pos h0]
        rw [decide_eq_true h0] at hz
        exact rcmp_3 (h0 := h1) (h1 := rfl) (h2 := h2) (h3 := rfl) (h4 := s2) (h5 := s1) (h6 := hs) (h7 := hz) (h8 := rfl)
      · rw [if_neg h0]
        rw [decide_eq_false h0] at hz
        cases e with
        | true => exact rcmp_4 (h0 := h1) (h1 := rfl) (h2 := h2) (h3 := rfl) (h4 := s2) (h5 := s1) (h6 := hs) (h7 := hz) (h8 := rfl) (h9 := rfl)
        | false => exact rcmp_5 (h0 := h1) (h1 := rfl) (h2 := h2) (h3 := rfl) (h4 := s2) (h5 := s1) (h6 := hs) (h7 := hz) (h8 := rfl) (h9 := rfl)
    · rw [decide_eq_false hy6] at h2
      rw [if_neg (by omega)]
      exact rcmp_2 u x v y true false h1 rfl h2 rfl
  · rw [decide_eq_false hx6] at h1
    rw [if_neg (by omega)]
    exact rcmp_1 u x v y false h1 rfl
theorem p10_zero : p10 0 = 1 := rfl
theorem sumM0 (u v : Int) : sumM u 0 v 0 false = fitP (addM (ab u) (ng u) (ab v) (ng v)).1 (addM (ab u) (ng u) (ab v) (ng v)).2 0 := by
  have e : (ng v != false) = ng v := by simp
  unfold sumM
  rw [if_pos (by decide), show mx 0 0 = 0 from rfl, show (0 : Int) - 0 = 0 from rfl, p10_zero, Int.mul_one, Int.mul_one, e]
theorem mulM0 (u v : Int) : mulM u 0 v 0 = fitP (ab u * ab v) (ng u != ng v) 0 := by
  unfold mulM
  rw [if_pos (by decide), if_neg (by decide)]
  rfl
theorem raddi_does {u v : Int} (hu : I64 u) (hv : I64 v) : Does cE 233 [] 0 [.v (it u), .v (it v)] (.v (.tuple #[it (sumM u 0 v 0 false).1, it (sumM u 0 v 0 false).2.2])) [] 0 := by
  have hbu := ab_bound hu
  have hbv := ab_bound hv
  have hb := addM_bound (B := 0) hbu.1 hbv.1 (ng u) (ng v)
  rw [sumM0]
  exact raddi_1 (h0 := rof_does hu) (h1 := rof_does hv) (h2 := rsum_does hbu.1 hbv.1 (by unfold big192; omega) _ _) (h3 := rback_does hb.1 (by unfold big192; omega) _ _)
theorem rmuli_does {u v : Int} (hu : I64 u) (hv : I64 v) : Does cE 232 [] 0 [.v (it u), .v (it v)] (.v (.tuple #[it (mulM u 0 v 0).1, it (mulM u 0 v 0).2.2])) [] 0 := by
  have hbu := ab_bound hu
  have hbv := ab_bound hv
  have hm := mul_small hbu hbv
  have ht := W_times (x := ab u) (y := ab v) (by unfold big192; omega) (by unfold big192; omega) (by unfold big192; omega) (ng u) (ng v)
  rw [mulM0]
  exact rmuli_1 (h0 := rof_does hu) (h1 := rof_does hv) (h2 := ht) (h3 := rback_does hm.1 (by unfold big192; omega) (ng u != ng v) 0)
end Go.Proofs.YtnchjdhepakokaaGreatDoorC
/- The order of values, and steps of two: what they come to. -/
namespace Go.Proofs.YtnchjdhepakokaaGreatDoorC
open Go.Proofs Go.Proofs.YtnchjdhepakokaaGreatDoorSx Go.Lib
set_option maxRecDepth 100000
set_option linter.unusedVariables false
theorem cmpi_does (x y : Int) : Does cE 121 [] 0 [.v (it x), .v (it y)] (.v (it (cmI x y))) [] 0 := by
  have h := pCmi_does x y
  have e : pCmi x y = it (cmI x y) := by unfold pCmi cmI; simp only [it_if]
  rw [e] at h
  exact h
def byF (k n m : Int) (s : ByteArray) (j p q : Int) (u : ByteArray) : Int := orL [cmI k j, cmI n p, cmI m q, compareBytes s.data.toList u.data.toList]
def cpV (k n m : Int) (s : ByteArray) (j p q : Int) (u : ByteArray) : Int :=
  bif !okV k n m s then byF k n m s j p q u else bif !okV j p q u then byF k n m s j p q u
  else bif (cmI (clsV k) (clsV j) != 0) then cmI (clsV k) (clsV j)
  else bif (clsV k == 2) then orL [cmpM n m p q, cmI k j, cmI m q]
  else byF k n m s j p q u
end Go.Proofs.YtnchjdhepakokaaGreatDoorC
/- The order of values, of the program and of the reference. Printed by a program (wip/tools); Lean checks each. -/
namespace Go.Proofs.YtnchjdhepakokaaGreatDoorC
open Go.Proofs Go.Proofs.YtnchjdhepakokaaGreatDoorSx Go.Lib
set_option maxRecDepth 100000
set_option linter.unusedVariables false
def pCo (k n m j p q : Int) (s u : ByteArray) : Value :=
  bif (!okV k n m s) then (.int .i64 (orL [cmI k j, cmI n p, cmI m q, Go.Lib.compareBytes s.data.toList u.data.toList]))
  else bif (!okV j p q u) then (.int .i64 (orL [cmI k j, cmI n p, cmI m q, Go.Lib.compareBytes s.data.toList u.data.toList]))
    else bif (cmI (clsV k) (clsV j) != 0) then (.int .i64 (cmI (clsV k) (clsV j)))
      else bif (clsV k == 2) then (.int .i64 (orL [cmpM n m p q, cmI k j, cmI m q]))
        else (.int .i64 (orL [cmI k j, cmI n p, cmI m q, Go.Lib.compareBytes s.data.toList u.data.toList]))
theorem pCo_does (k n m j p q : Int) (s u : ByteArray) (hn : I64 n) (hm : I64 m) (hs : s.size ≤ 140737488351232) (hp : I64 p) (hq : I64 q) (hu : u.size ≤ 140737488351232) : Does cE 48 [] 0 [.v (vl k n m s), .v (vl j p q u)] (.v (pCo k n m j p q s u)) [] 0 := by
  unfold pCo
  refine tbif (fun c1 => ?_) (fun c1 => ?_)
  · exact pth (fn := Tryz.f48) rfl (by kernel_rfl) [.c (.v (.int .i64 (cmI k j))) [] 0, .c (.v (.int .i64 (cmI n p))) [] 0, .c (.v (.int .i64 (cmI m q))) [] 0, .c (.v (.int .i64 (Go.Lib.compareBytes s.data.toList u.data.toList))) [] 0, .c (.v (.int .i64 (orL [cmI k j, cmI n p, cmI m q, Go.Lib.compareBytes s.data.toList u.data.toList]))) [] 1, .c (.v (.bool (okV k n m s))) [] 0, .t, .t, .t, .t, .l] (by kernel_rfl) (cj (cmpi_does (k) (j)) (cj (cmpi_does (n) (p)) (cj (cmpi_does (m) (q)) (cj (scmp_does (s) (u)) (cj (cor_nil ([cmI k j, cmI n p, cmI m q, Go.Lib.compareBytes s.data.toList u.data.toList]) (by simp)) (cj (right_does (k) (n) (m) (s) (by assumption)) (cj c1 (cj c1 (cj c1 (cj c1 cj0))))))))))
  · refine tbif (fun c2 => ?_) (fun c2 => ?_)
    · exact pth (fn := Tryz.f48) rfl (by kernel_rfl) [.c (.v (.int .i64 (cmI k j))) [] 0, .c (.v (.int .i64 (cmI n p))) [] 0, .c (.v (.int .i64 (cmI m q))) [] 0, .c (.v (.int .i64 (Go.Lib.compareBytes s.data.toList u.data.toList))) [] 0, .c (.v (.int .i64 (orL [cmI k j, cmI n p, cmI m q, Go.Lib.compareBytes s.data.toList u.data.toList]))) [] 1, .c (.v (.bool (okV k n m s))) [] 0, .f, .f, .c (.v (.bool (okV j p q u))) [] 0, .f, .f, .t] (by kernel_rfl) (cj (cmpi_does (k) (j)) (cj (cmpi_does (n) (p)) (cj (cmpi_does (m) (q)) (cj (scmp_does (s) (u)) (cj (cor_nil ([cmI k j, cmI n p, cmI m q, Go.Lib.compareBytes s.data.toList u.data.toList]) (by simp)) (cj (right_does (k) (n) (m) (s) (by assumption)) (cj c1 (cj c1 (cj (right_does (j) (p) (q) (u) (by assumption)) (cj c1 (cj c1 (cj c2 cj0))))))))))))
    · refine tbif (fun c3 => ?_) (fun c3 => ?_)
      · exact pth (fn := Tryz.f48) rfl (by kernel_rfl) [.c (.v (.int .i64 (cmI k j))) [] 0, .c (.v (.int .i64 (cmI n p))) [] 0, .c (.v (.int .i64 (cmI m q))) [] 0, .c (.v (.int .i64 (Go.Lib.compareBytes s.data.toList u.data.toList))) [] 0, .c (.v (.int .i64 (orL [cmI k j, cmI n p, cmI m q, Go.Lib.compareBytes s.data.toList u.data.toList]))) [] 1, .c (.v (.bool (okV k n m s))) [] 0, .f, .f, .c (.v (.bool (okV j p q u))) [] 0, .f, .f, .f, .c (.v (.int .i64 (clsV k))) [] 0, .c (.v (.int .i64 (clsV j))) [] 0, .c (.v (.int .i64 (cmI (clsV k) (clsV j)))) [] 0, .t] (by kernel_rfl) (cj (cmpi_does (k) (j)) (cj (cmpi_does (n) (p)) (cj (cmpi_does (m) (q)) (cj (scmp_does (s) (u)) (cj (cor_nil ([cmI k j, cmI n p, cmI m q, Go.Lib.compareBytes s.data.toList u.data.toList]) (by simp)) (cj (right_does (k) (n) (m) (s) (by assumption)) (cj c1 (cj c1 (cj (right_does (j) (p) (q) (u) (by assumption)) (cj c1 (cj c1 (cj c2 (cj (class_does (k) (n) (m) (s)) (cj (class_does (j) (p) (q) (u)) (cj (cmpi_does (clsV k) (clsV j)) (cj c3 cj0))))))))))))))))
      · refine tbif (fun c4 => ?_) (fun c4 => ?_)
        · exact pth (fn := Tryz.f48) rfl (by kernel_rfl) [.c (.v (.int .i64 (cmI k j))) [] 0, .c (.v (.int .i64 (cmI n p))) [] 0, .c (.v (.int .i64 (cmI m q))) [] 0, .c (.v (.int .i64 (Go.Lib.compareBytes s.data.toList u.data.toList))) [] 0, .c (.v (.int .i64 (orL [cmI k j, cmI n p, cmI m q, Go.Lib.compareBytes s.data.toList u.data.toList]))) [] 1, .c (.v (.bool (okV k n m s))) [] 0, .f, .f, .c (.v (.bool (okV j p q u))) [] 0, .f, .f, .f, .c (.v (.int .i64 (clsV k))) [] 0, .c (.v (.int .i64 (clsV j))) [] 0, .c (.v (.int .i64 (cmI (clsV k) (clsV j)))) [] 0, .f, .c (.v (.int .i64 (clsV k))) [] 0, .t, .c (.v (.agg #[(.int .i64 (n)), (.int .i64 (m))])) [] 0, .c (.v (.agg #[(.int .i64 (p)), (.int .i64 (q))])) [] 0, .c (.v (.int .i64 (cmpM n m p q))) [] 0, .c (.v (.int .i64 (cmI k j))) [] 0, .c (.v (.int .i64 (cmI m q))) [] 0, .c (.v (.int .i64 (orL [cmpM n m p q, cmI k j, cmI m q]))) [] 1] (by kernel_rfl) (cj (cmpi_does (k) (j)) (cj (cmpi_does (n) (p)) (cj (cmpi_does (m) (q)) (cj (scmp_does (s) (u)) (cj (cor_nil ([cmI k j, cmI n p, cmI m q, Go.Lib.compareBytes s.data.toList u.data.toList]) (by simp)) (cj (right_does (k) (n) (m) (s) (by assumption)) (cj c1 (cj c1 (cj (right_does (j) (p) (q) (u) (by assumption)) (cj c1 (cj c1 (cj c2 (cj (class_does (k) (n) (m) (s)) (cj (class_does (j) (p) (q) (u)) (cj (cmpi_does (clsV k) (clsV j)) (cj c3 (cj (class_does (k) (n) (m) (s)) (cj c4 (cj (ddec_does (k) (n) (m) (s)) (cj (ddec_does (j) (p) (q) (u)) (cj (pcmp_does (u := (n)) (x := (m)) (v := (p)) (y := (q)) (by assumption) (by assumption) (by assumption) (by assumption)) (cj (cmpi_does (k) (j)) (cj (cmpi_does (m) (q)) (cj (cor_nil ([cmpM n m p q, cmI k j, cmI m q]) (by simp)) cj0))))))))))))))))))))))))
        · exact pth (fn := Tryz.f48) rfl (by kernel_rfl) [.c (.v (.int .i64 (cmI k j))) [] 0, .c (.v (.int .i64 (cmI n p))) [] 0, .c (.v (.int .i64 (cmI m q))) [] 0, .c (.v (.int .i64 (Go.Lib.compareBytes s.data.toList u.data.toList))) [] 0, .c (.v (.int .i64 (orL [cmI k j, cmI n p, cmI m q, Go.Lib.compareBytes s.data.toList u.data.toList]))) [] 1, .c (.v (.bool (okV k n m s))) [] 0, .f, .f, .c (.v (.bool (okV j p q u))) [] 0, .f, .f, .f, .c (.v (.int .i64 (clsV k))) [] 0, .c (.v (.int .i64 (clsV j))) [] 0, .c (.v (.int .i64 (cmI (clsV k) (clsV j)))) [] 0, .f, .c (.v (.int .i64 (clsV k))) [] 0, .f] (by kernel_rfl) (cj (cmpi_does (k) (j)) (cj (cmpi_does (n) (p)) (cj (cmpi_does (m) (q)) (cj (scmp_does (s) (u)) (cj (cor_nil ([cmI k j, cmI n p, cmI m q, Go.Lib.compareBytes s.data.toList u.data.toList]) (by simp)) (cj (right_does (k) (n) (m) (s) (by assumption)) (cj c1 (cj c1 (cj (right_does (j) (p) (q) (u) (by assumption)) (cj c1 (cj c1 (cj c2 (cj (class_does (k) (n) (m) (s)) (cj (class_does (j) (p) (q) (u)) (cj (cmpi_does (clsV k) (clsV j)) (cj c3 (cj (class_does (k) (n) (m) (s)) (cj c4 cj0))))))))))))))))))
def rCo (k n m j p q : Int) (s u : ByteArray) : Value :=
  bif (!okV k n m s) then bif (Go.Op.bytesLess s.toList u.toList) then (.int .i64 (orL [cmI k j, cmI n p, cmI m q, -1]))
    else bif (!(Go.Op.bytesLess s.toList u.toList || s.toList == u.toList)) then (.int .i64 (orL [cmI k j, cmI n p, cmI m q, 1]))
      else (.int .i64 (orL [cmI k j, cmI n p, cmI m q, 0]))
  else bif (!okV j p q u) then bif (Go.Op.bytesLess s.toList u.toList) then (.int .i64 (orL [cmI k j, cmI n p, cmI m q, -1]))
      else bif (!(Go.Op.bytesLess s.toList u.toList || s.toList == u.toList)) then (.int .i64 (orL [cmI k j, cmI n p, cmI m q, 1]))
        else (.int .i64 (orL [cmI k j, cmI n p, cmI m q, 0]))
    else bif (clsV k != clsV j) then (.int .i64 (cmI (clsV k) (clsV j)))
      else bif (clsV k == 2) then (.int .i64 (orL [cmpM n m p q, cmI k j, cmI m q]))
        else bif (Go.Op.bytesLess s.toList u.toList) then (.int .i64 (orL [cmI n p, cmI m q, -1]))
          else bif (!(Go.Op.bytesLess s.toList u.toList || s.toList == u.toList)) then (.int .i64 (orL [cmI n p, cmI m q, 1]))
            else (.int .i64 (orL [cmI n p, cmI m q, 0]))
theorem rCo_does (k n m j p q : Int) (s u : ByteArray) (hn : I64 n) (hm : I64 m) (hs : s.size ≤ 140737488351232) (hp : I64 p) (hq : I64 q) (hu : u.size ≤ 140737488351232) : Does cE 50 [] 0 [.v (vl k n m s), .v (vl j p q u)] (.v (rCo k n m j p q s u)) [] 0 := by
  unfold rCo
  refine tbif (fun c1 => ?_) (fun c1 => ?_)
  · refine tbif (fun c2 => ?_) (fun c2 => ?_)
    · exact pth (fn := Tryz.f50) rfl (by kernel_rfl) [.c (.v (.bool (okV k n m s))) [] 0, .t, .t, .t, .t, .l, .t, .c (.v (.int .i64 (cmI k j))) [] 0, .c (.v (.int .i64 (cmI n p))) [] 0, .c (.v (.int .i64 (cmI m q))) [] 0, .c (.v (.int .i64 (orL [cmI k j, cmI n p, cmI m q, -1]))) [] 1] (by kernel_rfl) (cj (right4_does (k) (n) (m) (s) (by assumption)) (cj c1 (cj c1 (cj c1 (cj c1 (cj c2 (cj (rcmi_does (k) (j)) (cj (rcmi_does (n) (p)) (cj (rcmi_does (m) (q)) (cj (first_nil ([cmI k j, cmI n p, cmI m q, -1]) (by simp)) cj0))))))))))
    · refine tbif (fun c3 => ?_) (fun c3 => ?_)
      · exact pth (fn := Tryz.f50) rfl (by kernel_rfl) [.c (.v (.bool (okV k n m s))) [] 0, .t, .t, .t, .t, .l, .f, .t, .c (.v (.int .i64 (cmI k j))) [] 0, .c (.v (.int .i64 (cmI n p))) [] 0, .c (.v (.int .i64 (cmI m q))) [] 0, .c (.v (.int .i64 (orL [cmI k j, cmI n p, cmI m q, 1]))) [] 1] (by kernel_rfl) (cj (right4_does (k) (n) (m) (s) (by assumption)) (cj c1 (cj c1 (cj c1 (cj c1 (cj c2 (cj c3 (cj (rcmi_does (k) (j)) (cj (rcmi_does (n) (p)) (cj (rcmi_does (m) (q)) (cj (first_nil ([cmI k j, cmI n p, cmI m q, 1]) (by simp)) cj0)))))))))))
      · exact pth (fn := Tryz.f50) rfl (by kernel_rfl) [.c (.v (.bool (okV k n m s))) [] 0, .t, .t, .t, .t, .l, .f, .f, .c (.v (.int .i64 (cmI k j))) [] 0, .c (.v (.int .i64 (cmI n p))) [] 0, .c (.v (.int .i64 (cmI m q))) [] 0, .c (.v (.int .i64 (orL [cmI k j, cmI n p, cmI m q, 0]))) [] 1] (by kernel_rfl) (cj (right4_does (k) (n) (m) (s) (by assumption)) (cj c1 (cj c1 (cj c1 (cj c1 (cj c2 (cj c3 (cj (rcmi_does (k) (j)) (cj (rcmi_does (n) (p)) (cj (rcmi_does (m) (q)) (cj (first_nil ([cmI k j, cmI n p, cmI m q, 0]) (by simp)) cj0)))))))))))
  · refine tbif (fun c4 => ?_) (fun c4 => ?_)
    · refine tbif (fun c5 => ?_) (fun c5 => ?_)
      · exact pth (fn := Tryz.f50) rfl (by kernel_rfl) [.c (.v (.bool (okV k n m s))) [] 0, .f, .f, .c (.v (.bool (okV j p q u))) [] 0, .f, .f, .t, .t, .c (.v (.int .i64 (cmI k j))) [] 0, .c (.v (.int .i64 (cmI n p))) [] 0, .c (.v (.int .i64 (cmI m q))) [] 0, .c (.v (.int .i64 (orL [cmI k j, cmI n p, cmI m q, -1]))) [] 1] (by kernel_rfl) (cj (right4_does (k) (n) (m) (s) (by assumption)) (cj c1 (cj c1 (cj (right4_does (j) (p) (q) (u) (by assumption)) (cj c1 (cj c1 (cj c4 (cj c5 (cj (rcmi_does (k) (j)) (cj (rcmi_does (n) (p)) (cj (rcmi_does (m) (q)) (cj (first_nil ([cmI k j, cmI n p, cmI m q, -1]) (by simp)) cj0))))))))))))
      · refine tbif (fun c6 => ?_) (fun c6 => ?_)
        · exact pth (fn := Tryz.f50) rfl (by kernel_rfl) [.c (.v (.bool (okV k n m s))) [] 0, .f, .f, .c (.v (.bool (okV j p q u))) [] 0, .f, .f, .t, .f, .t, .c (.v (.int .i64 (cmI k j))) [] 0, .c (.v (.int .i64 (cmI n p))) [] 0, .c (.v (.int .i64 (cmI m q))) [] 0, .c (.v (.int .i64 (orL [cmI k j, cmI n p, cmI m q, 1]))) [] 1] (by kernel_rfl) (cj (right4_does (k) (n) (m) (s) (by assumption)) (cj c1 (cj c1 (cj (right4_does (j) (p) (q) (u) (by assumption)) (cj c1 (cj c1 (cj c4 (cj c5 (cj c6 (cj (rcmi_does (k) (j)) (cj (rcmi_does (n) (p)) (cj (rcmi_does (m) (q)) (cj (first_nil ([cmI k j, cmI n p, cmI m q, 1]) (by simp)) cj0)))))))))))))
        · exact pth (fn := Tryz.f50) rfl (by kernel_rfl) [.c (.v (.bool (okV k n m s))) [] 0, .f, .f, .c (.v (.bool (okV j p q u))) [] 0, .f, .f, .t, .f, .f, .c (.v (.int .i64 (cmI k j))) [] 0, .c (.v (.int .i64 (cmI n p))) [] 0, .c (.v (.int .i64 (cmI m q))) [] 0, .c (.v (.int .i64 (orL [cmI k j, cmI n p, cmI m q, 0]))) [] 1] (by kernel_rfl) (cj (right4_does (k) (n) (m) (s) (by assumption)) (cj c1 (cj c1 (cj (right4_does (j) (p) (q) (u) (by assumption)) (cj c1 (cj c1 (cj c4 (cj c5 (cj c6 (cj (rcmi_does (k) (j)) (cj (rcmi_does (n) (p)) (cj (rcmi_does (m) (q)) (cj (first_nil ([cmI k j, cmI n p, cmI m q, 0]) (by simp)) cj0)))))))))))))
    · refine tbif (fun c7 => ?_) (fun c7 => ?_)
      · exact pth (fn := Tryz.f50) rfl (by kernel_rfl) [.c (.v (.bool (okV k n m s))) [] 0, .f, .f, .c (.v (.bool (okV j p q u))) [] 0, .f, .f, .f, .c (.v (.int .i64 (clsV k))) [] 0, .c (.v (.int .i64 (clsV j))) [] 0, .t, .c (.v (.int .i64 (clsV j))) [] 0, .c (.v (.int .i64 (cmI (clsV k) (clsV j)))) [] 0] (by kernel_rfl) (cj (right4_does (k) (n) (m) (s) (by assumption)) (cj c1 (cj c1 (cj (right4_does (j) (p) (q) (u) (by assumption)) (cj c1 (cj c1 (cj c4 (cj (rclass_does (k)) (cj (rclass_does (j)) (cj c7 (cj (rclass_does (j)) (cj (rcmi_does (clsV k) (clsV j)) cj0))))))))))))
      · refine tbif (fun c8 => ?_) (fun c8 => ?_)
        · exact pth (fn := Tryz.f50) rfl (by kernel_rfl) [.c (.v (.bool (okV k n m s))) [] 0, .f, .f, .c (.v (.bool (okV j p q u))) [] 0, .f, .f, .f, .c (.v (.int .i64 (clsV k))) [] 0, .c (.v (.int .i64 (clsV j))) [] 0, .f, .t, .c (.v (.int .i64 (cmpM n m p q))) [] 0, .c (.v (.int .i64 (cmI k j))) [] 0, .c (.v (.int .i64 (cmI m q))) [] 0, .c (.v (.int .i64 (orL [cmpM n m p q, cmI k j, cmI m q]))) [] 1] (by kernel_rfl) (cj (right4_does (k) (n) (m) (s) (by assumption)) (cj c1 (cj c1 (cj (right4_does (j) (p) (q) (u) (by assumption)) (cj c1 (cj c1 (cj c4 (cj (rclass_does (k)) (cj (rclass_does (j)) (cj c7 (cj c8 (cj (rcmp_does (u := (n)) (x := (m)) (v := (p)) (y := (q)) (by assumption) (by assumption) (by assumption) (by assumption)) (cj (rcmi_does (k) (j)) (cj (rcmi_does (m) (q)) (cj (first_nil ([cmpM n m p q, cmI k j, cmI m q]) (by simp)) cj0)))))))))))))))
        · refine tbif (fun c9 => ?_) (fun c9 => ?_)
          · exact pth (fn := Tryz.f50) rfl (by kernel_rfl) [.c (.v (.bool (okV k n m s))) [] 0, .f, .f, .c (.v (.bool (okV j p q u))) [] 0, .f, .f, .f, .c (.v (.int .i64 (clsV k))) [] 0, .c (.v (.int .i64 (clsV j))) [] 0, .f, .f, .t, .c (.v (.int .i64 (cmI n p))) [] 0, .c (.v (.int .i64 (cmI m q))) [] 0, .c (.v (.int .i64 (orL [cmI n p, cmI m q, -1]))) [] 1] (by kernel_rfl) (cj (right4_does (k) (n) (m) (s) (by assumption)) (cj c1 (cj c1 (cj (right4_does (j) (p) (q) (u) (by assumption)) (cj c1 (cj c1 (cj c4 (cj (rclass_does (k)) (cj (rclass_does (j)) (cj c7 (cj c8 (cj c9 (cj (rcmi_does (n) (p)) (cj (rcmi_does (m) (q)) (cj (first_nil ([cmI n p, cmI m q, -1]) (by simp)) cj0)))))))))))))))
          · refine tbif (fun c10 => ?_) (fun c10 => ?_)
            · exact pth (fn := Tryz.f50) rfl (by kernel_rfl) [.c (.v (.bool (okV k n m s))) [] 0, .f, .f, .c (.v (.bool (okV j p q u))) [] 0, .f, .f, .f, .c (.v (.int .i64 (clsV k))) [] 0, .c (.v (.int .i64 (clsV j))) [] 0, .f, .f, .f, .t, .c (.v (.int .i64 (cmI n p))) [] 0, .c (.v (.int .i64 (cmI m q))) [] 0, .c (.v (.int .i64 (orL [cmI n p, cmI m q, 1]))) [] 1] (by kernel_rfl) (cj (right4_does (k) (n) (m) (s) (by assumption)) (cj c1 (cj c1 (cj (right4_does (j) (p) (q) (u) (by assumption)) (cj c1 (cj c1 (cj c4 (cj (rclass_does (k)) (cj (rclass_does (j)) (cj c7 (cj c8 (cj c9 (cj c10 (cj (rcmi_does (n) (p)) (cj (rcmi_does (m) (q)) (cj (first_nil ([cmI n p, cmI m q, 1]) (by simp)) cj0))))))))))))))))
            · exact pth (fn := Tryz.f50) rfl (by kernel_rfl) [.c (.v (.bool (okV k n m s))) [] 0, .f, .f, .c (.v (.bool (okV j p q u))) [] 0, .f, .f, .f, .c (.v (.int .i64 (clsV k))) [] 0, .c (.v (.int .i64 (clsV j))) [] 0, .f, .f, .f, .f, .c (.v (.int .i64 (cmI n p))) [] 0, .c (.v (.int .i64 (cmI m q))) [] 0, .c (.v (.int .i64 (orL [cmI n p, cmI m q, 0]))) [] 1] (by kernel_rfl) (cj (right4_does (k) (n) (m) (s) (by assumption)) (cj c1 (cj c1 (cj (right4_does (j) (p) (q) (u) (by assumption)) (cj c1 (cj c1 (cj c4 (cj (rclass_does (k)) (cj (rclass_does (j)) (cj c7 (cj c8 (cj c9 (cj c10 (cj (rcmi_does (n) (p)) (cj (rcmi_does (m) (q)) (cj (first_nil ([cmI n p, cmI m q, 0]) (by simp)) cj0))))))))))))))))
end Go.Proofs.YtnchjdhepakokaaGreatDoorC
/- The order of values, told: program and reference come to the same. -/
namespace Go.Proofs.YtnchjdhepakokaaGreatDoorC
open Go.Proofs Go.Proofs.YtnchjdhepakokaaGreatDoorSx Go.Lib
set_option maxRecDepth 100000
set_option linter.unusedVariables false
set_option linter.unusedSimpArgs false
theorem compare_does (k n m : Int) (s : ByteArray) (j p q : Int) (u : ByteArray) (hn : I64 n) (hm : I64 m) (hs : s.size ≤ 140737488351232) (hp : I64 p) (hq : I64 q) (hu : u.size ≤ 140737488351232) : Does cE 48 [] 0 [.v (vl k n m s), .v (vl j p q u)] (.v (it (cpV k n m s j p q u))) [] 0 := by
  have h := pCo_does k n m j p q s u hn hm hs hp hq hu
  have e : pCo k n m j p q s u = it (cpV k n m s j p q u) := by
    unfold pCo cpV byF
    simp only [it_if]
  rw [e] at h
  exact h
theorem less_cmp : ∀ a b : List UInt8, compareBytes a b = bif Go.Op.bytesLess a b then -1 else bif !(Go.Op.bytesLess a b || a == b) then 1 else 0
  | [], [] => rfl
  | [], _ :: _ => rfl
  | _ :: _, [] => by simp [compareBytes, Go.Op.bytesLess]
  | x :: a, y :: b => by
    have ih := less_cmp a b
    unfold compareBytes Go.Op.bytesLess
    by_cases h1 : x < y
    · simp [h1]
    · by_cases h2 : y < x
      · have h3 : (x == y) = false := by
          rw [beq_eq_false_iff_ne]
          intro e
          subst e
          exact h1 h2
        simp [h1, h2, h3, List.cons_beq_cons]
      · have h3 : x = y := UInt8.le_antisymm (UInt8.not_lt.mp h2) (UInt8.not_lt.mp h1)
        subst h3
        simp [h1, ih, List.cons_beq_cons]
theorem cmI_ne (x y : Int) : (cmI x y != 0) = (x != y) := by
  unfold cmI
  by_cases h1 : x < y
  · rw [decide_eq_true h1]
    have : (x != y) = true := by simp; omega
    rw [this]; rfl
  · rw [decide_eq_false h1]
    by_cases h2 : x > y
    · rw [decide_eq_true h2]
      have : (x != y) = true := by simp; omega
      rw [this]; rfl
    · rw [decide_eq_false h2]
      have : (x != y) = false := by simp; omega
      rw [this]; rfl
theorem cmI_self (x : Int) : cmI x x = 0 := by
  simp [cmI]
theorem ok_kind {k n m : Int} {s : ByteArray} (h : okV k n m s = true) : k = 0 ∨ k = 1 ∨ k = 2 ∨ k = 3 ∨ k = 4 ∨ k = 5 := by
  by_cases h0 : k = 0
  · exact .inl h0
  by_cases h1 : k = 1
  · exact .inr (.inl h1)
  by_cases h2 : k = 2
  · exact .inr (.inr (.inl h2))
  by_cases h3 : k = 3
  · exact .inr (.inr (.inr (.inl h3)))
  by_cases h4 : k = 4
  · exact .inr (.inr (.inr (.inr (.inl h4))))
  by_cases h5 : k = 5
  · exact .inr (.inr (.inr (.inr (.inr h5))))
  unfold okV at h
  rw [beq_eq_false_iff_ne.mpr h0, beq_eq_false_iff_ne.mpr h1, beq_eq_false_iff_ne.mpr h2, beq_eq_false_iff_ne.mpr h3, beq_eq_false_iff_ne.mpr h4, beq_eq_false_iff_ne.mpr h5] at h
  cases (show false = true from h)
theorem kind_one {k n m j p q : Int} {s u : ByteArray} (h1 : okV k n m s = true) (h2 : okV j p q u = true) (hc : (clsV k != clsV j) = false) (h : (clsV k == 2) = false) : k = j := by
  rcases ok_kind h1 with rfl | rfl | rfl | rfl | rfl | rfl <;> rcases ok_kind h2 with rfl | rfl | rfl | rfl | rfl | rfl <;> first | rfl | exact absurd hc (by decide) | exact absurd h (by decide)
theorem rCo_said (k n m j p q : Int) (s u : ByteArray) : rCo k n m j p q s u = it (cpV k n m s j p q u) := by
  have e : ∀ (f : Int → Int), (bif Go.Op.bytesLess s.toList u.toList then it (f (-1)) else bif !(Go.Op.bytesLess s.toList u.toList || s.toList == u.toList) then it (f 1) else it (f 0)) = it (f (compareBytes s.data.toList u.data.toList)) := by
    intro f
    rw [less_cmp, ← Go.ByteArray.toList_eq, ← Go.ByteArray.toList_eq]
    cases Go.Op.bytesLess s.toList u.toList
    · cases (!(false || s.toList == u.toList)) <;> rfl
    · rfl
  unfold rCo cpV byF
  have e1 := e (fun x => orL [cmI k j, cmI n p, cmI m q, x])
  have e2 := e (fun x => orL [cmI n p, cmI m q, x])
  rw [e1, e2, cmI_ne]
  cases h1 : okV k n m s
  · rfl
  · cases h2 : okV j p q u
    · rfl
    · cases h3 : (clsV k != clsV j)
      · cases h4 : (clsV k == 2)
        · have := kind_one h1 h2 h3 h4
          subst this
          rw [cmI_self]
          rfl
        · rfl
      · rfl
theorem rcompare_does (k n m : Int) (s : ByteArray) (j p q : Int) (u : ByteArray) (hn : I64 n) (hm : I64 m) (hs : s.size ≤ 140737488351232) (hp : I64 p) (hq : I64 q) (hu : u.size ≤ 140737488351232) : Does cE 50 [] 0 [.v (vl k n m s), .v (vl j p q u)] (.v (it (cpV k n m s j p q u))) [] 0 := by
  rw [← rCo_said]
  exact rCo_does k n m j p q s u hn hm hs hp hq hu
theorem ix_ok {op : Int} {a b c d e f : Bool} (c5 : decide (op ≥ 17) = false) (c8 : decide (op < 11) = false) : 0 ≤ IntKind.i64.wrap (op - 11) ∧ IntKind.i64.wrap (op - 11) < ((6 : Nat) : Int) ∧ IntKind.i64.wrap (op - 11) < ((preB [.bool a, .bool b, .bool c, .bool d, .bool e, .bool f]).length : Int) := by
  have h1 := of_decide_eq_false c5
  have h2 := of_decide_eq_false c8
  rw [wrap64 (by omega) (by omega)]
  change _ ∧ _ ∧ op - 11 < ((6 : Nat) : Int)
  omega
end Go.Proofs.YtnchjdhepakokaaGreatDoorC
/- The order of values is one order: plain law. -/
namespace Go.Proofs.YtnchjdhepakokaaGreatDoorC
open Go.Proofs Go.Proofs.YtnchjdhepakokaaGreatDoorSx Go.Lib
set_option maxRecDepth 100000
set_option linter.unusedVariables false
set_option linter.unusedSimpArgs false
theorem sg_mul (u p : Int) : sg (ab u * p) (ng u) = u * p := by
  rcases ab_spec u with ⟨h1, h2⟩ | ⟨h1, h2⟩
  · rw [show ng u = true from decide_eq_true h1, h2]
    simp only [sg, if_pos]
    rw [Int.neg_mul]
    omega
  · rw [show ng u = false from decide_eq_false (by omega), h2]
    simp [sg]
theorem sg_mulT (u p : Int) (t : Bool) : sg (ab u * p) (ng u != t) = if t then -(u * p) else u * p := by
  rcases ab_spec u with ⟨h1, h2⟩ | ⟨h1, h2⟩
  · rw [show ng u = true from decide_eq_true h1, h2]
    cases t <;> simp [sg, Int.neg_mul]
  · rw [show ng u = false from decide_eq_false (by omega), h2]
    cases t <;> simp [sg]
theorem addM_sg {x y : Int} (hx : 0 ≤ x) (hy : 0 ≤ y) (s t : Bool) : sg (addM x s y t).1 (addM x s y t).2 = sg x s + sg y t := by
  unfold addM
  by_cases h : s = t
  · subst h
    rw [if_pos rfl]
    cases s <;> simp [sg] <;> omega
  · rw [if_neg h]
    by_cases hlt : x < y
    · rw [if_pos hlt]
      cases s <;> cases t <;> simp [sg] at h ⊢ <;> omega
    · rw [if_neg hlt]
      cases s <;> cases t <;> simp [sg] at h ⊢ <;> omega
theorem cmpZ {u x v y : Int} (hu : I64 u) (hv : I64 v) (hx : sc6 x) (hy : sc6 y) : cmpM u x v y = cmpI (u * p10 (6 - x)) (v * p10 (6 - y)) := by
  have m1 := up_mul (z := 6 - x) hu (by omega)
  have m2 := up_mul (z := 6 - y) hv (by omega)
  have hb := addM_bound (B := 0) m1.1 m2.1 (ng u) (!ng v)
  have hs := addM_sg m1.1 m2.1 (ng u) (!ng v)
  have e : (!ng v) = (ng v != true) := by simp
  rw [e] at hs hb
  rw [sg_mul, sg_mulT] at hs
  unfold cmpM cmpI
  rw [if_pos ⟨hx, hy⟩, e]
  generalize addM (ab u * p10 (6 - x)) (ng u) (ab v * p10 (6 - y)) (ng v != true) = D at hs hb
  obtain ⟨d, n⟩ := D
  simp only [if_pos] at hs hb ⊢
  by_cases h0 : d = 0
  · rw [if_pos h0]
    have : u * p10 (6 - x) = v * p10 (6 - y) := by
      cases n <;> simp [sg] at hs <;> omega
    rw [if_neg (by omega), if_neg (by omega)]
  · rw [if_neg h0]
    cases n with
    | true =>
      simp [sg] at hs
      rw [if_pos rfl, if_pos (by omega)]
    | false =>
      simp [sg] at hs
      rw [if_neg (by decide), if_neg (by omega), if_pos (by omega)]
theorem cmI_spec (a b : Int) : (a < b ∧ cmI a b = -1) ∨ (b < a ∧ cmI a b = 1) ∨ (a = b ∧ cmI a b = 0) := by
  unfold cmI
  by_cases h : a < b
  · exact .inl ⟨h, by rw [decide_eq_true h]; rfl⟩
  · by_cases g : a > b
    · exact .inr (.inl ⟨g, by rw [decide_eq_false h, decide_eq_true g]; rfl⟩)
    · exact .inr (.inr ⟨by omega, by rw [decide_eq_false h, decide_eq_false g]; rfl⟩)
theorem Ord.key_eq {x y : Int} (h : cmI x y = 0) : x = y := by
  have := cmI_spec x y
  omega
theorem Ord.key_zero {x y z : Int} (h : cmI x y = 0) (g : cmI y z = 0) : cmI x z = 0 := by
  have h1 := cmI_spec x y
  have h2 := cmI_spec y z
  have h3 := cmI_spec x z
  omega
theorem Ord.key_sym {x y : Int} (h : cmI x y = 0) : cmI y x = 0 := by
  have h1 := cmI_spec x y
  have h3 := cmI_spec y x
  omega
def ors (x y : Int) : Int := bif x != 0 then x else y
theorem ors_spec (x y : Int) : (x ≠ 0 ∧ ors x y = x) ∨ (x = 0 ∧ ors x y = y) := by
  unfold ors
  by_cases h : x = 0
  · exact .inr ⟨h, by rw [h]; rfl⟩
  · exact .inl ⟨h, by rw [show (x != 0) = true by simpa using h]; rfl⟩
/-- One order, among those of which R speaks. -/
structure Ord {α : Type} (R : α → α → Prop) (c : α → α → Int) : Prop where
  anti : ∀ a b, R a b → c b a = - c a b
  trans : ∀ a b d, R a b → R b d → c a b ≤ 0 → c b d ≤ 0 → c a d ≤ 0
theorem Ord.two {α : Type} {R : α → α → Prop} (tr : ∀ a b d, R a b → R b d → R a d) (sy : ∀ a b, R a b → R b a) {c1 c2 : α → α → Int} (h1 : Ord R c1) (h2 : Ord (fun a b => R a b ∧ c1 a b = 0) c2) : Ord R (fun a b => ors (c1 a b) (c2 a b)) where
  anti a b r := by
    show ors (c1 b a) (c2 b a) = - ors (c1 a b) (c2 a b)
    have e := h1.anti a b r
    rcases ors_spec (c1 a b) (c2 a b) with ⟨n, e1⟩ | ⟨z, e1⟩ <;> rcases ors_spec (c1 b a) (c2 b a) with ⟨n2, e2⟩ | ⟨z2, e2⟩
    · rw [e1, e2, e]
    · omega
    · omega
    · rw [e1, e2]; exact h2.anti a b ⟨r, z⟩
  trans a b d r1 r2 e1 e2 := by
    have e1 : ors (c1 a b) (c2 a b) ≤ 0 := e1
    have e2 : ors (c1 b d) (c2 b d) ≤ 0 := e2
    show ors (c1 a d) (c2 a d) ≤ 0
    have s1 := ors_spec (c1 a b) (c2 a b)
    have s2 := ors_spec (c1 b d) (c2 b d)
    have k1 : c1 a b ≤ 0 := by omega
    have k2 : c1 b d ≤ 0 := by omega
    have k3 := h1.trans a b d r1 r2 k1 k2
    rcases ors_spec (c1 a d) (c2 a d) with ⟨n, e⟩ | ⟨z, e⟩
    · rw [e]; exact k3
    · have r3 := tr a b d r1 r2
      have a3 := h1.anti a d r3
      have t1 := h1.trans b d a r2 (sy _ _ r3) k2 (by omega)
      have t2 := h1.trans d a b (sy _ _ r3) r1 (by omega) k1
      have a1 := h1.anti a b r1
      have a2 := h1.anti b d r2
      have z1 : c1 a b = 0 := by omega
      have z2 : c1 b d = 0 := by omega
      rw [e]
      exact h2.trans a b d ⟨r1, z1⟩ ⟨r2, z2⟩ (by omega) (by omega)
theorem Ord.key {α : Type} {R : α → α → Prop} (f : α → Int) : Ord R (fun a b => cmI (f a) (f b)) where
  anti a b r := by
    show cmI (f b) (f a) = - cmI (f a) (f b)
    have h1 := cmI_spec (f a) (f b)
    have h2 := cmI_spec (f b) (f a)
    omega
  trans a b d r1 r2 e1 e2 := by
    have e1 : cmI (f a) (f b) ≤ 0 := e1
    have e2 : cmI (f b) (f d) ≤ 0 := e2
    show cmI (f a) (f d) ≤ 0
    have h1 := cmI_spec (f a) (f b)
    have h2 := cmI_spec (f b) (f d)
    have h3 := cmI_spec (f a) (f d)
    omega
theorem Ord.like {α : Type} {R : α → α → Prop} (tr : ∀ a b d, R a b → R b d → R a d) (sy : ∀ a b, R a b → R b a) {c c' : α → α → Int} (h : Ord R c') (e : ∀ a b, R a b → c a b = c' a b) : Ord R c where
  anti a b r := by rw [e a b r, e b a (sy _ _ r)]; exact h.anti a b r
  trans a b d r1 r2 e1 e2 := by
    rw [e a b r1] at e1
    rw [e b d r2] at e2
    rw [e a d (tr _ _ _ r1 r2)]
    exact h.trans a b d r1 r2 e1 e2
theorem Ord.less {α : Type} {R R' : α → α → Prop} {c : α → α → Int} (h : Ord R c) (e : ∀ a b, R' a b → R a b) : Ord R' c :=
  ⟨fun a b r => h.anti a b (e a b r), fun a b d r1 r2 => h.trans a b d (e a b r1) (e b d r2)⟩
theorem Ord.zero {α : Type} {R : α → α → Prop} : Ord R (fun _ _ => (0 : Int)) := ⟨fun _ _ _ => rfl, fun _ _ _ _ _ _ _ => Int.le_refl _⟩
theorem cb_cons (a b : UInt8) (x y : List UInt8) : (a.toNat < b.toNat ∧ compareBytes (a :: x) (b :: y) = -1) ∨ (b.toNat < a.toNat ∧ compareBytes (a :: x) (b :: y) = 1) ∨ (a = b ∧ compareBytes (a :: x) (b :: y) = compareBytes x y) := by
  have e : compareBytes (a :: x) (b :: y) = if a < b then -1 else if b < a then 1 else compareBytes x y := rfl
  rw [e]
  by_cases h : a < b
  · exact .inl ⟨UInt8.lt_iff_toNat_lt.1 h, if_pos h⟩
  · by_cases g : b < a
    · exact .inr (.inl ⟨UInt8.lt_iff_toNat_lt.1 g, by rw [if_neg h, if_pos g]⟩)
    · refine .inr (.inr ⟨?_, by rw [if_neg h, if_neg g]⟩)
      rw [UInt8.lt_iff_toNat_lt] at h g
      exact UInt8.toNat_inj.1 (by omega)
theorem cb_anti : ∀ x y : List UInt8, compareBytes y x = - compareBytes x y
  | [], [] => rfl
  | [], _ :: _ => rfl
  | _ :: _, [] => rfl
  | a :: x, b :: y => by
    have ih := cb_anti x y
    have h1 := cb_cons a b x y
    have h2 := cb_cons b a y x
    have k1 : a = b → a.toNat = b.toNat := fun h => by rw [h]
    have k2 : b = a → b.toNat = a.toNat := fun h => by rw [h]
    rcases h1 with ⟨g, e⟩ | ⟨g, e⟩ | ⟨g, e⟩ <;> rcases h2 with ⟨g2, e2⟩ | ⟨g2, e2⟩ | ⟨g2, e2⟩ <;> first | omega | (have := k1 g; omega) | (have := k2 g2; omega)
theorem cb_trans : ∀ x y z : List UInt8, compareBytes x y ≤ 0 → compareBytes y z ≤ 0 → compareBytes x z ≤ 0
  | [], _, [], _, _ => by decide
  | [], _, _ :: _, _, _ => by show (-1 : Int) ≤ 0; decide
  | a :: x, [], _, h, _ => by
    have : (1 : Int) ≤ 0 := h
    omega
  | a :: x, b :: y, [], _, h => by
    have : (1 : Int) ≤ 0 := h
    omega
  | a :: x, b :: y, d :: z, h, g => by
    have ih := cb_trans x y z
    have k1 : a = b → a.toNat = b.toNat := fun h => by rw [h]
    have k2 : b = d → b.toNat = d.toNat := fun h => by rw [h]
    have k3 : a = d → a.toNat = d.toNat := fun h => by rw [h]
    rcases cb_cons a b x y with ⟨q1, e1⟩ | ⟨q1, e1⟩ | ⟨q1, e1⟩ <;> rcases cb_cons b d y z with ⟨q2, e2⟩ | ⟨q2, e2⟩ | ⟨q2, e2⟩ <;> rcases cb_cons a d x z with ⟨q3, e3⟩ | ⟨q3, e3⟩ | ⟨q3, e3⟩ <;>
      first | omega | (have := k1 q1; omega) | (have := k2 q2; omega) | (have := k3 q3; omega) | (have := k1 q1; have := k2 q2; omega) | (have := k2 q2; have := k3 q3; omega) | (have := k1 q1; have := k3 q3; omega) | (rw [e3]; exact ih (by omega) (by omega))
theorem cb_self (x : List UInt8) : compareBytes x x = 0 := by
  have := cb_anti x x
  omega
theorem cb_zero : ∀ x y : List UInt8, compareBytes x y = 0 → x = y
  | [], [], _ => rfl
  | [], _ :: _, h => by cases (show (-1 : Int) = 0 from h)
  | _ :: _, [], h => by cases (show (1 : Int) = 0 from h)
  | a :: x, b :: y, h => by
    rcases cb_cons a b x y with ⟨q1, e1⟩ | ⟨q1, e1⟩ | ⟨q1, e1⟩
    · omega
    · omega
    · rw [q1, cb_zero x y (by omega)]
/-! ### Values -/
abbrev VT := Int × Int × Int × ByteArray
abbrev okT (a : VT) : Prop := okV a.1 a.2.1 a.2.2.1 a.2.2.2 = true ∧ I64 a.2.1
abbrev cpT (a b : VT) : Int := cpV a.1 a.2.1 a.2.2.1 a.2.2.2 b.1 b.2.1 b.2.2.1 b.2.2.2
abbrev clT (a : VT) : Int := clsV a.1
def cnT (a b : VT) : Int := orL [cmpM a.2.1 a.2.2.1 b.2.1 b.2.2.1, cmI a.1 b.1, cmI a.2.2.1 b.2.2.1]
def cfT (a b : VT) : Int := byF a.1 a.2.1 a.2.2.1 a.2.2.2 b.1 b.2.1 b.2.2.1 b.2.2.2
theorem ok_num {k n m : Int} {s : ByteArray} (h : okV k n m s = true) (hc : clsV k = 2) : sc6 m ∧ s.toList = [] := by
  rcases ok_kind h with rfl | rfl | rfl | rfl | rfl | rfl
  · exact absurd hc (by decide)
  · have h' : (m == 0 && eqE s) = true := h
    simp only [Bool.and_eq_true, beq_iff_eq, eqE] at h'
    obtain ⟨e, h'⟩ := h'
    subst e
    exact ⟨by decide, h'.trans (by rw [Go.ByteArray.toList_eq])⟩
  · have h' : (decide (0 ≤ m) && decide (m ≤ 6) && eqE s) = true := h
    simp only [Bool.and_eq_true, decide_eq_true_eq, beq_iff_eq, eqE] at h'
    exact ⟨h'.1, h'.2.trans (by rw [Go.ByteArray.toList_eq])⟩
  · exact absurd hc (by decide)
  · exact absurd hc (by decide)
  · exact absurd hc (by decide)
theorem cmpI_cmI (x y : Int) : cmpI x y = cmI x y := by
  unfold cmpI cmI
  by_cases h : x < y
  · rw [if_pos h, decide_eq_true h]; rfl
  · rw [if_neg h, decide_eq_false h]
    by_cases g : x > y
    · rw [if_pos g, decide_eq_true g]; rfl
    · rw [if_neg g, decide_eq_false g]; rfl
def nkT (a : VT) : Int := a.2.1 * p10 (6 - a.2.2.1)
abbrev RT (a b : VT) : Prop := okT a ∧ okT b
abbrev RN (a b : VT) : Prop := RT a b ∧ clT a = 2 ∧ clT b = 2
theorem cmpM_key {a b : VT} (h : RN a b) : cmpM a.2.1 a.2.2.1 b.2.1 b.2.2.1 = cmI (nkT a) (nkT b) := by
  rw [cmpZ h.1.1.2 h.1.2.2 (ok_num h.1.1.1 h.2.1).1 (ok_num h.1.2.1 h.2.2).1, cmpI_cmI]
  rfl
theorem ordN : Ord RN cnT := by
  have tr : ∀ a b d, RN a b → RN b d → RN a d := fun a b d h g => ⟨⟨h.1.1, g.1.2⟩, h.2.1, g.2.2⟩
  have sy : ∀ a b, RN a b → RN b a := fun a b h => ⟨⟨h.1.2, h.1.1⟩, h.2.2, h.2.1⟩
  have h := Ord.two (R := RN) tr sy (c1 := fun a b : VT => cmI (nkT a) (nkT b)) (c2 := fun a b : VT => ors (cmI a.1 b.1) (ors (cmI a.2.2.1 b.2.2.1) 0)) (Ord.key nkT)
    (Ord.two (fun a b d h g => ⟨tr a b d h.1 g.1, (Ord.key_zero h.2 g.2)⟩) (fun a b h => ⟨sy a b h.1, Ord.key_sym h.2⟩) (Ord.key fun a : VT => a.1)
      ((Ord.two (R := fun _ _ => True) (fun _ _ _ _ _ => trivial) (fun _ _ _ => trivial) (Ord.key fun a : VT => a.2.2.1) Ord.zero).less fun _ _ _ => trivial))
  exact h.like tr sy (fun a b r => by
    show orL _ = ors _ _
    rw [cmpM_key r]
    rfl)
theorem ordF : Ord (fun _ _ : VT => True) cfT := by
  have tr : ∀ a b d : VT, True → True → True := fun _ _ _ _ _ => trivial
  have sy : ∀ a b : VT, True → True := fun _ _ _ => trivial
  have hb : Ord (fun _ _ : VT => True) (fun a b : VT => compareBytes a.2.2.2.data.toList b.2.2.2.data.toList) := ⟨fun a b _ => cb_anti _ _, fun a b d _ _ => cb_trans _ _ _⟩
  have h0 := Ord.two tr sy hb (Ord.zero (R := fun a b : VT => True ∧ compareBytes a.2.2.2.data.toList b.2.2.2.data.toList = 0))
  have h1 := Ord.two tr sy (Ord.key fun a : VT => a.2.2.1) (h0.less fun _ _ _ => trivial)
  have h2 := Ord.two tr sy (Ord.key fun a : VT => a.2.1) (h1.less fun _ _ _ => trivial)
  exact Ord.two tr sy (Ord.key fun a : VT => a.1) (h2.less fun _ _ _ => trivial)
theorem cpT_eq {a b : VT} (h : RT a b) : cpT a b = ors (cmI (clT a) (clT b)) (bif clT a == 2 then cnT a b else cfT a b) := by
  show cpV _ _ _ _ _ _ _ _ = _
  unfold cpV
  rw [h.1.1, h.2.1]
  rfl
theorem ordV : Ord RT cpT := by
  have tr : ∀ a b d, RT a b → RT b d → RT a d := fun a b d h g => ⟨h.1, g.2⟩
  have sy : ∀ a b, RT a b → RT b a := fun a b h => ⟨h.2, h.1⟩
  refine (Ord.two tr sy (Ord.key clT) (c2 := fun a b => bif clT a == 2 then cnT a b else cfT a b) ⟨fun a b r => ?_, fun a b d r1 r2 e1 e2 => ?_⟩).like tr sy (fun a b r => cpT_eq r)
  · have e := Ord.key_eq r.2
    show (bif clT b == 2 then cnT b a else cfT b a) = - (bif clT a == 2 then cnT a b else cfT a b)
    rw [← e]
    cases hc : (clT a == 2)
    · exact ordF.anti a b trivial
    · have := eq_of_beq hc
      exact ordN.anti a b ⟨r.1, this, by omega⟩
  · have g1 := Ord.key_eq r1.2
    have g2 := Ord.key_eq r2.2
    have e1 : (bif clT a == 2 then cnT a b else cfT a b) ≤ 0 := e1
    have e2 : (bif clT b == 2 then cnT b d else cfT b d) ≤ 0 := e2
    show (bif clT a == 2 then cnT a d else cfT a d) ≤ 0
    rw [← g1] at e2
    cases hc : (clT a == 2)
    · rw [hc] at e1 e2
      exact ordF.trans a b d trivial trivial e1 e2
    · rw [hc] at e1 e2
      have := eq_of_beq hc
      exact ordN.trans a b d ⟨r1.1, this, by omega⟩ ⟨r2.1, by omega, by omega⟩ e1 e2
theorem cp_zero {a b : VT} (h : RT a b) (z : cpT a b = 0) : a = b := by
  rw [cpT_eq h] at z
  have s1 := ors_spec (cmI (clT a) (clT b)) (bif clT a == 2 then cnT a b else cfT a b)
  have hcl : cmI (clT a) (clT b) = 0 := by omega
  have e := Ord.key_eq hcl
  have z : (bif clT a == 2 then cnT a b else cfT a b) = 0 := by omega
  have key : ∀ {x y : Int}, cmI x y = 0 → x = y := fun {x y} hh => Ord.key_eq hh
  cases hc : (clT a == 2)
  · rw [hc] at z
    have z' : ors (cmI a.1 b.1) (ors (cmI a.2.1 b.2.1) (ors (cmI a.2.2.1 b.2.2.1) (ors (compareBytes a.2.2.2.data.toList b.2.2.2.data.toList) 0))) = 0 := z
    have t1 := ors_spec (cmI a.1 b.1) (ors (cmI a.2.1 b.2.1) (ors (cmI a.2.2.1 b.2.2.1) (ors (compareBytes a.2.2.2.data.toList b.2.2.2.data.toList) 0)))
    have t2 := ors_spec (cmI a.2.1 b.2.1) (ors (cmI a.2.2.1 b.2.2.1) (ors (compareBytes a.2.2.2.data.toList b.2.2.2.data.toList) 0))
    have t3 := ors_spec (cmI a.2.2.1 b.2.2.1) (ors (compareBytes a.2.2.2.data.toList b.2.2.2.data.toList) 0)
    have t4 := ors_spec (compareBytes a.2.2.2.data.toList b.2.2.2.data.toList) 0
    have k1 := key (x := a.1) (y := b.1) (by omega)
    have k2 := key (x := a.2.1) (y := b.2.1) (by omega)
    have k3 := key (x := a.2.2.1) (y := b.2.2.1) (by omega)
    have k4 := cb_zero a.2.2.2.data.toList b.2.2.2.data.toList (by omega)
    obtain ⟨a1, a2, a3, a4⟩ := a
    obtain ⟨b1, b2, b3, b4⟩ := b
    simp only at k1 k2 k3 k4
    have k4' : a4 = b4 := by
      cases a4; cases b4
      simp only at k4
      congr 1
      exact Array.toList_inj.1 k4
    rw [k1, k2, k3, k4']
  · rw [hc] at z
    have hc2 := eq_of_beq hc
    have r : RN a b := ⟨h, hc2, by omega⟩
    have z' : ors (cmpM a.2.1 a.2.2.1 b.2.1 b.2.2.1) (ors (cmI a.1 b.1) (ors (cmI a.2.2.1 b.2.2.1) 0)) = 0 := z
    rw [cmpM_key r] at z'
    have t1 := ors_spec (cmI (nkT a) (nkT b)) (ors (cmI a.1 b.1) (ors (cmI a.2.2.1 b.2.2.1) 0))
    have t2 := ors_spec (cmI a.1 b.1) (ors (cmI a.2.2.1 b.2.2.1) 0)
    have t3 := ors_spec (cmI a.2.2.1 b.2.2.1) 0
    have k0 := key (x := nkT a) (y := nkT b) (by omega)
    have k1 := key (x := a.1) (y := b.1) (by omega)
    have k3 := key (x := a.2.2.1) (y := b.2.2.1) (by omega)
    have o1 := ok_num h.1.1 r.2.1
    have o2 := ok_num h.2.1 r.2.2
    obtain ⟨a1, a2, a3, a4⟩ := a
    obtain ⟨b1, b2, b3, b4⟩ := b
    simp only at k1 k3 o1 o2
    unfold nkT at k0
    simp only at k0
    subst k3
    have hp := p10_le (z := 6 - a3) (by omega)
    have k2 : a2 = b2 := Int.eq_of_mul_eq_mul_right (by omega) k0
    have k4 : a4 = b4 := by
      have h1 : a4.data.toList = [] := by rw [← Go.ByteArray.toList_eq]; exact o1.2
      have h2 : b4.data.toList = [] := by rw [← Go.ByteArray.toList_eq]; exact o2.2
      cases a4; cases b4
      simp only at h1 h2
      congr 1
      exact Array.toList_inj.1 (h1.trans h2.symm)
    rw [k1, k2, k4]
theorem cp_self {a : VT} (h : okT a) : cpT a a = 0 := by
  have := ordV.anti a a ⟨h, h⟩
  omega
theorem same_eq (k n m : Int) (s : ByteArray) (j p q : Int) (u : ByteArray) : sameV k n m s j p q u = true ↔ ((k, n, m, s) : VT) = (j, p, q, u) := by
  unfold sameV
  simp only [Bool.and_eq_true, beq_iff_eq, Prod.mk.injEq]
  constructor
  · rintro ⟨⟨⟨a, b⟩, c⟩, d⟩
    refine ⟨a, b, c, ?_⟩
    rw [Go.ByteArray.toList_eq, Go.ByteArray.toList_eq] at d
    cases s; cases u
    simp only at d
    congr 1
    exact Array.toList_inj.1 d
  · rintro ⟨a, b, c, d⟩
    subst d
    exact ⟨⟨⟨a, b⟩, c⟩, rfl⟩
theorem cp_same {k n m : Int} {s : ByteArray} {j p q : Int} {u : ByteArray} (h1 : okV k n m s = true) (h2 : okV j p q u = true) (hn : I64 n) (hp : I64 p) : (cpV k n m s j p q u == 0) = sameV k n m s j p q u := by
  rw [Bool.eq_iff_iff, beq_iff_eq, same_eq]
  constructor
  · intro z
    exact cp_zero (a := (k, n, m, s)) (b := (j, p, q, u)) ⟨⟨h1, hn⟩, h2, hp⟩ z
  · intro e
    cases e
    exact cp_self (a := (k, n, m, s)) ⟨h1, hn⟩
theorem cmI_b (x y : Int) : -1 ≤ cmI x y ∧ cmI x y ≤ 1 := by
  have := cmI_spec x y
  omega
theorem ors_b {x y : Int} (hx : -1 ≤ x ∧ x ≤ 1) (hy : -1 ≤ y ∧ y ≤ 1) : -1 ≤ ors x y ∧ ors x y ≤ 1 := by
  have := ors_spec x y
  omega
theorem cb_b : ∀ x y : List UInt8, -1 ≤ compareBytes x y ∧ compareBytes x y ≤ 1
  | [], [] => by decide
  | [], _ :: _ => by show (-1 : Int) ≤ -1 ∧ (-1 : Int) ≤ 1; decide
  | _ :: _, [] => by show (-1 : Int) ≤ 1 ∧ (1 : Int) ≤ 1; decide
  | a :: x, b :: y => by
    have ih := cb_b x y
    have := cb_cons a b x y
    omega
theorem cmpM_b (u x v y : Int) : -1 ≤ cmpM u x v y ∧ cmpM u x v y ≤ 1 := by
  unfold cmpM
  split
  · split
    · decide
    · split <;> decide
  · decide
theorem cp_b {a b : VT} (h : RT a b) : -1 ≤ cpT a b ∧ cpT a b ≤ 1 := by
  rw [cpT_eq h]
  have z0 : (-1 : Int) ≤ 0 ∧ (0 : Int) ≤ 1 := by decide
  refine ors_b (cmI_b _ _) ?_
  cases hc : (clT a == 2)
  · exact ors_b (cmI_b _ _) (ors_b (cmI_b _ _) (ors_b (cmI_b _ _) (ors_b (cb_b _ _) z0)))
  · exact ors_b (cmpM_b _ _ _ _) (ors_b (cmI_b _ _) (ors_b (cmI_b _ _) z0))
end Go.Proofs.YtnchjdhepakokaaGreatDoorC
/-
  DERIVED: THE SHELF's CONTRACTS AT THIS DUMP, IN PLAIN WORDS (tools/lay-plain.mjs out of 'YtnchjdhepakokaaGreatDoorSRx.lean', which tools/lay-shelf.mjs wrote): THE SAME DECLARATIONS UNDER THE SAME NAMES: 'import', 'namespace', 'open', 'def', 'theorem' AND NOTHING ELSE: no command of the shelf's: FOR A HAND-IN. Each laying: the table of numbers ('.._ren') and one theorem, a field a fact of the dump's own or the kernel's comparison; each contract: ONE APPLICATION.
-/
namespace Go.Proofs
open Go.Shelf
def Tryz.laysReplaceAll_ren : Go.Shelf.Ren := ⟨fun | 155 => 114 | 154 => 195 | 138 => 259 | 165 => 255 | 143 => 251 | 166 => 256 | 197 => 260 | 169 => 258 | 195 => 293 | 218 => 294 | 240 => 291 | 241 => 292 | 219 => 284 | 260 => 295 | 276 => 322 | 277 => 323 | 217 => 313 | 225 => 314 | 224 => 315 | 267 => 316 | 266 => 335 | 314 => 336 | n => n, fun | 9 => 9 | 3 => 3 | 4 => 4 | 72 => 277 | 0 => 0 | 76 => 270 | 105 => 279 | 21 => 21 | 5 => 5 | 70 => 275 | 20 => 20 | 37 => 79 | 75 => 269 | 127 => 306 | 164 => 324 | 46 => 226 | 119 => 222 | 139 => 225 | 138 => 224 | 146 => 304 | 51 => 303 | 80 => 161 | n => n, fun | 1 => 3 | 3 => 0 | 4 => 1 | n => n⟩
theorem Tryz.laysReplaceAll : Go.Proofs.Lays.n155 Tryz.prog Tryz.laysReplaceAll_ren := {
  mixed := by kernel_rfl
  f138 := Tryz.func259.trans (congrArg some (by kernel_rfl))
  f143 := Tryz.func251.trans (congrArg some (by kernel_rfl))
  f154 := Tryz.func195.trans (congrArg some (by kernel_rfl))
  f155 := Tryz.func114.trans (congrArg some (by kernel_rfl))
  f165 := Tryz.func255.trans (congrArg some (by kernel_rfl))
  f166 := Tryz.func256.trans (congrArg some (by kernel_rfl))
  f169 := Tryz.func258.trans (congrArg some (by kernel_rfl))
  f195 := Tryz.func293.trans (congrArg some (by kernel_rfl))
  f197 := Tryz.func260.trans (congrArg some (by kernel_rfl))
  f217 := Tryz.func313.trans (congrArg some (by kernel_rfl))
  f218 := Tryz.func294.trans (congrArg some (by kernel_rfl))
  f219 := Tryz.func284.trans (congrArg some (by kernel_rfl))
  f224 := Tryz.func315.trans (congrArg some (by kernel_rfl))
  f225 := Tryz.func314.trans (congrArg some (by kernel_rfl))
  f240 := Tryz.func291.trans (congrArg some (by kernel_rfl))
  f241 := Tryz.func292.trans (congrArg some (by kernel_rfl))
  f260 := Tryz.func295.trans (congrArg some (by kernel_rfl))
  f266 := Tryz.func335.trans (congrArg some (by kernel_rfl))
  f267 := Tryz.func316.trans (congrArg some (by kernel_rfl))
  f276 := Tryz.func322.trans (congrArg some (by kernel_rfl))
  f277 := Tryz.func323.trans (congrArg some (by kernel_rfl))
  f314 := Tryz.func336.trans (congrArg some (by kernel_rfl))
  t0 := Tryz.underlying0
  a0 := Tryz.isAgg0
  z0 := Tryz.sizeOf0
  v0 := Tryz.zeroValue0
  t3 := Tryz.underlying3
  a3 := Tryz.isAgg3
  z3 := Tryz.sizeOf3
  v3 := Tryz.zeroValue3
  t4 := Tryz.underlying4
  a4 := Tryz.isAgg4
  z4 := Tryz.sizeOf4
  v4 := Tryz.zeroValue4
  t5 := Tryz.underlying5
  a5 := Tryz.isAgg5
  z5 := Tryz.sizeOf5
  v5 := Tryz.zeroValue5
  t9 := Tryz.underlying9
  a9 := Tryz.isAgg9
  z9 := Tryz.sizeOf9
  v9 := Tryz.zeroValue9
  t20 := Tryz.underlying20
  a20 := Tryz.isAgg20
  z20 := Tryz.sizeOf20
  v20 := Tryz.zeroValue20
  t21 := Tryz.underlying21
  a21 := Tryz.isAgg21
  z21 := Tryz.sizeOf21
  v21 := Tryz.zeroValue21
  t37 := Tryz.underlying79
  a37 := Tryz.isAgg79
  z37 := Tryz.sizeOf79
  v37 := Tryz.zeroValue79
  t46 := Tryz.underlying226
  a46 := Tryz.isAgg226
  z46 := Tryz.sizeOf226
  v46 := Tryz.zeroValue226
  t51 := Tryz.underlying303
  a51 := Tryz.isAgg303
  z51 := Tryz.sizeOf303
  v51 := Tryz.zeroValue303
  t70 := Tryz.underlying275
  a70 := Tryz.isAgg275
  z70 := Tryz.sizeOf275
  v70 := Tryz.zeroValue275
  t72 := Tryz.underlying277
  a72 := Tryz.isAgg277
  z72 := Tryz.sizeOf277
  v72 := Tryz.zeroValue277
  t75 := Tryz.underlying269
  a75 := Tryz.isAgg269
  z75 := Tryz.sizeOf269
  v75 := Tryz.zeroValue269
  t76 := Tryz.underlying270
  a76 := Tryz.isAgg270
  z76 := Tryz.sizeOf270
  v76 := Tryz.zeroValue270
  t105 := Tryz.underlying279
  a105 := Tryz.isAgg279
  z105 := Tryz.sizeOf279
  v105 := Tryz.zeroValue279
  t119 := Tryz.underlying222
  a119 := Tryz.isAgg222
  z119 := Tryz.sizeOf222
  t127 := Tryz.underlying306
  a127 := Tryz.isAgg306
  z127 := Tryz.sizeOf306
  v127 := Tryz.zeroValue306
  t138 := Tryz.underlying224
  a138 := Tryz.isAgg224
  z138 := Tryz.sizeOf224
  v138 := Tryz.zeroValue224
  t139 := Tryz.underlying225
  a139 := Tryz.isAgg225
  z139 := Tryz.sizeOf225
  v139 := Tryz.zeroValue225
  t146 := Tryz.underlying304
  a146 := Tryz.isAgg304
  z146 := Tryz.sizeOf304
  v146 := Tryz.zeroValue304
  t164 := Tryz.underlying324
  a164 := Tryz.isAgg324
  z164 := Tryz.sizeOf324
  v164 := Tryz.zeroValue324
  g1 := by kernel_rfl
  g3 := by kernel_rfl
  g4 := by kernel_rfl }
end Go.Proofs
namespace Go.Proofs.YtnchjdhepakokaaGreatDoorC
open Go.Proofs Go.Proofs.YtnchjdhepakokaaGreatDoorSx Go.Shelf
set_option maxRecDepth 100000
theorem extraR : Builder.Extra Tryz.prog Tryz.laysReplaceAll_ren where
  sizeBuilder := by kernel_rfl
  liesBuilder := by kernel_rfl
  t5 := Tryz.laysReplaceAll.t5
  a5 := Tryz.laysReplaceAll.a5
  z5 := Tryz.laysReplaceAll.z5
  v5 := Tryz.laysReplaceAll.v5
  infoByte := by kernel_rfl
  cellsByte := by kernel_rfl
  sizeByte := by kernel_rfl
  neB5 := by decide
/-- strings.ReplaceAll, of what is not empty, where the strings are not too long. -/
theorem replaceAll_does (s old new : ByteArray) (hs : s.size < 4294967281) (h1 : 1 ≤ old.size) (hlen : s.size + Lib.countB s old * new.size ≤ 140737488355328) :
    Does cE 114 [] 0 [.v (.string s), .v (.string old), .v (.string new)] (.v (.string ⟨(Lib.replaceAll s.data.toList old.data.toList new.data.toList).toArray⟩)) [] 0 := by
  refine does_lib (l := [.string s, .string old, .string new]) (enters (fn := Tryz.f114) rfl (by kernel_rfl) rfl) (fun w hg => ?_)
  obtain ⟨_, v, hm, m, rfl⟩ := hg.2 3 _ rfl
  exact Any.strings_ReplaceAll Tryz.laysReplaceAll extraR s old new m w hs hm h1 hlen
end Go.Proofs.YtnchjdhepakokaaGreatDoorC
/- For datum's closed run: utf8.ValidString and strings.ReplaceAll, told. -/
namespace Go.Proofs.YtnchjdhepakokaaGreatDoorC
open Go.Proofs Go.Proofs.YtnchjdhepakokaaGreatDoorSx Go.RowKit Go.Lib
set_option maxRecDepth 100000
abbrev itsq : ByteArray := ByteArray.mk #[105, 116, 39, 39, 115]
abbrev itq : ByteArray := ByteArray.mk #[105, 116, 39, 115]
theorem kn_rep : Does cE 114 [] 0 [.v (st itq), .v (st (ByteArray.mk #[39])), .v (st (ByteArray.mk #[39, 39]))] (.v (st itsq)) [] 0 :=
  replaceAll_does itq (ByteArray.mk #[39]) (ByteArray.mk #[39, 39]) (by decide) (by decide) (by decide)
theorem kn_valid : Does cE 125 [] 0 [.v (st itq)] (.v (.bool true)) [] 0 := vstr_does itq (by decide)
theorem rp_of {s : ByteArray} (h : s = itq) : Does cE 114 [] 0 [.v (.string s), .v (.string (ByteArray.mk #[39])), .v (.string (ByteArray.mk #[39, 39]))] (.v (.string itsq)) [] 0 := h ▸ kn_rep
theorem vd_of {s : ByteArray} (h : s = itq) : Does cE 125 [] 0 [.v (.string s)] (.v (.bool true)) [] 0 := h ▸ kn_valid
end Go.Proofs.YtnchjdhepakokaaGreatDoorC
