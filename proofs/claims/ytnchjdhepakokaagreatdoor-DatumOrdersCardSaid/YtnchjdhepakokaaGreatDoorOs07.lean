import Derived.Test.YtnchjdhepakokaaGreatDoorOs06
import Derived.Laws.MathBits
/- Each path of each function: on which conditions it is taken, what it gives. Printed by a program (wip/tools/sxexp2.lean); Lean checks each. -/
namespace Go.Proofs.YtnchjdhepakokaaGreatDoorC
open Go.Proofs Go.Proofs.YtnchjdhepakokaaGreatDoorSx
set_option maxRecDepth 100000
set_option linter.unusedVariables false

theorem pab_1 (a b q r : List Int) (s t : Bool) (i m : Nat) (i0 : Int) (i1 : Int) (i2 : Int) (i3 : Int) (i4 : Int) (i5 : Int) (b6 : Bool) (i7 : Int) (i8 : Int) (i9 : Int) (i10 : Int) (i11 : Int) (i12 : Int) (b13 : Bool) (b14 : Bool) (i15 : Int) (i16 : Int) (i17 : Int) (i18 : Int) (i19 : Int) (i20 : Int) (b21 : Bool) (res : SV) (T' : Tab cE) (n' : Nat) (h0 : Does cE 190 [] 0 [.v (.agg #[(.int .u64 (r.getD 0 0)), (.int .u64 (r.getD 1 0)), (.int .u64 (r.getD 2 0)), (.int .u64 (r.getD 3 0)), (.int .u64 (r.getD 4 0)), (.int .u64 (r.getD 5 0)), (.bool (false))]), .v (.agg #[(.int .u64 (r.getD 0 0)), (.int .u64 (r.getD 1 0)), (.int .u64 (r.getD 2 0)), (.int .u64 (r.getD 3 0)), (.int .u64 (r.getD 4 0)), (.int .u64 (r.getD 5 0)), (.bool (false))])] (.v (.agg #[(.int .u64 (i0)), (.int .u64 (i1)), (.int .u64 (i2)), (.int .u64 (i3)), (.int .u64 (i4)), (.int .u64 (i5)), (.bool (b6))])) [] 0) (h1 : (0 : Int) ≤ IntKind.i64.wrap (((i : Int)).tdiv 32) ∧ IntKind.i64.wrap (((i : Int)).tdiv 32) < ((6 : Nat) : Int)) (h2 : (IntKind.i64.wrap (((i : Int)).tdiv 32)).toNat.succ.le (intPre IntKind.u64 (List.drop (0 + 0) (wc a s))).length) (h3 : Does cE 190 [] 0 [.v (.agg #[(.int .u64 (q.getD 0 0)), (.int .u64 (q.getD 1 0)), (.int .u64 (q.getD 2 0)), (.int .u64 (q.getD 3 0)), (.int .u64 (q.getD 4 0)), (.int .u64 (q.getD 5 0)), (.bool (false))]), .v (.agg #[(.int .u64 (q.getD 0 0)), (.int .u64 (q.getD 1 0)), (.int .u64 (q.getD 2 0)), (.int .u64 (q.getD 3 0)), (.int .u64 (q.getD 4 0)), (.int .u64 (q.getD 5 0)), (.bool (false))])] (.v (.agg #[(.int .u64 (i7)), (.int .u64 (i8)), (.int .u64 (i9)), (.int .u64 (i10)), (.int .u64 (i11)), (.int .u64 (i12)), (.bool (b13))])) [] 0) (h4 : Does cE 218 [] 0 [.v (.agg #[(.int .u64 (IntKind.u64.wrap (i0 + (((intPre IntKind.u64 (List.drop (0 + 0) (wc a s))).getD (IntKind.i64.wrap (((i : Int)).tdiv 32)).toNat (0 : Int)).fdiv (2 ^ Min.min (IntKind.u64.wrap (((i : Int)).tmod 32)).toNat 64)).tmod 2))), (.int .u64 (i1)), (.int .u64 (i2)), (.int .u64 (i3)), (.int .u64 (i4)), (.int .u64 (i5)), (.bool (b6))]), .v (.agg #[(.int .u64 (b.getD 0 0)), (.int .u64 (b.getD 1 0)), (.int .u64 (b.getD 2 0)), (.int .u64 (b.getD 3 0)), (.int .u64 (b.getD 4 0)), (.int .u64 (b.getD 5 0)), (.bool (t))])] (.v (.bool (b14))) [] 0) (h5 : (!b14) = true) (h6 : Does cE 241 [] 0 [.v (.agg #[(.int .u64 (IntKind.u64.wrap (i0 + (((intPre IntKind.u64 (List.drop (0 + 0) (wc a s))).getD (IntKind.i64.wrap (((i : Int)).tdiv 32)).toNat (0 : Int)).fdiv (2 ^ Min.min (IntKind.u64.wrap (((i : Int)).tmod 32)).toNat 64)).tmod 2))), (.int .u64 (i1)), (.int .u64 (i2)), (.int .u64 (i3)), (.int .u64 (i4)), (.int .u64 (i5)), (.bool (b6))]), .v (.agg #[(.int .u64 (b.getD 0 0)), (.int .u64 (b.getD 1 0)), (.int .u64 (b.getD 2 0)), (.int .u64 (b.getD 3 0)), (.int .u64 (b.getD 4 0)), (.int .u64 (b.getD 5 0)), (.bool (t))])] (.v (.agg #[(.int .u64 (i15)), (.int .u64 (i16)), (.int .u64 (i17)), (.int .u64 (i18)), (.int .u64 (i19)), (.int .u64 (i20)), (.bool (b21))])) [] 0) (hF : Fin cE Tryz.f217 0 res T' n' (inK paK (m)) [.na, .na, .p 0 0, .p 1 0, .p 2 0, .p 3 0, .p 4 0, .p 5 0, .v (.int .i64 (IntKind.i64.wrap ((i : Int) - 1))), .na, .na, .na, .na, .na, .na, .na, .na, .na, .na, .na, .na, .na, .na, .na, .na, .na, .na, .na, .na, .na, .na, .na, .na, .na, .na, .na, .na, .na, .na, .na, .na, .na, .na, .na, .na, .na, .na, .na, .na, .na, .na, .na] [(0, .box 182 [.v (.int .u64 (a.getD 0 0)), .v (.int .u64 (a.getD 1 0)), .v (.int .u64 (a.getD 2 0)), .v (.int .u64 (a.getD 3 0)), .v (.int .u64 (a.getD 4 0)), .v (.int .u64 (a.getD 5 0)), .v (.bool (s))]), (1, .box 182 [.v (.int .u64 (b.getD 0 0)), .v (.int .u64 (b.getD 1 0)), .v (.int .u64 (b.getD 2 0)), .v (.int .u64 (b.getD 3 0)), .v (.int .u64 (b.getD 4 0)), .v (.int .u64 (b.getD 5 0)), .v (.bool (t))]), (2, .box 182 [.v (.int .u64 (0)), .v (.int .u64 (0)), .v (.int .u64 (0)), .v (.int .u64 (0)), .v (.int .u64 (0)), .v (.int .u64 (0)), .v (.bool (false))]), (3, .box 182 [.v (.int .u64 (0)), .v (.int .u64 (0)), .v (.int .u64 (0)), .v (.int .u64 (0)), .v (.int .u64 (0)), .v (.int .u64 (0)), .v (.bool (false))]), (4, .box 182 [.v (.int .u64 (IntKind.u64.wrap (i7 + 1))), .v (.int .u64 (i8)), .v (.int .u64 (i9)), .v (.int .u64 (i10)), .v (.int .u64 (i11)), .v (.int .u64 (i12)), .v (.bool (b13))]), (5, .box 182 [.v (.int .u64 (i15)), .v (.int .u64 (i16)), .v (.int .u64 (i17)), .v (.int .u64 (i18)), .v (.int .u64 (i19)), .v (.int .u64 (i20)), .v (.bool (b21))])] 6) : Fin cE Tryz.f217 0 res T' n' (bodyK paK m) (paS i) (paT a b q r s t) 6 :=
  seg_at (keep := [2, 3, 4, 5, 6, 7, 8]) (ct := ct) ctOk mixed (by decide) 2000 [.l, .c (.v (.agg #[(.int .u64 (i0)), (.int .u64 (i1)), (.int .u64 (i2)), (.int .u64 (i3)), (.int .u64 (i4)), (.int .u64 (i5)), (.bool (b6))])) [] 0, .l, .l, .x, .l, .l, .l, .l, .c (.v (.agg #[(.int .u64 (i7)), (.int .u64 (i8)), (.int .u64 (i9)), (.int .u64 (i10)), (.int .u64 (i11)), (.int .u64 (i12)), (.bool (b13))])) [] 0, .c (.v (.bool (b14))) [] 0, .t, .c (.v (.agg #[(.int .u64 (i15)), (.int .u64 (i16)), (.int .u64 (i17)), (.int .u64 (i18)), (.int .u64 (i19)), (.int .u64 (i20)), (.bool (b21))])) [] 0, .l, .l] (by kernel_rfl) (cj h0 (cj (by decide : (0 : Int) ≤ 0 ∧ (0 : Int) < ((6 : Nat) : Int)) (cj h1 (cj h2 (cj (by decide : (0 : Int) ≤ 0 ∧ (0 : Int) < ((6 : Nat) : Int)) (cj h3 (cj h4 (cj h5 (cj h6 (cj (by decide : (0 : Int) ≤ 0 ∧ (0 : Int) < ((6 : Nat) : Int)) (cj (by decide : (0 : Int) ≤ 0 ∧ (0 : Int) < ((6 : Nat) : Int)) cj0))))))))))) hF
theorem pab_2 (a b q r : List Int) (s t : Bool) (i m : Nat) (i0 : Int) (i1 : Int) (i2 : Int) (i3 : Int) (i4 : Int) (i5 : Int) (b6 : Bool) (i7 : Int) (i8 : Int) (i9 : Int) (i10 : Int) (i11 : Int) (i12 : Int) (b13 : Bool) (b14 : Bool) (res : SV) (T' : Tab cE) (n' : Nat) (h0 : Does cE 190 [] 0 [.v (.agg #[(.int .u64 (r.getD 0 0)), (.int .u64 (r.getD 1 0)), (.int .u64 (r.getD 2 0)), (.int .u64 (r.getD 3 0)), (.int .u64 (r.getD 4 0)), (.int .u64 (r.getD 5 0)), (.bool (false))]), .v (.agg #[(.int .u64 (r.getD 0 0)), (.int .u64 (r.getD 1 0)), (.int .u64 (r.getD 2 0)), (.int .u64 (r.getD 3 0)), (.int .u64 (r.getD 4 0)), (.int .u64 (r.getD 5 0)), (.bool (false))])] (.v (.agg #[(.int .u64 (i0)), (.int .u64 (i1)), (.int .u64 (i2)), (.int .u64 (i3)), (.int .u64 (i4)), (.int .u64 (i5)), (.bool (b6))])) [] 0) (h1 : (0 : Int) ≤ IntKind.i64.wrap (((i : Int)).tdiv 32) ∧ IntKind.i64.wrap (((i : Int)).tdiv 32) < ((6 : Nat) : Int)) (h2 : (IntKind.i64.wrap (((i : Int)).tdiv 32)).toNat.succ.le (intPre IntKind.u64 (List.drop (0 + 0) (wc a s))).length) (h3 : Does cE 190 [] 0 [.v (.agg #[(.int .u64 (q.getD 0 0)), (.int .u64 (q.getD 1 0)), (.int .u64 (q.getD 2 0)), (.int .u64 (q.getD 3 0)), (.int .u64 (q.getD 4 0)), (.int .u64 (q.getD 5 0)), (.bool (false))]), .v (.agg #[(.int .u64 (q.getD 0 0)), (.int .u64 (q.getD 1 0)), (.int .u64 (q.getD 2 0)), (.int .u64 (q.getD 3 0)), (.int .u64 (q.getD 4 0)), (.int .u64 (q.getD 5 0)), (.bool (false))])] (.v (.agg #[(.int .u64 (i7)), (.int .u64 (i8)), (.int .u64 (i9)), (.int .u64 (i10)), (.int .u64 (i11)), (.int .u64 (i12)), (.bool (b13))])) [] 0) (h4 : Does cE 218 [] 0 [.v (.agg #[(.int .u64 (IntKind.u64.wrap (i0 + (((intPre IntKind.u64 (List.drop (0 + 0) (wc a s))).getD (IntKind.i64.wrap (((i : Int)).tdiv 32)).toNat (0 : Int)).fdiv (2 ^ Min.min (IntKind.u64.wrap (((i : Int)).tmod 32)).toNat 64)).tmod 2))), (.int .u64 (i1)), (.int .u64 (i2)), (.int .u64 (i3)), (.int .u64 (i4)), (.int .u64 (i5)), (.bool (b6))]), .v (.agg #[(.int .u64 (b.getD 0 0)), (.int .u64 (b.getD 1 0)), (.int .u64 (b.getD 2 0)), (.int .u64 (b.getD 3 0)), (.int .u64 (b.getD 4 0)), (.int .u64 (b.getD 5 0)), (.bool (t))])] (.v (.bool (b14))) [] 0) (h5 : (!b14) = false) (hF : Fin cE Tryz.f217 0 res T' n' (inK paK (m)) [.na, .na, .p 0 0, .p 1 0, .p 2 0, .p 3 0, .p 4 0, .p 5 0, .v (.int .i64 (IntKind.i64.wrap ((i : Int) - 1))), .na, .na, .na, .na, .na, .na, .na, .na, .na, .na, .na, .na, .na, .na, .na, .na, .na, .na, .na, .na, .na, .na, .na, .na, .na, .na, .na, .na, .na, .na, .na, .na, .na, .na, .na, .na, .na, .na, .na, .na, .na, .na, .na] [(0, .box 182 [.v (.int .u64 (a.getD 0 0)), .v (.int .u64 (a.getD 1 0)), .v (.int .u64 (a.getD 2 0)), .v (.int .u64 (a.getD 3 0)), .v (.int .u64 (a.getD 4 0)), .v (.int .u64 (a.getD 5 0)), .v (.bool (s))]), (1, .box 182 [.v (.int .u64 (b.getD 0 0)), .v (.int .u64 (b.getD 1 0)), .v (.int .u64 (b.getD 2 0)), .v (.int .u64 (b.getD 3 0)), .v (.int .u64 (b.getD 4 0)), .v (.int .u64 (b.getD 5 0)), .v (.bool (t))]), (2, .box 182 [.v (.int .u64 (0)), .v (.int .u64 (0)), .v (.int .u64 (0)), .v (.int .u64 (0)), .v (.int .u64 (0)), .v (.int .u64 (0)), .v (.bool (false))]), (3, .box 182 [.v (.int .u64 (0)), .v (.int .u64 (0)), .v (.int .u64 (0)), .v (.int .u64 (0)), .v (.int .u64 (0)), .v (.int .u64 (0)), .v (.bool (false))]), (4, .box 182 [.v (.int .u64 (i7)), .v (.int .u64 (i8)), .v (.int .u64 (i9)), .v (.int .u64 (i10)), .v (.int .u64 (i11)), .v (.int .u64 (i12)), .v (.bool (b13))]), (5, .box 182 [.v (.int .u64 (IntKind.u64.wrap (i0 + (((intPre IntKind.u64 (List.drop (0 + 0) (wc a s))).getD (IntKind.i64.wrap (((i : Int)).tdiv 32)).toNat (0 : Int)).fdiv (2 ^ Min.min (IntKind.u64.wrap (((i : Int)).tmod 32)).toNat 64)).tmod 2))), .v (.int .u64 (i1)), .v (.int .u64 (i2)), .v (.int .u64 (i3)), .v (.int .u64 (i4)), .v (.int .u64 (i5)), .v (.bool (b6))])] 6) : Fin cE Tryz.f217 0 res T' n' (bodyK paK m) (paS i) (paT a b q r s t) 6 :=
  seg_at (keep := [2, 3, 4, 5, 6, 7, 8]) (ct := ct) ctOk mixed (by decide) 2000 [.l, .c (.v (.agg #[(.int .u64 (i0)), (.int .u64 (i1)), (.int .u64 (i2)), (.int .u64 (i3)), (.int .u64 (i4)), (.int .u64 (i5)), (.bool (b6))])) [] 0, .l, .l, .x, .l, .l, .l, .l, .c (.v (.agg #[(.int .u64 (i7)), (.int .u64 (i8)), (.int .u64 (i9)), (.int .u64 (i10)), (.int .u64 (i11)), (.int .u64 (i12)), (.bool (b13))])) [] 0, .c (.v (.bool (b14))) [] 0, .f] (by kernel_rfl) (cj h0 (cj (by decide : (0 : Int) ≤ 0 ∧ (0 : Int) < ((6 : Nat) : Int)) (cj h1 (cj h2 (cj (by decide : (0 : Int) ≤ 0 ∧ (0 : Int) < ((6 : Nat) : Int)) (cj h3 (cj h4 (cj h5 cj0)))))))) hF
theorem pac_1 (a b q r : List Int) (s t : Bool) (m : Nat) : Fin cE Tryz.f217 0 (.v (.tuple #[(.agg #[(.int .u64 (q.getD 0 0)), (.int .u64 (q.getD 1 0)), (.int .u64 (q.getD 2 0)), (.int .u64 (q.getD 3 0)), (.int .u64 (q.getD 4 0)), (.int .u64 (q.getD 5 0)), (.bool (false))]), (.agg #[(.int .u64 (r.getD 0 0)), (.int .u64 (r.getD 1 0)), (.int .u64 (r.getD 2 0)), (.int .u64 (r.getD 3 0)), (.int .u64 (r.getD 4 0)), (.int .u64 (r.getD 5 0)), (.bool (false))])])) [] 0 (bodyK paK m) (paS (-1)) (paT a b q r s t) 6 :=
  seg_fin (keep := [2, 3, 4, 5, 6, 7, 8]) (ct := ct) ctOk mixed (by decide) 2000 [.l] (by kernel_rfl) cj0
end Go.Proofs.YtnchjdhepakokaaGreatDoorC
/- Each path of each function: on which conditions it is taken, what it gives. Printed by a program (wip/tools/sxexp2.lean); Lean checks each. -/
namespace Go.Proofs.YtnchjdhepakokaaGreatDoorC
open Go.Proofs Go.Proofs.YtnchjdhepakokaaGreatDoorSx
set_option maxRecDepth 100000
set_option linter.unusedVariables false

theorem rof_1 (n : Int) (h0 : decide (n < 0) = true) : Does cE 159 [] 0 [.v (it n)] (.v (.agg #[(.int .u64 ((IntKind.u64.wrap (0 - IntKind.u64.wrap n)).tmod 4294967296)), (.int .u64 (IntKind.u64.wrap ((IntKind.u64.wrap (0 - IntKind.u64.wrap n)).tdiv 4294967296))), (.int .u64 (0)), (.int .u64 (0)), (.int .u64 (0)), (.int .u64 (0)), (.bool (decide (n < 0)))])) [] 0 :=
  does_path (ct := ct) ctOk mixed (fn := Tryz.f159) rfl (by kernel_rfl) 2000 [.t, .l, .l] (by kernel_rfl) (cj h0 cj0)
theorem rof_2 (n : Int) (h0 : decide (n < 0) = false) : Does cE 159 [] 0 [.v (it n)] (.v (.agg #[(.int .u64 ((IntKind.u64.wrap n).tmod 4294967296)), (.int .u64 (IntKind.u64.wrap ((IntKind.u64.wrap n).tdiv 4294967296))), (.int .u64 (0)), (.int .u64 (0)), (.int .u64 (0)), (.int .u64 (0)), (.bool (decide (n < 0)))])) [] 0 :=
  does_path (ct := ct) ctOk mixed (fn := Tryz.f159) rfl (by kernel_rfl) 2000 [.f, .l, .l] (by kernel_rfl) (cj h0 cj0)
theorem rscl_1 (u x sc : Int) (i0 : Int) (i1 : Int) (i2 : Int) (i3 : Int) (i4 : Int) (i5 : Int) (b6 : Bool) (i7 : Int) (i8 : Int) (i9 : Int) (i10 : Int) (i11 : Int) (i12 : Int) (i13 : Int) (b14 : Bool) (i15 : Int) (i16 : Int) (i17 : Int) (i18 : Int) (i19 : Int) (i20 : Int) (b21 : Bool) (h0 : Does cE 159 [] 0 [.v (.int .i64 (u))] (.v (.agg #[(.int .u64 (i0)), (.int .u64 (i1)), (.int .u64 (i2)), (.int .u64 (i3)), (.int .u64 (i4)), (.int .u64 (i5)), (.bool (b6))])) [] 0) (h1 : Does cE 146 [] 0 [.v (.int .i64 (IntKind.i64.wrap (sc - x)))] (.v (.int .i64 (i7))) [] 0) (h2 : Does cE 159 [] 0 [.v (.int .i64 (i7))] (.v (.agg #[(.int .u64 (i8)), (.int .u64 (i9)), (.int .u64 (i10)), (.int .u64 (i11)), (.int .u64 (i12)), (.int .u64 (i13)), (.bool (b14))])) [] 0) (h3 : Does cE 191 [] 0 [.v (.agg #[(.int .u64 (i0)), (.int .u64 (i1)), (.int .u64 (i2)), (.int .u64 (i3)), (.int .u64 (i4)), (.int .u64 (i5)), (.bool (b6))]), .v (.agg #[(.int .u64 (i8)), (.int .u64 (i9)), (.int .u64 (i10)), (.int .u64 (i11)), (.int .u64 (i12)), (.int .u64 (i13)), (.bool (b14))])] (.v (.agg #[(.int .u64 (i15)), (.int .u64 (i16)), (.int .u64 (i17)), (.int .u64 (i18)), (.int .u64 (i19)), (.int .u64 (i20)), (.bool (b21))])) [] 0) : Does cE 157 [] 0 [.v (dc u x), .v (it sc)] (.v (.agg #[(.int .u64 (i15)), (.int .u64 (i16)), (.int .u64 (i17)), (.int .u64 (i18)), (.int .u64 (i19)), (.int .u64 (i20)), (.bool (decide (u < 0)))])) [] 0 :=
  does_path (ct := ct) ctOk mixed (fn := Tryz.f157) rfl (by kernel_rfl) 2000 [.c (.v (.agg #[(.int .u64 (i0)), (.int .u64 (i1)), (.int .u64 (i2)), (.int .u64 (i3)), (.int .u64 (i4)), (.int .u64 (i5)), (.bool (b6))])) [] 0, .c (.v (.int .i64 (i7))) [] 0, .c (.v (.agg #[(.int .u64 (i8)), (.int .u64 (i9)), (.int .u64 (i10)), (.int .u64 (i11)), (.int .u64 (i12)), (.int .u64 (i13)), (.bool (b14))])) [] 0, .c (.v (.agg #[(.int .u64 (i15)), (.int .u64 (i16)), (.int .u64 (i17)), (.int .u64 (i18)), (.int .u64 (i19)), (.int .u64 (i20)), (.bool (b21))])) [] 0] (by kernel_rfl) (cj h0 (cj h1 (cj h2 (cj h3 cj0))))
theorem rsum_1 (a b : List Int) (s t : Bool) (i0 : Int) (i1 : Int) (i2 : Int) (i3 : Int) (i4 : Int) (i5 : Int) (b6 : Bool) (h0 : (s == t) = true) (h1 : Does cE 190 [] 0 [.v (.agg #[(.int .u64 (a.getD 0 0)), (.int .u64 (a.getD 1 0)), (.int .u64 (a.getD 2 0)), (.int .u64 (a.getD 3 0)), (.int .u64 (a.getD 4 0)), (.int .u64 (a.getD 5 0)), (.bool (s))]), .v (.agg #[(.int .u64 (b.getD 0 0)), (.int .u64 (b.getD 1 0)), (.int .u64 (b.getD 2 0)), (.int .u64 (b.getD 3 0)), (.int .u64 (b.getD 4 0)), (.int .u64 (b.getD 5 0)), (.bool (t))])] (.v (.agg #[(.int .u64 (i0)), (.int .u64 (i1)), (.int .u64 (i2)), (.int .u64 (i3)), (.int .u64 (i4)), (.int .u64 (i5)), (.bool (b6))])) [] 0) : Does cE 179 [] 0 [.v (wv a s), .v (wv b t)] (.v (.agg #[(.int .u64 (i0)), (.int .u64 (i1)), (.int .u64 (i2)), (.int .u64 (i3)), (.int .u64 (i4)), (.int .u64 (i5)), (.bool (s))])) [] 0 :=
  does_path (ct := ct) ctOk mixed (fn := Tryz.f179) rfl (by kernel_rfl) 2000 [.t, .c (.v (.agg #[(.int .u64 (i0)), (.int .u64 (i1)), (.int .u64 (i2)), (.int .u64 (i3)), (.int .u64 (i4)), (.int .u64 (i5)), (.bool (b6))])) [] 0] (by kernel_rfl) (cj h0 (cj h1 cj0))
theorem rsum_2 (a b : List Int) (s t : Bool) (b0 : Bool) (i1 : Int) (i2 : Int) (i3 : Int) (i4 : Int) (i5 : Int) (i6 : Int) (b7 : Bool) (h0 : (s == t) = false) (h1 : Does cE 218 [] 0 [.v (.agg #[(.int .u64 (a.getD 0 0)), (.int .u64 (a.getD 1 0)), (.int .u64 (a.getD 2 0)), (.int .u64 (a.getD 3 0)), (.int .u64 (a.getD 4 0)), (.int .u64 (a.getD 5 0)), (.bool (s))]), .v (.agg #[(.int .u64 (b.getD 0 0)), (.int .u64 (b.getD 1 0)), (.int .u64 (b.getD 2 0)), (.int .u64 (b.getD 3 0)), (.int .u64 (b.getD 4 0)), (.int .u64 (b.getD 5 0)), (.bool (t))])] (.v (.bool (b0))) [] 0) (h2 : b0 = true) (h3 : Does cE 241 [] 0 [.v (.agg #[(.int .u64 (b.getD 0 0)), (.int .u64 (b.getD 1 0)), (.int .u64 (b.getD 2 0)), (.int .u64 (b.getD 3 0)), (.int .u64 (b.getD 4 0)), (.int .u64 (b.getD 5 0)), (.bool (t))]), .v (.agg #[(.int .u64 (a.getD 0 0)), (.int .u64 (a.getD 1 0)), (.int .u64 (a.getD 2 0)), (.int .u64 (a.getD 3 0)), (.int .u64 (a.getD 4 0)), (.int .u64 (a.getD 5 0)), (.bool (s))])] (.v (.agg #[(.int .u64 (i1)), (.int .u64 (i2)), (.int .u64 (i3)), (.int .u64 (i4)), (.int .u64 (i5)), (.int .u64 (i6)), (.bool (b7))])) [] 0) : Does cE 179 [] 0 [.v (wv a s), .v (wv b t)] (.v (.agg #[(.int .u64 (i1)), (.int .u64 (i2)), (.int .u64 (i3)), (.int .u64 (i4)), (.int .u64 (i5)), (.int .u64 (i6)), (.bool (t))])) [] 0 :=
  does_path (ct := ct) ctOk mixed (fn := Tryz.f179) rfl (by kernel_rfl) 2000 [.f, .c (.v (.bool (b0))) [] 0, .t, .c (.v (.agg #[(.int .u64 (i1)), (.int .u64 (i2)), (.int .u64 (i3)), (.int .u64 (i4)), (.int .u64 (i5)), (.int .u64 (i6)), (.bool (b7))])) [] 0] (by kernel_rfl) (cj h0 (cj h1 (cj h2 (cj h3 cj0))))
theorem rsum_3 (a b : List Int) (s t : Bool) (b0 : Bool) (i1 : Int) (i2 : Int) (i3 : Int) (i4 : Int) (i5 : Int) (i6 : Int) (b7 : Bool) (h0 : (s == t) = false) (h1 : Does cE 218 [] 0 [.v (.agg #[(.int .u64 (a.getD 0 0)), (.int .u64 (a.getD 1 0)), (.int .u64 (a.getD 2 0)), (.int .u64 (a.getD 3 0)), (.int .u64 (a.getD 4 0)), (.int .u64 (a.getD 5 0)), (.bool (s))]), .v (.agg #[(.int .u64 (b.getD 0 0)), (.int .u64 (b.getD 1 0)), (.int .u64 (b.getD 2 0)), (.int .u64 (b.getD 3 0)), (.int .u64 (b.getD 4 0)), (.int .u64 (b.getD 5 0)), (.bool (t))])] (.v (.bool (b0))) [] 0) (h2 : b0 = false) (h3 : Does cE 241 [] 0 [.v (.agg #[(.int .u64 (a.getD 0 0)), (.int .u64 (a.getD 1 0)), (.int .u64 (a.getD 2 0)), (.int .u64 (a.getD 3 0)), (.int .u64 (a.getD 4 0)), (.int .u64 (a.getD 5 0)), (.bool (s))]), .v (.agg #[(.int .u64 (b.getD 0 0)), (.int .u64 (b.getD 1 0)), (.int .u64 (b.getD 2 0)), (.int .u64 (b.getD 3 0)), (.int .u64 (b.getD 4 0)), (.int .u64 (b.getD 5 0)), (.bool (t))])] (.v (.agg #[(.int .u64 (i1)), (.int .u64 (i2)), (.int .u64 (i3)), (.int .u64 (i4)), (.int .u64 (i5)), (.int .u64 (i6)), (.bool (b7))])) [] 0) : Does cE 179 [] 0 [.v (wv a s), .v (wv b t)] (.v (.agg #[(.int .u64 (i1)), (.int .u64 (i2)), (.int .u64 (i3)), (.int .u64 (i4)), (.int .u64 (i5)), (.int .u64 (i6)), (.bool (s))])) [] 0 :=
  does_path (ct := ct) ctOk mixed (fn := Tryz.f179) rfl (by kernel_rfl) 2000 [.f, .c (.v (.bool (b0))) [] 0, .f, .c (.v (.agg #[(.int .u64 (i1)), (.int .u64 (i2)), (.int .u64 (i3)), (.int .u64 (i4)), (.int .u64 (i5)), (.int .u64 (i6)), (.bool (b7))])) [] 0] (by kernel_rfl) (cj h0 (cj h1 (cj h2 (cj h3 cj0))))
theorem rrnd_1 (a b : List Int) (s t : Bool) (i0 : Int) (i1 : Int) (i2 : Int) (i3 : Int) (i4 : Int) (i5 : Int) (b6 : Bool) (i7 : Int) (i8 : Int) (i9 : Int) (i10 : Int) (i11 : Int) (i12 : Int) (b13 : Bool) (i14 : Int) (i15 : Int) (i16 : Int) (i17 : Int) (i18 : Int) (i19 : Int) (b20 : Bool) (b21 : Bool) (i22 : Int) (i23 : Int) (i24 : Int) (i25 : Int) (i26 : Int) (i27 : Int) (b28 : Bool) (i29 : Int) (i30 : Int) (i31 : Int) (i32 : Int) (i33 : Int) (i34 : Int) (b35 : Bool) (h0 : Does cE 217 [] 0 [.v (.agg #[(.int .u64 (a.getD 0 0)), (.int .u64 (a.getD 1 0)), (.int .u64 (a.getD 2 0)), (.int .u64 (a.getD 3 0)), (.int .u64 (a.getD 4 0)), (.int .u64 (a.getD 5 0)), (.bool (s))]), .v (.agg #[(.int .u64 (b.getD 0 0)), (.int .u64 (b.getD 1 0)), (.int .u64 (b.getD 2 0)), (.int .u64 (b.getD 3 0)), (.int .u64 (b.getD 4 0)), (.int .u64 (b.getD 5 0)), (.bool (t))])] (.v (.tuple #[(.agg #[(.int .u64 (i0)), (.int .u64 (i1)), (.int .u64 (i2)), (.int .u64 (i3)), (.int .u64 (i4)), (.int .u64 (i5)), (.bool (b6))]), (.agg #[(.int .u64 (i7)), (.int .u64 (i8)), (.int .u64 (i9)), (.int .u64 (i10)), (.int .u64 (i11)), (.int .u64 (i12)), (.bool (b13))])])) [] 0) (h1 : Does cE 190 [] 0 [.v (.agg #[(.int .u64 (i7)), (.int .u64 (i8)), (.int .u64 (i9)), (.int .u64 (i10)), (.int .u64 (i11)), (.int .u64 (i12)), (.bool (b13))]), .v (.agg #[(.int .u64 (i7)), (.int .u64 (i8)), (.int .u64 (i9)), (.int .u64 (i10)), (.int .u64 (i11)), (.int .u64 (i12)), (.bool (b13))])] (.v (.agg #[(.int .u64 (i14)), (.int .u64 (i15)), (.int .u64 (i16)), (.int .u64 (i17)), (.int .u64 (i18)), (.int .u64 (i19)), (.bool (b20))])) [] 0) (h2 : Does cE 218 [] 0 [.v (.agg #[(.int .u64 (b.getD 0 0)), (.int .u64 (b.getD 1 0)), (.int .u64 (b.getD 2 0)), (.int .u64 (b.getD 3 0)), (.int .u64 (b.getD 4 0)), (.int .u64 (b.getD 5 0)), (.bool (t))]), .v (.agg #[(.int .u64 (i14)), (.int .u64 (i15)), (.int .u64 (i16)), (.int .u64 (i17)), (.int .u64 (i18)), (.int .u64 (i19)), (.bool (b20))])] (.v (.bool (b21))) [] 0) (h3 : b21 = true) (h4 : Does cE 159 [] 0 [.v (.int .i64 (1))] (.v (.agg #[(.int .u64 (i22)), (.int .u64 (i23)), (.int .u64 (i24)), (.int .u64 (i25)), (.int .u64 (i26)), (.int .u64 (i27)), (.bool (b28))])) [] 0) (h5 : Does cE 190 [] 0 [.v (.agg #[(.int .u64 (i0)), (.int .u64 (i1)), (.int .u64 (i2)), (.int .u64 (i3)), (.int .u64 (i4)), (.int .u64 (i5)), (.bool (b6))]), .v (.agg #[(.int .u64 (i22)), (.int .u64 (i23)), (.int .u64 (i24)), (.int .u64 (i25)), (.int .u64 (i26)), (.int .u64 (i27)), (.bool (b28))])] (.v (.agg #[(.int .u64 (i29)), (.int .u64 (i30)), (.int .u64 (i31)), (.int .u64 (i32)), (.int .u64 (i33)), (.int .u64 (i34)), (.bool (b35))])) [] 0) : Does cE 158 [] 0 [.v (wv a s), .v (wv b t)] (.v (.agg #[(.int .u64 (i29)), (.int .u64 (i30)), (.int .u64 (i31)), (.int .u64 (i32)), (.int .u64 (i33)), (.int .u64 (i34)), (.bool (s))])) [] 0 :=
  does_path (ct := ct) ctOk mixed (fn := Tryz.f158) rfl (by kernel_rfl) 2000 [.c (.v (.tuple #[(.agg #[(.int .u64 (i0)), (.int .u64 (i1)), (.int .u64 (i2)), (.int .u64 (i3)), (.int .u64 (i4)), (.int .u64 (i5)), (.bool (b6))]), (.agg #[(.int .u64 (i7)), (.int .u64 (i8)), (.int .u64 (i9)), (.int .u64 (i10)), (.int .u64 (i11)), (.int .u64 (i12)), (.bool (b13))])])) [] 0, .c (.v (.agg #[(.int .u64 (i14)), (.int .u64 (i15)), (.int .u64 (i16)), (.int .u64 (i17)), (.int .u64 (i18)), (.int .u64 (i19)), (.bool (b20))])) [] 0, .c (.v (.bool (b21))) [] 0, .t, .t, .t, .t, .t, .t, .t, .l, .c (.v (.agg #[(.int .u64 (i22)), (.int .u64 (i23)), (.int .u64 (i24)), (.int .u64 (i25)), (.int .u64 (i26)), (.int .u64 (i27)), (.bool (b28))])) [] 0, .c (.v (.agg #[(.int .u64 (i29)), (.int .u64 (i30)), (.int .u64 (i31)), (.int .u64 (i32)), (.int .u64 (i33)), (.int .u64 (i34)), (.bool (b35))])) [] 0] (by kernel_rfl) (cj h0 (cj h1 (cj h2 (cj h3 (cj h3 (cj h3 (cj h3 (cj h3 (cj h3 (cj h3 (cj h4 (cj h5 cj0))))))))))))
theorem rrnd_2 (a b : List Int) (s t : Bool) (i0 : Int) (i1 : Int) (i2 : Int) (i3 : Int) (i4 : Int) (i5 : Int) (b6 : Bool) (i7 : Int) (i8 : Int) (i9 : Int) (i10 : Int) (i11 : Int) (i12 : Int) (b13 : Bool) (i14 : Int) (i15 : Int) (i16 : Int) (i17 : Int) (i18 : Int) (i19 : Int) (b20 : Bool) (b21 : Bool) (b22 : Bool) (i23 : Int) (i24 : Int) (i25 : Int) (i26 : Int) (i27 : Int) (i28 : Int) (b29 : Bool) (i30 : Int) (i31 : Int) (i32 : Int) (i33 : Int) (i34 : Int) (i35 : Int) (b36 : Bool) (h0 : Does cE 217 [] 0 [.v (.agg #[(.int .u64 (a.getD 0 0)), (.int .u64 (a.getD 1 0)), (.int .u64 (a.getD 2 0)), (.int .u64 (a.getD 3 0)), (.int .u64 (a.getD 4 0)), (.int .u64 (a.getD 5 0)), (.bool (s))]), .v (.agg #[(.int .u64 (b.getD 0 0)), (.int .u64 (b.getD 1 0)), (.int .u64 (b.getD 2 0)), (.int .u64 (b.getD 3 0)), (.int .u64 (b.getD 4 0)), (.int .u64 (b.getD 5 0)), (.bool (t))])] (.v (.tuple #[(.agg #[(.int .u64 (i0)), (.int .u64 (i1)), (.int .u64 (i2)), (.int .u64 (i3)), (.int .u64 (i4)), (.int .u64 (i5)), (.bool (b6))]), (.agg #[(.int .u64 (i7)), (.int .u64 (i8)), (.int .u64 (i9)), (.int .u64 (i10)), (.int .u64 (i11)), (.int .u64 (i12)), (.bool (b13))])])) [] 0) (h1 : Does cE 190 [] 0 [.v (.agg #[(.int .u64 (i7)), (.int .u64 (i8)), (.int .u64 (i9)), (.int .u64 (i10)), (.int .u64 (i11)), (.int .u64 (i12)), (.bool (b13))]), .v (.agg #[(.int .u64 (i7)), (.int .u64 (i8)), (.int .u64 (i9)), (.int .u64 (i10)), (.int .u64 (i11)), (.int .u64 (i12)), (.bool (b13))])] (.v (.agg #[(.int .u64 (i14)), (.int .u64 (i15)), (.int .u64 (i16)), (.int .u64 (i17)), (.int .u64 (i18)), (.int .u64 (i19)), (.bool (b20))])) [] 0) (h2 : Does cE 218 [] 0 [.v (.agg #[(.int .u64 (b.getD 0 0)), (.int .u64 (b.getD 1 0)), (.int .u64 (b.getD 2 0)), (.int .u64 (b.getD 3 0)), (.int .u64 (b.getD 4 0)), (.int .u64 (b.getD 5 0)), (.bool (t))]), .v (.agg #[(.int .u64 (i14)), (.int .u64 (i15)), (.int .u64 (i16)), (.int .u64 (i17)), (.int .u64 (i18)), (.int .u64 (i19)), (.bool (b20))])] (.v (.bool (b21))) [] 0) (h3 : b21 = false) (h4 : Does cE 218 [] 0 [.v (.agg #[(.int .u64 (i14)), (.int .u64 (i15)), (.int .u64 (i16)), (.int .u64 (i17)), (.int .u64 (i18)), (.int .u64 (i19)), (.bool (b20))]), .v (.agg #[(.int .u64 (b.getD 0 0)), (.int .u64 (b.getD 1 0)), (.int .u64 (b.getD 2 0)), (.int .u64 (b.getD 3 0)), (.int .u64 (b.getD 4 0)), (.int .u64 (b.getD 5 0)), (.bool (t))])] (.v (.bool (b22))) [] 0) (h5 : (!b22) = true) (h6 : (i0.tmod 2 == 1) = true) (h7 : Does cE 159 [] 0 [.v (.int .i64 (1))] (.v (.agg #[(.int .u64 (i23)), (.int .u64 (i24)), (.int .u64 (i25)), (.int .u64 (i26)), (.int .u64 (i27)), (.int .u64 (i28)), (.bool (b29))])) [] 0) (h8 : Does cE 190 [] 0 [.v (.agg #[(.int .u64 (i0)), (.int .u64 (i1)), (.int .u64 (i2)), (.int .u64 (i3)), (.int .u64 (i4)), (.int .u64 (i5)), (.bool (b6))]), .v (.agg #[(.int .u64 (i23)), (.int .u64 (i24)), (.int .u64 (i25)), (.int .u64 (i26)), (.int .u64 (i27)), (.int .u64 (i28)), (.bool (b29))])] (.v (.agg #[(.int .u64 (i30)), (.int .u64 (i31)), (.int .u64 (i32)), (.int .u64 (i33)), (.int .u64 (i34)), (.int .u64 (i35)), (.bool (b36))])) [] 0) : Does cE 158 [] 0 [.v (wv a s), .v (wv b t)] (.v (.agg #[(.int .u64 (i30)), (.int .u64 (i31)), (.int .u64 (i32)), (.int .u64 (i33)), (.int .u64 (i34)), (.int .u64 (i35)), (.bool (s))])) [] 0 :=
  does_path (ct := ct) ctOk mixed (fn := Tryz.f158) rfl (by kernel_rfl) 2000 [.c (.v (.tuple #[(.agg #[(.int .u64 (i0)), (.int .u64 (i1)), (.int .u64 (i2)), (.int .u64 (i3)), (.int .u64 (i4)), (.int .u64 (i5)), (.bool (b6))]), (.agg #[(.int .u64 (i7)), (.int .u64 (i8)), (.int .u64 (i9)), (.int .u64 (i10)), (.int .u64 (i11)), (.int .u64 (i12)), (.bool (b13))])])) [] 0, .c (.v (.agg #[(.int .u64 (i14)), (.int .u64 (i15)), (.int .u64 (i16)), (.int .u64 (i17)), (.int .u64 (i18)), (.int .u64 (i19)), (.bool (b20))])) [] 0, .c (.v (.bool (b21))) [] 0, .f, .f, .f, .c (.v (.bool (b22))) [] 0, .f, .f, .t, .t, .l, .t, .t, .l, .t, .f, .t, .f, .t, .c (.v (.agg #[(.int .u64 (i23)), (.int .u64 (i24)), (.int .u64 (i25)), (.int .u64 (i26)), (.int .u64 (i27)), (.int .u64 (i28)), (.bool (b29))])) [] 0, .c (.v (.agg #[(.int .u64 (i30)), (.int .u64 (i31)), (.int .u64 (i32)), (.int .u64 (i33)), (.int .u64 (i34)), (.int .u64 (i35)), (.bool (b36))])) [] 0] (by kernel_rfl) (cj h0 (cj h1 (cj h2 (cj h3 (cj h3 (cj h3 (cj h4 (cj h3 (cj h3 (cj h5 (cj h5 (cj (by decide : (0 : Int) ≤ 0 ∧ (0 : Int) < ((6 : Nat) : Int)) (cj h5 (cj h5 (cj h5 (cj h3 (cj h5 (cj h3 (cj h6 (cj h7 (cj h8 cj0)))))))))))))))))))))
theorem rrnd_3 (a b : List Int) (s t : Bool) (i0 : Int) (i1 : Int) (i2 : Int) (i3 : Int) (i4 : Int) (i5 : Int) (b6 : Bool) (i7 : Int) (i8 : Int) (i9 : Int) (i10 : Int) (i11 : Int) (i12 : Int) (b13 : Bool) (i14 : Int) (i15 : Int) (i16 : Int) (i17 : Int) (i18 : Int) (i19 : Int) (b20 : Bool) (b21 : Bool) (b22 : Bool) (h0 : Does cE 217 [] 0 [.v (.agg #[(.int .u64 (a.getD 0 0)), (.int .u64 (a.getD 1 0)), (.int .u64 (a.getD 2 0)), (.int .u64 (a.getD 3 0)), (.int .u64 (a.getD 4 0)), (.int .u64 (a.getD 5 0)), (.bool (s))]), .v (.agg #[(.int .u64 (b.getD 0 0)), (.int .u64 (b.getD 1 0)), (.int .u64 (b.getD 2 0)), (.int .u64 (b.getD 3 0)), (.int .u64 (b.getD 4 0)), (.int .u64 (b.getD 5 0)), (.bool (t))])] (.v (.tuple #[(.agg #[(.int .u64 (i0)), (.int .u64 (i1)), (.int .u64 (i2)), (.int .u64 (i3)), (.int .u64 (i4)), (.int .u64 (i5)), (.bool (b6))]), (.agg #[(.int .u64 (i7)), (.int .u64 (i8)), (.int .u64 (i9)), (.int .u64 (i10)), (.int .u64 (i11)), (.int .u64 (i12)), (.bool (b13))])])) [] 0) (h1 : Does cE 190 [] 0 [.v (.agg #[(.int .u64 (i7)), (.int .u64 (i8)), (.int .u64 (i9)), (.int .u64 (i10)), (.int .u64 (i11)), (.int .u64 (i12)), (.bool (b13))]), .v (.agg #[(.int .u64 (i7)), (.int .u64 (i8)), (.int .u64 (i9)), (.int .u64 (i10)), (.int .u64 (i11)), (.int .u64 (i12)), (.bool (b13))])] (.v (.agg #[(.int .u64 (i14)), (.int .u64 (i15)), (.int .u64 (i16)), (.int .u64 (i17)), (.int .u64 (i18)), (.int .u64 (i19)), (.bool (b20))])) [] 0) (h2 : Does cE 218 [] 0 [.v (.agg #[(.int .u64 (b.getD 0 0)), (.int .u64 (b.getD 1 0)), (.int .u64 (b.getD 2 0)), (.int .u64 (b.getD 3 0)), (.int .u64 (b.getD 4 0)), (.int .u64 (b.getD 5 0)), (.bool (t))]), .v (.agg #[(.int .u64 (i14)), (.int .u64 (i15)), (.int .u64 (i16)), (.int .u64 (i17)), (.int .u64 (i18)), (.int .u64 (i19)), (.bool (b20))])] (.v (.bool (b21))) [] 0) (h3 : b21 = false) (h4 : Does cE 218 [] 0 [.v (.agg #[(.int .u64 (i14)), (.int .u64 (i15)), (.int .u64 (i16)), (.int .u64 (i17)), (.int .u64 (i18)), (.int .u64 (i19)), (.bool (b20))]), .v (.agg #[(.int .u64 (b.getD 0 0)), (.int .u64 (b.getD 1 0)), (.int .u64 (b.getD 2 0)), (.int .u64 (b.getD 3 0)), (.int .u64 (b.getD 4 0)), (.int .u64 (b.getD 5 0)), (.bool (t))])] (.v (.bool (b22))) [] 0) (h5 : (!b22) = true) (h6 : (i0.tmod 2 == 1) = false) : Does cE 158 [] 0 [.v (wv a s), .v (wv b t)] (.v (.agg #[(.int .u64 (i0)), (.int .u64 (i1)), (.int .u64 (i2)), (.int .u64 (i3)), (.int .u64 (i4)), (.int .u64 (i5)), (.bool (s))])) [] 0 :=
  does_path (ct := ct) ctOk mixed (fn := Tryz.f158) rfl (by kernel_rfl) 2000 [.c (.v (.tuple #[(.agg #[(.int .u64 (i0)), (.int .u64 (i1)), (.int .u64 (i2)), (.int .u64 (i3)), (.int .u64 (i4)), (.int .u64 (i5)), (.bool (b6))]), (.agg #[(.int .u64 (i7)), (.int .u64 (i8)), (.int .u64 (i9)), (.int .u64 (i10)), (.int .u64 (i11)), (.int .u64 (i12)), (.bool (b13))])])) [] 0, .c (.v (.agg #[(.int .u64 (i14)), (.int .u64 (i15)), (.int .u64 (i16)), (.int .u64 (i17)), (.int .u64 (i18)), (.int .u64 (i19)), (.bool (b20))])) [] 0, .c (.v (.bool (b21))) [] 0, .f, .f, .f, .c (.v (.bool (b22))) [] 0, .f, .f, .t, .t, .l, .t, .t, .l, .t, .f, .t, .f, .f] (by kernel_rfl) (cj h0 (cj h1 (cj h2 (cj h3 (cj h3 (cj h3 (cj h4 (cj h3 (cj h3 (cj h5 (cj h5 (cj (by decide : (0 : Int) ≤ 0 ∧ (0 : Int) < ((6 : Nat) : Int)) (cj h5 (cj h5 (cj h5 (cj h3 (cj h5 (cj h3 (cj h6 cj0)))))))))))))))))))
theorem rrnd_4 (a b : List Int) (s t : Bool) (i0 : Int) (i1 : Int) (i2 : Int) (i3 : Int) (i4 : Int) (i5 : Int) (b6 : Bool) (i7 : Int) (i8 : Int) (i9 : Int) (i10 : Int) (i11 : Int) (i12 : Int) (b13 : Bool) (i14 : Int) (i15 : Int) (i16 : Int) (i17 : Int) (i18 : Int) (i19 : Int) (b20 : Bool) (b21 : Bool) (b22 : Bool) (h0 : Does cE 217 [] 0 [.v (.agg #[(.int .u64 (a.getD 0 0)), (.int .u64 (a.getD 1 0)), (.int .u64 (a.getD 2 0)), (.int .u64 (a.getD 3 0)), (.int .u64 (a.getD 4 0)), (.int .u64 (a.getD 5 0)), (.bool (s))]), .v (.agg #[(.int .u64 (b.getD 0 0)), (.int .u64 (b.getD 1 0)), (.int .u64 (b.getD 2 0)), (.int .u64 (b.getD 3 0)), (.int .u64 (b.getD 4 0)), (.int .u64 (b.getD 5 0)), (.bool (t))])] (.v (.tuple #[(.agg #[(.int .u64 (i0)), (.int .u64 (i1)), (.int .u64 (i2)), (.int .u64 (i3)), (.int .u64 (i4)), (.int .u64 (i5)), (.bool (b6))]), (.agg #[(.int .u64 (i7)), (.int .u64 (i8)), (.int .u64 (i9)), (.int .u64 (i10)), (.int .u64 (i11)), (.int .u64 (i12)), (.bool (b13))])])) [] 0) (h1 : Does cE 190 [] 0 [.v (.agg #[(.int .u64 (i7)), (.int .u64 (i8)), (.int .u64 (i9)), (.int .u64 (i10)), (.int .u64 (i11)), (.int .u64 (i12)), (.bool (b13))]), .v (.agg #[(.int .u64 (i7)), (.int .u64 (i8)), (.int .u64 (i9)), (.int .u64 (i10)), (.int .u64 (i11)), (.int .u64 (i12)), (.bool (b13))])] (.v (.agg #[(.int .u64 (i14)), (.int .u64 (i15)), (.int .u64 (i16)), (.int .u64 (i17)), (.int .u64 (i18)), (.int .u64 (i19)), (.bool (b20))])) [] 0) (h2 : Does cE 218 [] 0 [.v (.agg #[(.int .u64 (b.getD 0 0)), (.int .u64 (b.getD 1 0)), (.int .u64 (b.getD 2 0)), (.int .u64 (b.getD 3 0)), (.int .u64 (b.getD 4 0)), (.int .u64 (b.getD 5 0)), (.bool (t))]), .v (.agg #[(.int .u64 (i14)), (.int .u64 (i15)), (.int .u64 (i16)), (.int .u64 (i17)), (.int .u64 (i18)), (.int .u64 (i19)), (.bool (b20))])] (.v (.bool (b21))) [] 0) (h3 : b21 = false) (h4 : Does cE 218 [] 0 [.v (.agg #[(.int .u64 (i14)), (.int .u64 (i15)), (.int .u64 (i16)), (.int .u64 (i17)), (.int .u64 (i18)), (.int .u64 (i19)), (.bool (b20))]), .v (.agg #[(.int .u64 (b.getD 0 0)), (.int .u64 (b.getD 1 0)), (.int .u64 (b.getD 2 0)), (.int .u64 (b.getD 3 0)), (.int .u64 (b.getD 4 0)), (.int .u64 (b.getD 5 0)), (.bool (t))])] (.v (.bool (b22))) [] 0) (h5 : (!b22) = false) : Does cE 158 [] 0 [.v (wv a s), .v (wv b t)] (.v (.agg #[(.int .u64 (i0)), (.int .u64 (i1)), (.int .u64 (i2)), (.int .u64 (i3)), (.int .u64 (i4)), (.int .u64 (i5)), (.bool (s))])) [] 0 :=
  does_path (ct := ct) ctOk mixed (fn := Tryz.f158) rfl (by kernel_rfl) 2000 [.c (.v (.tuple #[(.agg #[(.int .u64 (i0)), (.int .u64 (i1)), (.int .u64 (i2)), (.int .u64 (i3)), (.int .u64 (i4)), (.int .u64 (i5)), (.bool (b6))]), (.agg #[(.int .u64 (i7)), (.int .u64 (i8)), (.int .u64 (i9)), (.int .u64 (i10)), (.int .u64 (i11)), (.int .u64 (i12)), (.bool (b13))])])) [] 0, .c (.v (.agg #[(.int .u64 (i14)), (.int .u64 (i15)), (.int .u64 (i16)), (.int .u64 (i17)), (.int .u64 (i18)), (.int .u64 (i19)), (.bool (b20))])) [] 0, .c (.v (.bool (b21))) [] 0, .f, .f, .f, .c (.v (.bool (b22))) [] 0, .f, .f, .f, .f, .f, .f, .f, .f, .f, .f, .l] (by kernel_rfl) (cj h0 (cj h1 (cj h2 (cj h3 (cj h3 (cj h3 (cj h4 (cj h3 (cj h3 (cj h5 (cj h5 (cj h5 (cj h5 (cj h5 (cj h3 (cj h5 (cj h3 cj0)))))))))))))))))
theorem rrt_1 (u x : Int) (h0 : decide (x ≥ 0) = true) : Does cE 155 [] 0 [.v (dc u x)] (.v (.bool (decide (x ≤ 6)))) [] 0 :=
  does_path (ct := ct) ctOk mixed (fn := Tryz.f155) rfl (by kernel_rfl) 2000 [.t, .t, .t, .t] (by kernel_rfl) (cj h0 (cj h0 (cj h0 (cj h0 cj0))))
theorem rrt_2 (u x : Int) (h0 : decide (x ≥ 0) = false) : Does cE 155 [] 0 [.v (dc u x)] (.v (.bool (false))) [] 0 :=
  does_path (ct := ct) ctOk mixed (fn := Tryz.f155) rfl (by kernel_rfl) 2000 [.f, .f, .f, .f] (by kernel_rfl) (cj h0 (cj h0 (cj h0 (cj h0 cj0))))
theorem prt_1 (u x : Int) (b0 : Bool) (h0 : Does cE 173 [(0, .ro 3 ([x]) false)] 1 [.o 0] (.v (.bool (b0))) [] 1) : Does cE 124 [] 0 [.v (dc u x)] (.v (.bool (b0))) [] 0 :=
  does_path (ct := ct) ctOk mixed (fn := Tryz.f124) rfl (by kernel_rfl) 2000 [.c (.v (.bool (b0))) [] 1] (by kernel_rfl) (cj h0 cj0)
end Go.Proofs.YtnchjdhepakokaaGreatDoorC
/- What the reference's functions come to: parts, rounded, of, Power, scaled, sum, back. -/
namespace Go.Proofs.YtnchjdhepakokaaGreatDoorC
open Go.Proofs Go.Proofs.YtnchjdhepakokaaGreatDoorSx
set_option maxRecDepth 100000
set_option linter.unusedVariables false
theorem val_W (n : Int) (h0 : 0 ≤ n) (h1 : n < big192) : val (dg 6 n) = n := val_dg 6 n h0 (by rw [big_pow]; exact h1)
theorem W_plus {x y : Int} (hx : 0 ≤ x) (hy : 0 ≤ y) (h : x + y < big192) (s t : Bool) : Does cE 190 [] 0 [.v (W x s), .v (W y t)] (.v (W (x + y) false)) [] 0 := by
  have h1 := plus_does (dg_dig x) (dg_dig y) s t
  rw [val_W x hx (by omega), val_W y hy (by omega)] at h1
  exact h1 h
theorem W_minus {x y : Int} (hy : 0 ≤ y) (hx : x < big192) (h : y ≤ x) (s t : Bool) : Does cE 241 [] 0 [.v (W x s), .v (W y t)] (.v (W (x - y) false)) [] 0 := by
  have h1 := minus_does (dg_dig x) (dg_dig y) s t
  rw [val_W x (by omega) hx, val_W y hy (by omega)] at h1
  exact h1 h
theorem W_times {x y : Int} (hx : 0 ≤ x ∧ x < big192) (hy : 0 ≤ y ∧ y < big192) (h : x * y < big192) (s t : Bool) : Does cE 191 [] 0 [.v (W x s), .v (W y t)] (.v (W (x * y) false)) [] 0 := by
  have h1 := times_does (dg_dig x) (dg_dig y) s t
  rw [val_W x hx.1 hx.2, val_W y hy.1 hy.2] at h1
  exact h1 h
theorem W_less {x y : Int} (hx : 0 ≤ x ∧ x < big192) (hy : 0 ≤ y ∧ y < big192) (s t : Bool) : Does cE 218 [] 0 [.v (W x s), .v (W y t)] (.v (.bool (decide (x < y)))) [] 0 := by
  have h1 := less_does (dg_dig x) (dg_dig y) s t
  rw [val_W x hx.1 hx.2, val_W y hy.1 hy.2] at h1
  exact h1
theorem W_zero {x : Int} (hx : 0 ≤ x ∧ x < big192) (s : Bool) : Does cE 180 [] 0 [.v (W x s)] (.v (.bool (decide (x = 0)))) [] 0 := by
  have h1 := zero_does (dg_dig x) s
  rw [val_W x hx.1 hx.2] at h1
  exact h1
/-! ### Bits -/
theorem ediv2 (a : Int) {b c : Int} (hb : 0 < b) : a / b / c = a / (b * c) := by
  rw [Int.ediv_ediv, if_neg (fun h => by omega)]
  omega
theorem pow2_pos (k : Nat) : (0 : Int) < 2 ^ k := Int.pow_pos (by decide)
theorem val_at : ∀ (k : Nat) {l : List Int}, Rng l → val l / 4294967296 ^ k % 4294967296 = l.getD k 0
  | k, [], _ => by simp [val]
  | 0, x :: l, h => by
    have hx := h x List.mem_cons_self
    simp [val]
    omega
  | k + 1, x :: l, h => by
    have hx := h x List.mem_cons_self
    have ih := val_at k (l := l) fun y hy => h y (List.mem_cons_of_mem _ hy)
    rw [Int.pow_succ, Int.mul_comm, ← ediv2 _ (by decide)]
    simp only [val, List.getD_cons_succ]
    have e : (x + 4294967296 * val l) / 4294967296 = val l := by omega
    rw [e, ih]
theorem low_bits (q d : Int) (r : Nat) (hr : r < 32) : (4294967296 * q + d) / 2 ^ r % 2 = d / 2 ^ r % 2 := by
  have e : (4294967296 : Int) = 2 ^ r * (2 * 2 ^ (31 - r)) := by
    rw [← Int.mul_assoc, Int.mul_comm (2 ^ r) 2, Int.mul_assoc, ← Int.pow_add, show r + (31 - r) = 31 by omega]
    decide
  have e2 : 4294967296 * q + d = d + 2 ^ r * (2 * (2 ^ (31 - r) * q)) := by
    rw [e]
    grind
  have hp : (2 : Int) ^ r ≠ 0 := Int.ne_of_gt (Int.pow_pos (by decide))
  rw [e2, Int.add_mul_ediv_left _ _ hp]
  generalize 2 ^ (31 - r) * q = z
  omega
theorem bit_at {a : List Int} (ha : Rng a) (i : Nat) : a.getD (i / 32) 0 / 2 ^ (i % 32) % 2 = val a / 2 ^ i % 2 := by
  have e : (2 : Int) ^ i = 4294967296 ^ (i / 32) * 2 ^ (i % 32) := by
    have h1 : (4294967296 : Int) = 2 ^ 32 := by decide
    rw [h1, ← Int.pow_mul, ← Int.pow_add]
    congr 1
    omega
  rw [e, ← ediv2 _ (Int.pow_pos (by decide)), ← val_at (i / 32) ha]
  generalize val a / 4294967296 ^ (i / 32) = X
  have hx := Int.mul_ediv_add_emod X 4294967296
  conv => rhs; rw [← hx]
  exact (low_bits _ _ _ (Nat.mod_lt _ (by decide))).symm
theorem half_step (A : Int) (i : Nat) : A / 2 ^ i = 2 * (A / 2 ^ (i + 1)) + A / 2 ^ i % 2 := by
  rw [Int.pow_succ, ← ediv2 _ (Int.pow_pos (by decide))]
  omega
theorem min64 {k : Nat} (h : k ≤ 64) : Min.min k 64 = k := Nat.min_eq_left h
theorem bit_text (a : List Int) (ha : Dig a) (i : Nat) (hi : i < 192) : ((a.getD (IntKind.i64.wrap (((i : Int)).tdiv 32)).toNat (0 : Int)).fdiv (2 ^ Min.min (IntKind.u64.wrap (((i : Int)).tmod 32)).toNat 64)).tmod 2 = val a / 2 ^ i % 2 := by
  have r := rng_get ha.rng (i / 32)
  rw [Int.tdiv_eq_ediv_of_nonneg (a := (i : Int)) (by omega), Int.tmod_eq_emod_of_nonneg (a := (i : Int)) (by omega), wrap64 (by omega) (by omega), wrU (x := (i : Int) % 32) (by omega) (by omega)]
  have e1 : ((i : Int) / 32).toNat = i / 32 := by omega
  have e2 : ((i : Int) % 32).toNat = i % 32 := by omega
  rw [e1, e2, min64 (by omega), Int.fdiv_eq_ediv_of_nonneg _ (Int.le_of_lt (Int.pow_pos (by decide))), Int.tmod_eq_emod_of_nonneg (Int.ediv_nonneg r.1 (Int.le_of_lt (Int.pow_pos (by decide)))), bit_at ha.rng]
/-! ### Parts -/
theorem dg6 (n v : Int) (s : Bool) : wv ((dg 6 n).set 0 v) s = .agg #[iu v, iu ((dg 6 n).getD 1 0), iu ((dg 6 n).getD 2 0), iu ((dg 6 n).getD 3 0), iu ((dg 6 n).getD 4 0), iu ((dg 6 n).getD 5 0), .bool s] := rfl
theorem set_low {n v : Int} (h0 : 0 ≤ n) (h1 : n + v < big192) (hv : 0 ≤ v) (hlow : n % 4294967296 + v < 4294967296) : (dg 6 n).set 0 (n % 4294967296 + v) = dg 6 (n + v) := by
  have hd : Dig ((dg 6 n).set 0 (n % 4294967296 + v)) := ⟨by simp [dg_len], rng_set (dg_rng 6 n) (by omega)⟩
  rw [hd.eq, val_set (by rw [dg_len]; omega), val_W n h0 (by omega)]
  congr 1
  simp [dg]
  omega
theorem pa_loop {a b : List Int} (ha : Dig a) (hb : Dig b) (s t : Bool) (hpos : 0 < val b) (hb2 : 2 * val b ≤ big192) : ∀ (j : Nat) (Q R : Int), j ≤ 192 → 0 ≤ Q → 0 ≤ R ∧ R < val b → val a / 2 ^ j = Q * val b + R → ∀ m,
    Fin cE Tryz.f217 0 (.v (.tuple #[W (val a / val b) false, W (val a % val b) false])) [] 0 (inK paK (m + j + 1)) (paS ((j : Int) - 1)) (paT a b (dg 6 Q) (dg 6 R) s t) 6
  | 0, Q, R, hj, hQ, hR, hv, m => by
    refine fin_round ?_
    have h := pac_1 a b (dg 6 Q) (dg 6 R) s t m
    have e1 : (2 : Int) ^ 0 = 1 := rfl
    rw [e1, Int.ediv_one] at hv
    have e2 : val a / val b = Q := by
      rw [hv, Int.add_comm, Int.add_mul_ediv_right _ _ (by omega), Int.ediv_eq_zero_of_lt hR.1 hR.2]
      omega
    have e3 : val a % val b = R := by
      rw [hv, Int.add_comm, Int.add_mul_emod_self_right, Int.emod_eq_of_lt hR.1 hR.2]
    rw [e2, e3]
    exact h
  | i + 1, Q, R, hj, hQ, hR, hv, m => by
    refine fin_round ?_
    have hA := val_rng ha.rng
    rw [ha.len, big_pow] at hA
    have hstep := half_step (val a) i
    have hbit := bit_text a ha i (by omega)
    have hb01 : 0 ≤ val a / 2 ^ i % 2 ∧ val a / 2 ^ i % 2 ≤ 1 := by omega
    have hle : val a / 2 ^ i ≤ val a := Int.ediv_le_self _ hA.1
    rw [hv] at hstep
    have hQb : Q ≤ Q * val b := by
      have := Int.mul_le_mul_of_nonneg_left (show (1 : Int) ≤ val b by omega) hQ
      omega
    generalize hbt : val a / 2 ^ i % 2 = bt at hstep hbit hb01
    have h2R : R * 2 < big192 := by omega
    have p1 := W_plus (x := R) (y := R) hR.1 hR.1 (by omega) false false
    have p2 := W_plus (x := Q) (y := Q) hQ hQ (by omega) false false
    have hlow : ∀ {n : Int} {v : Int}, 0 ≤ v ∧ v ≤ 1 → (n + n) % 4294967296 + v < 4294967296 := by intro n v hv; omega
    have eR := set_low (n := R + R) (v := bt) (by omega) (by omega) hb01.1 (hlow hb01)
    have dR := dg6 (R + R) ((R + R) % 4294967296 + bt) false
    rw [eR] at dR
    have hw : IntKind.u64.wrap ((R + R) % 4294967296 + bt) = (R + R) % 4294967296 + bt := wrU (by omega) (by omega)
    have hl := W_less (x := R + R + bt) (y := val b) (by omega) (by have := val_rng hb.rng; rw [hb.len, big_pow] at this; exact this) false t
    have eb : W (val b) t = wv b t := by rw [W, ← hb.eq]
    rw [eb] at hl
    have ej : ((i + 1 : Nat) : Int) - 1 = (i : Int) := by omega
    rw [ej]
    have w1 : IntKind.i64.wrap ((i : Int) - 1) = (i : Int) - 1 := wrap64 (by omega) (by omega)
    have wd : IntKind.i64.wrap (((i : Int)).tdiv 32) = ((i / 32 : Nat) : Int) := by rw [Int.tdiv_eq_ediv_of_nonneg (a := (i : Int)) (by omega), wrap64 (by omega) (by omega)]; omega
    by_cases hlt : R + R + bt < val b
    · have hd : decide (R + R + bt < val b) = true := by simpa using hlt
      rw [hd] at hl
      have h := fun g1 g2 => pab_2 a b (dg 6 Q) (dg 6 R) s t i (m + (i + 1)) _ _ _ _ _ _ _ _ _ _ _ _ _ _ true (.v (.tuple #[W (val a / val b) false, W (val a % val b) false])) [] 0 p1 g1 g2 p2
      rw [pre_wc ha.len, hbit, w1, wd] at h
      have h := h ⟨by omega, by omega⟩ (lt6 ha (by omega))
      have e0 : (dg 6 (R + R)).getD 0 0 = (R + R) % 4294967296 := rfl
      rw [e0, hw, ← dR] at h
      refine h hl rfl ?_
      have ih := pa_loop ha hb s t hpos hb2 i (Q + Q) (R + R + bt) (by omega) (by omega) ⟨by omega, hlt⟩ (by rw [hstep]; grind) m
      rw [← eR] at ih
      exact ih
    · have hd : decide (R + R + bt < val b) = false := by simpa using hlt
      rw [hd] at hl
      have pm := W_minus (x := R + R + bt) (y := val b) (by omega) (by omega) (by omega) false t
      rw [eb] at pm
      have h := fun g1 g2 g3 => pab_1 a b (dg 6 Q) (dg 6 R) s t i (m + (i + 1)) _ _ _ _ _ _ _ _ _ _ _ _ _ _ false ((dg 6 (R + R + bt - val b)).getD 0 0) ((dg 6 (R + R + bt - val b)).getD 1 0) ((dg 6 (R + R + bt - val b)).getD 2 0) ((dg 6 (R + R + bt - val b)).getD 3 0) ((dg 6 (R + R + bt - val b)).getD 4 0) ((dg 6 (R + R + bt - val b)).getD 5 0) false (.v (.tuple #[W (val a / val b) false, W (val a % val b) false])) [] 0 p1 g1 g2 p2 g3
      rw [pre_wc ha.len, hbit, w1, wd] at h
      have h := h ⟨by omega, by omega⟩ (lt6 ha (by omega))
      have e0 : (dg 6 (R + R)).getD 0 0 = (R + R) % 4294967296 := rfl
      rw [e0, hw, ← dR] at h
      have h := h hl rfl pm
      have eQ := set_low (n := Q + Q) (v := 1) (by omega) (by omega) (by omega) (hlow (by omega))
      have e1 : (dg 6 (Q + Q)).getD 0 0 = (Q + Q) % 4294967296 := rfl
      have hw1 : IntKind.u64.wrap ((Q + Q) % 4294967296 + 1) = (Q + Q) % 4294967296 + 1 := wrU (by omega) (by omega)
      rw [e1, hw1] at h
      refine h ?_
      have ih := pa_loop ha hb s t hpos hb2 i (Q + Q + 1) (R + R + bt - val b) (by omega) (by omega) ⟨by omega, by omega⟩ (by rw [hstep]; grind) m
      rw [← eQ] at ih
      exact ih
end Go.Proofs.YtnchjdhepakokaaGreatDoorC
/- What the reference's functions come to, all on numbers with a sign. -/
namespace Go.Proofs.YtnchjdhepakokaaGreatDoorC
open Go.Proofs Go.Proofs.YtnchjdhepakokaaGreatDoorSx
set_option maxRecDepth 100000
set_option linter.unusedVariables false
abbrev I64 (n : Int) : Prop := -9223372036854775808 ≤ n ∧ n ≤ 9223372036854775807
def ab (n : Int) : Int := (n.natAbs : Int)
theorem ab_spec (n : Int) : (n < 0 ∧ ab n = -n) ∨ (0 ≤ n ∧ ab n = n) := by unfold ab; omega
abbrev ng (n : Int) : Bool := decide (n < 0)
theorem parts_does {x y : Int} (hx : 0 ≤ x ∧ x < big192) (hy : 0 < y) (hy2 : 2 * y ≤ big192) (s t : Bool) : Does cE 217 [] 0 [.v (W x s), .v (W y t)] (.v (.tuple #[W (x / y) false, W (x % y) false])) [] 0 := by
  refine does_of_fin (fn := Tryz.f217) (c := bd Tryz.f217) rfl (by kernel_rfl) rfl ?_
  refine paa_1 (dg 6 x) (dg 6 y) s t _ _ _ ?_
  refine fin_loop (0 + 192 + 1) ?_
  have vx := val_W x hx.1 hx.2
  have vy := val_W y (by omega) (by omega)
  have h := pa_loop (dg_dig x) (dg_dig y) s t (by rw [vy]; exact hy) (by rw [vy]; exact hy2) 192 0 0 (by omega) (by omega) (by rw [vy]; omega) (by
    rw [vx]
    have : (2 : Int) ^ 192 = big192 := by decide
    rw [this, Int.ediv_eq_zero_of_lt hx.1 hx.2]
    omega) 0
  rw [vx, vy] at h
  exact h
/-- Rounded: of two as near to the even one. -/
def rnd (x y : Int) : Int := if y < 2 * (x % y) ∨ (y = 2 * (x % y) ∧ x / y % 2 = 1) then x / y + 1 else x / y
theorem rnd_nonneg {x y : Int} (hx : 0 ≤ x) (hy : 0 < y) : 0 ≤ rnd x y := by
  have := Int.ediv_nonneg hx (Int.le_of_lt hy)
  unfold rnd
  split <;> omega
theorem rnd_le {x y : Int} (hx : 0 ≤ x) (hy : 0 < y) : rnd x y ≤ x := by
  have h1 := Int.ediv_le_self y hx
  have h2 := Int.emod_nonneg x (Int.ne_of_gt hy)
  have h3 := Int.emod_lt_of_pos x hy
  have h4 := Int.mul_ediv_add_emod x y
  have h5 := Int.ediv_nonneg hx (Int.le_of_lt hy)
  unfold rnd
  split
  · rename_i hc
    have : 1 ≤ x % y := by omega
    have h6 : x / y ≤ y * (x / y) := by
      have := Int.mul_le_mul_of_nonneg_right (show (1 : Int) ≤ y by omega) h5
      omega
    omega
  · omega
theorem one_W : Does cE 159 [] 0 [.v (it 1)] (.v (W 1 false)) [] 0 := by
  have := rof_2 1 (by decide)
  exact this
theorem rounded_does {x y : Int} (hx : 0 ≤ x ∧ x < big192) (hy : 0 < y) (hy2 : 2 * y ≤ big192) (s t : Bool) : Does cE 158 [] 0 [.v (W x s), .v (W y t)] (.v (W (rnd x y) s)) [] 0 := by
  have hp := parts_does hx hy hy2 s t
  have h2 := Int.emod_nonneg x (Int.ne_of_gt hy)
  have h3 := Int.emod_lt_of_pos x hy
  have h5 := Int.ediv_nonneg hx.1 (Int.le_of_lt hy)
  have h6 := Int.ediv_le_self y hx.1
  have hr := rnd_le hx.1 hy
  have ht := W_plus (x := x % y) (y := x % y) h2 h2 (by omega) false false
  have l1 := W_less (x := y) (y := x % y + x % y) (by omega) (by omega) t false
  have l2 := W_less (x := x % y + x % y) (y := y) (by omega) (by omega) false t
  have hodd : (dg 6 (x / y)).getD 0 0 = x / y % 4294967296 := rfl
  by_cases c1 : y < x % y + x % y
  · have d1 : decide (y < x % y + x % y) = true := by simpa using c1
    rw [d1] at l1
    have e : rnd x y = x / y + 1 := by unfold rnd; rw [if_pos (.inl (by omega))]
    rw [e] at hr ⊢
    exact rrnd_1 (h0 := hp) (h1 := ht) (h2 := l1) (h3 := rfl) (h4 := one_W) (h5 := W_plus h5 (by decide) (by omega) false false)
  · have d1 : decide (y < x % y + x % y) = false := by simpa using c1
    rw [d1] at l1
    by_cases c2 : x % y + x % y < y
    · have d2 : decide (x % y + x % y < y) = true := by simpa using c2
      rw [d2] at l2
      have e : rnd x y = x / y := by unfold rnd; rw [if_neg (by omega)]
      rw [e]
      exact rrnd_4 (h0 := hp) (h1 := ht) (h2 := l1) (h3 := rfl) (h4 := l2) (h5 := rfl)
    · have d2 : decide (x % y + x % y < y) = false := by simpa using c2
      rw [d2] at l2
      by_cases c3 : x / y % 2 = 1
      · have e : rnd x y = x / y + 1 := by unfold rnd; rw [if_pos (.inr ⟨by omega, c3⟩)]
        rw [e] at hr ⊢
        refine rrnd_2 (h0 := hp) (h1 := ht) (h2 := l1) (h3 := rfl) (h4 := l2) (h5 := rfl) (h6 := ?_) (h7 := one_W) (h8 := W_plus h5 (by decide) (by omega) false false)
        rw [hodd, Int.tmod_eq_emod_of_nonneg (by omega)]
        simp
        omega
      · have e : rnd x y = x / y := by unfold rnd; rw [if_neg (by omega)]
        rw [e]
        refine rrnd_3 (h0 := hp) (h1 := ht) (h2 := l1) (h3 := rfl) (h4 := l2) (h5 := rfl) (h6 := ?_)
        rw [hodd, Int.tmod_eq_emod_of_nonneg (by omega)]
        simp
        omega
/-! ### Numbers of 64 bits -/
theorem dg_small {n : Int} (h0 : 0 ≤ n) (h1 : n < 18446744073709551616) : dg 6 n = [n % 4294967296, n / 4294967296, 0, 0, 0, 0] := by
  simp only [dg]
  have e1 : n / 4294967296 % 4294967296 = n / 4294967296 := by omega
  have e2 : n / 4294967296 / 4294967296 = 0 := by omega
  rw [e1, e2]
  rfl
theorem wrap_abs {n : Int} (hn : I64 n) (h : n < 0) : IntKind.u64.wrap (0 - IntKind.u64.wrap n) = ab n := by
  have ha := ab_spec n
  rw [wrapU, wrapU]
  omega
theorem wrap_pos {n : Int} (hn : I64 n) (h : ¬ n < 0) : IntKind.u64.wrap n = ab n := by
  have ha := ab_spec n
  rw [wrapU]
  omega
theorem rof_does {n : Int} (hn : I64 n) : Does cE 159 [] 0 [.v (it n)] (.v (W (ab n) (ng n))) [] 0 := by
  have ha := ab_spec n
  have hs := dg_small (n := ab n) (by omega) (by omega)
  unfold W
  rw [hs]
  by_cases h : n < 0
  · have h1 := rof_1 n (by simpa using h)
    rw [wrap_abs hn h, Int.tmod_eq_emod_of_nonneg (by omega), Int.tdiv_eq_ediv_of_nonneg (by omega), wrU (x := ab n / 4294967296) (by omega) (by omega)] at h1
    exact h1
  · have h1 := rof_2 n (by simpa using h)
    rw [wrap_pos hn h, Int.tmod_eq_emod_of_nonneg (by omega), Int.tdiv_eq_ediv_of_nonneg (by omega), wrU (x := ab n / 4294967296) (by omega) (by omega)] at h1
    exact h1
theorem p10_bound {n : Nat} (h : n ≤ 18) : 1 ≤ (10 : Int) ^ n ∧ (10 : Int) ^ n ≤ 1000000000000000000 := by
  have h1 : (10 : Nat) ^ n ≤ 10 ^ 18 := Nat.pow_le_pow_right (by decide) h
  have h2 : 0 < (10 : Nat) ^ n := Nat.pow_pos (by decide)
  have h3 : ((10 ^ n : Nat) : Int) = (10 : Int) ^ n := by simp
  omega
theorem po_loop (n : Nat) (hn : n ≤ 18) : ∀ (r i : Nat), i + r = n → ∀ m, Fin cE Tryz.f146 0 (.v (it (10 ^ n))) [] 0 (inK poK (m + r + 1)) ([.v (it n), .na, .na, .v (it (10 ^ i)), .v (it i)] ++ List.replicate 8 .na) [] 0
  | 0, i, hi, m => by
    refine fin_round ?_
    have e : i = n := by omega
    subst e
    exact pob_2 _ _ i m (by simp)
  | r + 1, i, hi, m => by
    refine fin_round ?_
    have hb := p10_bound (n := i + 1) (by omega)
    refine pob_1 _ _ i (m + (r + 1)) _ _ _ (by simp; omega) ?_
    have e : IntKind.i64.wrap (10 * 10 ^ i) = 10 ^ (i + 1) := by
      rw [Int.pow_succ] at hb ⊢
      rw [wrap64 (by omega) (by omega)]
      omega
    rw [e, step64 (by omega)]
    exact po_loop n hn r (i + 1) (by omega) m
theorem power_does (n : Nat) (hn : n ≤ 18) : Does cE 146 [] 0 [.v (it n)] (.v (it (10 ^ n))) [] 0 := by
  refine does_of_fin (fn := Tryz.f146) (c := bd Tryz.f146) rfl (by kernel_rfl) rfl ?_
  refine poa_1 _ _ _ _ ?_
  refine fin_loop (0 + n + 1) ?_
  exact po_loop n hn n 0 (by omega) 0
theorem mul_small {a b A B : Int} (ha : 0 ≤ a ∧ a ≤ A) (hb : 0 ≤ b ∧ b ≤ B) : 0 ≤ a * b ∧ a * b ≤ A * B :=
  ⟨Int.mul_nonneg ha.1 hb.1, Int.le_trans (Int.mul_le_mul_of_nonneg_right ha.2 hb.1) (Int.mul_le_mul_of_nonneg_left hb.2 (by omega))⟩
theorem rscaled_does {u x sc : Int} (hu : I64 u) (d : Nat) (hd : d ≤ 18) (hx : I64 x) (he : sc - x = d) : Does cE 157 [] 0 [.v (dc u x), .v (it sc)] (.v (W (ab u * 10 ^ d) (ng u))) [] 0 := by
  have ha := ab_spec u
  have hb := p10_bound hd
  have hc := ab_spec (10 ^ d)
  have hm := mul_small (a := ab u) (b := 10 ^ d) (A := 9223372036854775808) (B := 1000000000000000000) (by omega) (by omega)
  have h1 := rof_does (n := 10 ^ d) (by omega)
  have e1 : ab (10 ^ d) = 10 ^ d := by omega
  have e2 : ng (10 ^ d) = false := by simp; omega
  rw [e1, e2] at h1
  have ew : IntKind.i64.wrap (sc - x) = (d : Int) := by rw [he, wrap64 (by omega) (by omega)]
  have hp := power_does d hd
  have hw := W_times (x := ab u) (y := 10 ^ d) (by unfold big192; omega) (by unfold big192; omega) (by unfold big192; omega) (ng u) false
  exact rscl_1 (h0 := rof_does hu) (h1 := by rw [ew]; exact hp) (h2 := h1) (h3 := hw)
/-- A sum, with signs. -/
def addM (x : Int) (s : Bool) (y : Int) (t : Bool) : Int × Bool := if s = t then (x + y, s) else if x < y then (y - x, t) else (x - y, s)
theorem rsum_does {x y : Int} (hx : 0 ≤ x) (hy : 0 ≤ y) (h : x + y < big192) (s t : Bool) : Does cE 179 [] 0 [.v (W x s), .v (W y t)] (.v (W (addM x s y t).1 (addM x s y t).2)) [] 0 := by
  unfold addM
  by_cases hs : s = t
  · rw [if_pos hs]
    subst hs
    exact rsum_1 (h0 := by simp) (h1 := W_plus hx hy h s s)
  · rw [if_neg hs]
    have hl := W_less (x := x) (y := y) (by omega) (by omega) s t
    by_cases hlt : x < y
    · rw [if_pos hlt]
      have d1 : decide (x < y) = true := by simpa using hlt
      rw [d1] at hl
      exact rsum_2 (h0 := by simpa using hs) (h1 := hl) (h2 := rfl) (h3 := W_minus (x := y) (y := x) (by omega) (by omega) (by omega) t s)
    · rw [if_neg hlt]
      have d1 : decide (x < y) = false := by simpa using hlt
      rw [d1] at hl
      exact rsum_3 (h0 := by simpa using hs) (h1 := hl) (h2 := rfl) (h3 := W_minus (x := x) (y := y) (by omega) (by omega) (by omega) s t)
/-! ### Back -/
def fits (x : Int) (s : Bool) : Prop := x ≤ (if s then 9223372036854775808 else 9223372036854775807)
instance (x : Int) (s : Bool) : Decidable (fits x s) := by unfold fits; infer_instance
abbrev sg (x : Int) (s : Bool) : Int := if s then -x else x
/-- Units and scale, and how it ended. -/
def fitP (x : Int) (s : Bool) (sc : Int) : Int × Int × Int := if fits x s then (sg x s, sc, 0) else (0, 0, 32)
abbrev ans (p : Int × Int × Int) : Value := .tuple #[dc p.1 p.2.1, it p.2.2]
theorem dg_get {x : Int} (h0 : 0 ≤ x) (h1 : x < big192) : x = (dg 6 x).getD 0 0 + 4294967296 * ((dg 6 x).getD 1 0 + 4294967296 * ((dg 6 x).getD 2 0 + 4294967296 * ((dg 6 x).getD 3 0 + 4294967296 * ((dg 6 x).getD 4 0 + 4294967296 * (dg 6 x).getD 5 0)))) := by
  have := val6 (dg_dig x)
  rw [val_W x h0 h1] at this
  exact this
theorem rback_does {x : Int} (h0 : 0 ≤ x) (h1 : x < big192) (s : Bool) (sc : Int) : Does cE 156 [] 0 [.v (W x s), .v (it sc)] (.v (ans (fitP x s sc))) [] 0 := by
  have hv := dg_get h0 h1
  have a0 := rng_get (dg_rng 6 x) 0
  have a1 := rng_get (dg_rng 6 x) 1
  have a2 := rng_get (dg_rng 6 x) 2
  have a3 := rng_get (dg_rng 6 x) 3
  have a4 := rng_get (dg_rng 6 x) 4
  have a5 := rng_get (dg_rng 6 x) 5
  have big : ∀ (P : Value → Prop), (18446744073709551616 ≤ x → P (.tuple #[dc 0 0, it 32])) → 18446744073709551616 ≤ x → P (ans (fitP x s sc)) := by
    intro P hP hx
    have : ¬ fits x s := by unfold fits; cases s <;> simp <;> omega
    unfold fitP
    rw [if_neg this]
    exact hP hx
  by_cases h2 : (dg 6 x).getD 2 0 = 0
  · by_cases h3 : (dg 6 x).getD 3 0 = 0
    · by_cases h4 : (dg 6 x).getD 4 0 = 0
      · by_cases h5 : (dg 6 x).getD 5 0 = 0
        · have w : IntKind.u64.wrap (IntKind.u64.wrap ((dg 6 x).getD 1 0 * 4294967296) + (dg 6 x).getD 0 0) = x := by
            rw [wrU (x := (dg 6 x).getD 1 0 * 4294967296) (by omega) (by omega), wrU (by omega) (by omega)]
            omega
          have hx : x < 18446744073709551616 := by omega
          unfold fitP
          cases s with
          | true =>
            by_cases hle : x ≤ 9223372036854775808
            · have h := rbk_1 (dg 6 x) true sc (by rw [h2]; rfl) (by rw [h3]; rfl) (by rw [h4]; rfl) (by rw [h5]; rfl) rfl
              rw [w] at h
              have e : IntKind.i64.wrap (IntKind.u64.wrap (0 - x)) = -x := by rw [wrapU, IntKind.wrap_i64]; omega
              rw [e] at h
              rw [if_pos (by unfold fits; simpa using hle)]
              exact h (by simpa using hle)
            · have h := rbk_2 (dg 6 x) true sc (by rw [h2]; rfl) (by rw [h3]; rfl) (by rw [h4]; rfl) (by rw [h5]; rfl) rfl
              rw [w] at h
              rw [if_neg (by unfold fits; simpa using hle)]
              exact h (by simpa using hle) (by simp; omega)
          | false =>
            by_cases hle : x ≤ 9223372036854775807
            · have h := rbk_5 (dg 6 x) false sc (by rw [h2]; rfl) (by rw [h3]; rfl) (by rw [h4]; rfl) (by rw [h5]; rfl) rfl
              rw [w, wrap64 (by omega) (by omega)] at h
              rw [if_pos (by unfold fits; simpa using hle)]
              exact h (by simp; omega)
            · have h := rbk_4 (dg 6 x) false sc (by rw [h2]; rfl) (by rw [h3]; rfl) (by rw [h4]; rfl) (by rw [h5]; rfl) rfl
              rw [w] at h
              rw [if_neg (by unfold fits; simpa using hle)]
              exact h (by simp; omega)
        · exact big (fun v => Does cE 156 [] 0 [.v (W x s), .v (it sc)] (.v v) [] 0) (fun _ => rbk3_1 (dg 6 x) s sc (by rw [h2]; rfl) (by rw [h3]; rfl) (by rw [h4]; rfl) (bne_iff_ne.2 h5)) (by omega)
      · exact big (fun v => Does cE 156 [] 0 [.v (W x s), .v (it sc)] (.v v) [] 0) (fun _ => rbk2_1 (dg 6 x) s sc (by rw [h2]; rfl) (by rw [h3]; rfl) (bne_iff_ne.2 h4)) (by omega)
    · exact big (fun v => Does cE 156 [] 0 [.v (W x s), .v (it sc)] (.v v) [] 0) (fun _ => rbk1_1 (dg 6 x) s sc (by rw [h2]; rfl) (bne_iff_ne.2 h3)) (by omega)
  · exact big (fun v => Does cE 156 [] 0 [.v (W x s), .v (it sc)] (.v v) [] 0) (fun _ => rbk0_1 (dg 6 x) s sc (bne_iff_ne.2 h2)) (by omega)
end Go.Proofs.YtnchjdhepakokaaGreatDoorC
/- Each path of each function: on which conditions it is taken, what it gives. Printed by a program (wip/tools/sxexp2.lean); Lean checks each. -/
namespace Go.Proofs.YtnchjdhepakokaaGreatDoorC
open Go.Proofs Go.Proofs.YtnchjdhepakokaaGreatDoorSx
set_option maxRecDepth 100000
set_option linter.unusedVariables false

theorem mul64_1 (x y : Int) : Does cE 206 [] 0 [.v (iu x), .v (iu y)] (.v (.tuple #[(.int .u64 (IntKind.u64.wrap (IntKind.u64.wrap (IntKind.u64.wrap (x.fdiv (2 ^ 32) * y.fdiv (2 ^ 32)) + (IntKind.u64.wrap (IntKind.u64.wrap (x.fdiv (2 ^ 32) * IntKind.u64.wrap ↑(BitVec.ofInt 64 y &&& BitVec.ofInt 64 4294967295).toNat) + (IntKind.u64.wrap (IntKind.u64.wrap ↑(BitVec.ofInt 64 x &&& BitVec.ofInt 64 4294967295).toNat * IntKind.u64.wrap ↑(BitVec.ofInt 64 y &&& BitVec.ofInt 64 4294967295).toNat)).fdiv (2 ^ 32))).fdiv (2 ^ 32)) + (IntKind.u64.wrap (IntKind.u64.wrap ↑(BitVec.ofInt 64 (IntKind.u64.wrap (IntKind.u64.wrap (x.fdiv (2 ^ 32) * IntKind.u64.wrap ↑(BitVec.ofInt 64 y &&& BitVec.ofInt 64 4294967295).toNat) + (IntKind.u64.wrap (IntKind.u64.wrap ↑(BitVec.ofInt 64 x &&& BitVec.ofInt 64 4294967295).toNat * IntKind.u64.wrap ↑(BitVec.ofInt 64 y &&& BitVec.ofInt 64 4294967295).toNat)).fdiv (2 ^ 32))) &&& BitVec.ofInt 64 4294967295).toNat + IntKind.u64.wrap (IntKind.u64.wrap ↑(BitVec.ofInt 64 x &&& BitVec.ofInt 64 4294967295).toNat * y.fdiv (2 ^ 32)))).fdiv (2 ^ 32)))), (.int .u64 (IntKind.u64.wrap (x * y)))])) [] 0 :=
  does_path (ct := ct) ctOk mixed (fn := Tryz.f206) rfl (by kernel_rfl) 2000 [.l, .l, .l, .l, .l] (by kernel_rfl) cj0
end Go.Proofs.YtnchjdhepakokaaGreatDoorC
/- What the program's functions on 128 bits come to. -/
namespace Go.Proofs.YtnchjdhepakokaaGreatDoorC
open Go.Proofs Go.Proofs.YtnchjdhepakokaaGreatDoorSx
set_option maxRecDepth 100000
set_option linter.unusedVariables false
def big128 : Int := 340282366920938463463374607431768211456
abbrev Bv (n : Int) (s : Bool) : Value := bg (n / 18446744073709551616) (n % 18446744073709551616) s
abbrev U64 (n : Int) : Prop := 0 ≤ n ∧ n < 18446744073709551616
/-! ### Carries -/
theorem inPlace {g : Nat} {l : List Value} {v : Value} (h : pureRun cE.P (callFunc g l.toArray) = some (.value v)) : Does cE g [] 0 (l.map .v) (.v v) [] 0 := by
  intro S w μ vs hm hs
  have e : vs = l := by
    have : ∀ (l vs : List Value), Slots (fun k => k < 0) μ (l.map .v) vs → vs = l := by
      intro l
      induction l with
      | nil => intro vs h; exact h.nilr
      | cons a l ih =>
        intro vs h
        obtain ⟨u, r, h1, h2, h3⟩ := h.consr
        rw [h1, rel_v.1 h2, ih r h3]
    exact this l vs hs
  subst e
  exact .inl ⟨v, pureRun_run h w, rel_v.2 rfl, rfl, rfl⟩
theorem add64_does {x y : Int} (hx : U64 x) (hy : U64 y) : Does cE 229 [] 0 [.v (iu x), .v (iu y), .v (iu 0)] (.v (.tuple #[iu ((x + y) % 18446744073709551616), iu ((x + y) / 18446744073709551616)])) [] 0 := by
  have h := inPlace (g := 229) (l := [iu x, iu y, iu 0]) (v := .tuple #[iu (Int.ofNat ((x.toNat + y.toNat + 0) % 18446744073709551616)), iu (Int.ofNat ((x.toNat + y.toNat + 0) / 18446744073709551616))]) (by kernel_rfl)
  have e1 : Int.ofNat ((x.toNat + y.toNat + 0) % 18446744073709551616) = (x + y) % 18446744073709551616 := by simp; omega
  have e2 : Int.ofNat ((x.toNat + y.toNat + 0) / 18446744073709551616) = (x + y) / 18446744073709551616 := by simp; omega
  rw [e1, e2] at h
  exact h
theorem sub64_does {x y : Int} (hx : U64 x) (hy : U64 y) : Does cE 231 [] 0 [.v (iu x), .v (iu y), .v (iu 0)] (.v (.tuple #[iu ((x - y) % 18446744073709551616), iu (if x < y then 1 else 0)])) [] 0 := by
  have h := inPlace (g := 231) (l := [iu x, iu y, iu 0]) (v := .tuple #[iu (Int.ofNat ((x.toNat + 18446744073709551616 - y.toNat - 0) % 18446744073709551616)), iu (Int.ofNat (if x.toNat < y.toNat + 0 then 1 else 0))]) (by kernel_rfl)
  have e1 : Int.ofNat ((x.toNat + 18446744073709551616 - y.toNat - 0) % 18446744073709551616) = (x - y) % 18446744073709551616 := by simp; omega
  have e2 : Int.ofNat (if x.toNat < y.toNat + 0 then 1 else 0) = if x < y then 1 else 0 := by
    by_cases hlt : x < y
    · rw [if_pos hlt, if_pos (by omega)]; rfl
    · rw [if_neg hlt, if_neg (by omega)]; rfl
  rw [e1, e2] at h
  exact h
theorem low32 (z : Int) (h0 : 0 ≤ z) : IntKind.u64.wrap ↑(BitVec.ofInt 64 z &&& BitVec.ofInt 64 4294967295).toNat = z % 4294967296 := by
  rw [BitVec.toNat_and, BitVec.toNat_ofInt, BitVec.toNat_ofInt]
  have e : ((4294967295 : Int) % ((2 ^ 64 : Nat) : Int)).toNat = 2 ^ 32 - 1 := by decide
  rw [e, Nat.and_two_pow_sub_one_eq_mod, wrapU]
  have : (2 : Nat) ^ 32 = 4294967296 := by decide
  rw [this]
  omega
theorem hi32 (z : Int) (h0 : 0 ≤ z) : z.fdiv (2 ^ Min.min (Int.toNat 32) 64) = z / 4294967296 := by
  rw [Int.fdiv_eq_ediv_of_nonneg _ (by decide)]
  rfl
theorem wrap_nn (z : Int) : 0 ≤ IntKind.u64.wrap z := by rw [wrapU]; omega
theorem fdiv32 (z : Int) : z.fdiv (2 ^ 32) = z / 4294967296 := by
  rw [Int.fdiv_eq_ediv_of_nonneg _ (by decide)]
  rfl
theorem mul64_does {x y : Int} (hx : U64 x) (hy : U64 y) : Does cE 206 [] 0 [.v (iu x), .v (iu y)] (.v (.tuple #[iu (x * y / 18446744073709551616), iu (x * y % 18446744073709551616)])) [] 0 := by
  have h := mul64_1 x y
  have ha := Go.mul64_arith x y hx.1 hx.2 hy.1 hy.2
  simp only [fdiv32] at h
  rw [low32 x hx.1, low32 y hy.1, low32 _ (wrap_nn _)] at h
  simp only [wrapU] at h
  rw [ha] at h
  exact h
end Go.Proofs.YtnchjdhepakokaaGreatDoorC
/- What the program's functions on 128 bits come to: of, times, compare, plus, by, back, up, scales. -/
namespace Go.Proofs.YtnchjdhepakokaaGreatDoorC
open Go.Proofs Go.Proofs.YtnchjdhepakokaaGreatDoorSx
set_option maxRecDepth 100000
set_option linter.unusedVariables false
theorem pof_does {n : Int} (hn : I64 n) : Does cE 192 [] 0 [.v (it n)] (.v (Bv (ab n) (ng n))) [] 0 := by
  have ha := ab_spec n
  have e1 : ab n / 18446744073709551616 = 0 := by omega
  have e2 : ab n % 18446744073709551616 = ab n := by omega
  unfold Bv
  rw [e1, e2]
  by_cases h : n < 0
  · have h1 := of_1 n (by simpa using h)
    have d : ng n = true := by simpa [ng] using h
    rw [wrap_abs hn h] at h1
    rw [d]
    exact h1
  · have h1 := of_2 n (by simpa using h)
    have d : ng n = false := by simpa [ng] using h
    rw [wrap_pos hn h] at h1
    rw [d]
    exact h1
theorem Bv_range {n : Int} (h0 : 0 ≤ n) (h1 : n < big128) : U64 (n / 18446744073709551616) ∧ U64 (n % 18446744073709551616) := by
  unfold big128 at h1
  unfold U64
  omega
theorem ptimes_does {x n : Int} (hx : 0 ≤ x) (hn : U64 n) (h : x * n < big128) (hxb : x < big128) (s : Bool) : Does cE 222 [] 0 [.v (Bv x s), .v (iu n)] (.v (Bv (x * n) s)) [] 0 := by
  obtain ⟨r1, r2⟩ := Bv_range hx hxb
  have h1 := times_1 (h := x / 18446744073709551616) (l := x % 18446744073709551616) (n := n) (s := s) (h0 := mul64_does r2 hn)
  have hx0 : x = 18446744073709551616 * (x / 18446744073709551616) + x % 18446744073709551616 := by omega
  unfold Bv
  generalize x / 18446744073709551616 = a at h1 hx0 r1 ⊢
  generalize x % 18446744073709551616 = b at h1 hx0 r2 ⊢
  have hm : x * n = 18446744073709551616 * (a * n) + b * n := by rw [hx0]; grind
  have p1 : 0 ≤ a * n := Int.mul_nonneg r1.1 hn.1
  have p2 : 0 ≤ b * n := Int.mul_nonneg r2.1 hn.1
  rw [hm]
  rw [hm] at h
  generalize a * n = A at h1 h p1
  generalize b * n = B at h1 h p2
  unfold big128 at h
  rw [wrU (x := A) p1 (by omega), wrU (x := B / 18446744073709551616 + A) (by omega) (by omega)] at h1
  have e1 : (18446744073709551616 * A + B) / 18446744073709551616 = B / 18446744073709551616 + A := by omega
  have e2 : (18446744073709551616 * A + B) % 18446744073709551616 = B % 18446744073709551616 := by omega
  rw [e1, e2]
  exact h1
/-! ### Order -/
def cmpI (x y : Int) : Int := if x < y then -1 else if x > y then 1 else 0
theorem cmp64_does (x y : Int) : Does cE 266 [] 0 [.v (iu x), .v (iu y)] (.v (it (cmpI x y))) [] 0 := by
  unfold cmpI
  by_cases h1 : x < y
  · rw [if_pos h1]
    exact cmp64_4 x y (by simp) (by simp) (by simpa using h1)
  · rw [if_neg h1]
    by_cases h2 : x > y
    · rw [if_pos h2]
      exact cmp64_5 x y (by simp) (by simp) (by simpa using h1) (by simpa using h2)
    · rw [if_neg h2]
      exact cmp64_6 x y (by simp) (by simp) (by simpa using h1) (by simpa using h2)
theorem or_does (x y : Int) : Does cE 120 [(0, .ro 3 ([x, y] : List Int) false)] 1 [.o 0] (.v (it (if x = 0 then y else x))) [] 1 := by
  refine Does.nil (T' := [(0, .ro 3 ([x, y] : List Int) false)]) ?_ rfl
  by_cases h1 : x = 0
  · rw [if_pos h1]
    by_cases h2 : y = 0
    · subst h1
      subst h2
      exact or2c_1 0 0 ⟨by decide, by simp⟩ (by simp) (by simp) ⟨by decide, by simp; decide⟩ (by simp; decide) (by rfl)
    · subst h1
      exact or2b_1 0 y ⟨by decide, by simp⟩ (by simp) (by simp) ⟨by decide, by simp; decide⟩ (by simp; decide) (bne_iff_ne.2 h2)
  · rw [if_neg h1]
    exact or2a_1 x y ⟨by decide, by simp⟩ (by simp) (bne_iff_ne.2 h1)
theorem cmp_split {x y : Int} : (if cmpI (x / 18446744073709551616) (y / 18446744073709551616) = 0 then cmpI (x % 18446744073709551616) (y % 18446744073709551616) else cmpI (x / 18446744073709551616) (y / 18446744073709551616)) = cmpI x y := by
  unfold cmpI
  by_cases h1 : x / 18446744073709551616 < y / 18446744073709551616
  · rw [if_pos h1, if_neg (by decide), if_pos (by omega)]
  · by_cases h2 : x / 18446744073709551616 > y / 18446744073709551616
    · rw [if_neg h1, if_pos h2, if_neg (by decide), if_neg (by omega), if_pos (by omega)]
    · rw [if_neg h1, if_neg h2, if_pos rfl]
      by_cases h3 : x < y
      · rw [if_pos h3, if_pos (by omega)]
      · by_cases h4 : x > y
        · rw [if_neg h3, if_pos h4, if_neg (by omega), if_pos (by omega)]
        · rw [if_neg h3, if_neg h4, if_neg (by omega), if_neg (by omega)]
theorem pcompare_does (x y : Int) (s t : Bool) : Does cE 230 [] 0 [.v (Bv x s), .v (Bv y t)] (.v (it (cmpI x y))) [] 0 := by
  rw [← cmp_split]
  exact cmpb_1 (s := s) (t := t) (h0 := cmp64_does _ _) (h1 := cmp64_does _ _) (h2 := or_does _ _)
/-! ### Sums -/
theorem pdiff {x y : Int} (hy : 0 ≤ y) (hle : y ≤ x) (hx : x < big128) (s : Bool) :
    bg (IntKind.u64.wrap (IntKind.u64.wrap (x / 18446744073709551616 - y / 18446744073709551616) - (if x % 18446744073709551616 < y % 18446744073709551616 then 1 else 0))) ((x % 18446744073709551616 - y % 18446744073709551616) % 18446744073709551616) s = Bv (x - y) s := by
  unfold big128 at hx
  have e1 : IntKind.u64.wrap (x / 18446744073709551616 - y / 18446744073709551616) = x / 18446744073709551616 - y / 18446744073709551616 := wrU (by omega) (by omega)
  rw [e1]
  have e2 : (x % 18446744073709551616 - y % 18446744073709551616) % 18446744073709551616 = (x - y) % 18446744073709551616 := by omega
  rw [e2]
  by_cases h : x % 18446744073709551616 < y % 18446744073709551616
  · rw [if_pos h, wrU (by omega) (by omega)]
    have e3 : x / 18446744073709551616 - y / 18446744073709551616 - 1 = (x - y) / 18446744073709551616 := by omega
    rw [e3]
  · rw [if_neg h, wrU (by omega) (by omega)]
    have e3 : x / 18446744073709551616 - y / 18446744073709551616 - 0 = (x - y) / 18446744073709551616 := by omega
    rw [e3]
theorem pplus_does {x y : Int} (hx : 0 ≤ x) (hy : 0 ≤ y) (h : x + y < big128) (s t : Bool) : Does cE 175 [] 0 [.v (Bv x s), .v (Bv y t)] (.v (Bv (addM x s y t).1 (addM x s y t).2)) [] 0 := by
  obtain ⟨a1, a2⟩ := Bv_range hx (by omega)
  obtain ⟨b1, b2⟩ := Bv_range hy (by omega)
  unfold addM
  by_cases hs : s = t
  · rw [if_pos hs]
    subst hs
    have h1 := plus_1 (h0 := (by simp : (s == s) = true)) (h1 := add64_does a2 b2) (h := x / 18446744073709551616) (g := y / 18446744073709551616)
    unfold big128 at h
    have e1 : IntKind.u64.wrap (x / 18446744073709551616 + y / 18446744073709551616) = x / 18446744073709551616 + y / 18446744073709551616 := wrU (by omega) (by omega)
    rw [e1, wrU (by omega) (by omega)] at h1
    have e2 : x / 18446744073709551616 + y / 18446744073709551616 + (x % 18446744073709551616 + y % 18446744073709551616) / 18446744073709551616 = (x + y) / 18446744073709551616 := by omega
    have e3 : (x % 18446744073709551616 + y % 18446744073709551616) % 18446744073709551616 = (x + y) % 18446744073709551616 := by omega
    rw [e2, e3] at h1
    exact h1
  · rw [if_neg hs]
    have hc := pcompare_does x y s t
    unfold cmpI at hc
    by_cases hlt : x < y
    · rw [if_pos hlt]
      rw [if_pos hlt] at hc
      have h1 := plus_2 (h0 := (by simpa using hs : (s == t) = false)) (h1 := hc) (h2 := by decide) (h3 := sub64_does b2 a2)
      have e := pdiff (x := y) (y := x) hx (by omega) (by omega) t
      unfold bg at e
      rw [e] at h1
      exact h1
    · rw [if_neg hlt]
      rw [if_neg hlt] at hc
      have h1 := plus_3 (h0 := (by simpa using hs : (s == t) = false)) (h1 := hc) (h2 := by split <;> decide) (h3 := sub64_does a2 b2)
      have e := pdiff (x := x) (y := y) hy (by omega) (by omega) s
      unfold bg at e
      rw [e] at h1
      exact h1
/-! ### Back, up, scales -/
theorem pback_does {x : Int} (h0 : 0 ≤ x) (h1 : x < big128) (s : Bool) (sc : Int) : Does cE 215 [] 0 [.v (Bv x s), .v (it sc)] (.v (ans (fitP x s sc))) [] 0 := by
  unfold big128 at h1
  by_cases hh : x / 18446744073709551616 = 0
  · have e2 : x % 18446744073709551616 = x := by omega
    unfold Bv fitP
    rw [hh, e2]
    cases s with
    | true =>
      by_cases hle : x ≤ 9223372036854775808
      · have h := back_2 0 x sc true rfl rfl (by simpa using hle)
        have e : IntKind.i64.wrap (IntKind.u64.wrap (0 - x)) = -x := by rw [wrapU, IntKind.wrap_i64]; omega
        rw [e] at h
        rw [if_pos (by unfold fits; simpa using hle)]
        exact h
      · have h := back_5 0 x sc true rfl rfl (by simpa using hle) rfl
        rw [if_neg (by unfold fits; simpa using hle)]
        exact h
    | false =>
      by_cases hle : x ≤ 9223372036854775807
      · have h := back_6 0 x sc false rfl rfl rfl (by simp; omega)
        rw [wrap64 (by omega) (by omega)] at h
        rw [if_pos (by unfold fits; simpa using hle)]
        exact h
      · have h := back_7 0 x sc false rfl rfl rfl (by simp; omega)
        rw [if_neg (by unfold fits; simpa using hle)]
        exact h
  · have h := back_1 (x / 18446744073709551616) (x % 18446744073709551616) sc s (bne_iff_ne.2 hh)
    have : ¬ fits x s := by unfold fits; cases s <;> simp <;> omega
    unfold fitP
    rw [if_neg this]
    exact h
theorem pow10_get : ∀ d : Fin 13, pow10.getD d.val 0 = 10 ^ d.val := by decide
theorem pup_does {u x sc : Int} (hu : I64 u) (d : Nat) (hd : d ≤ 12) (he : sc - x = d) : Does cE 174 [] 0 [.v (dc u x), .v (it sc)] (.v (Bv (ab u * 10 ^ d) (ng u))) [] 0 := by
  have ha := ab_spec u
  have hb := p10_bound (n := d) (by omega)
  have hm := mul_small (a := ab u) (b := 10 ^ d) (A := 9223372036854775808) (B := 1000000000000000000) (by omega) (by omega)
  have ew : IntKind.i64.wrap (sc - x) = (d : Int) := by rw [he, wrap64 (by omega) (by omega)]
  have hp := pow10_get ⟨d, by omega⟩
  simp only at hp
  have ht := ptimes_does (x := ab u) (n := 10 ^ d) (by omega) (by unfold U64; omega) (by unfold big128; omega) (by unfold big128; omega) (ng u)
  have h := fun g1 g2 g3 => up_1 (h0 := pof_does hu) (h1 := g1) (h2 := g2) (h3 := g3) (u := u) (x := x) (sc := sc) (i3 := ab u * 10 ^ d / 18446744073709551616) (i4 := ab u * 10 ^ d % 18446744073709551616) (b5 := ng u)
  rw [ew] at h
  have e3 : 0 + ((d : Int)).toNat * 1 = d := by omega
  rw [e3, hp] at h
  exact h ⟨by omega, by omega⟩ (by show d < 13; omega) ht
abbrev inS (x : Int) : Bool := decide (0 ≤ x ∧ x ≤ 6)
theorem sc_loop (l : List Int) (hl : l.length < 100) : ∀ (r i : Nat), i + r = l.length → ∀ m, Fin cE Tryz.f173 1 (.v (.bool ((l.drop i).all inS))) [(0, .ro 3 l false)] 1 (inK scK1 (m + r + 1)) ([.na, .na, .na, .na, .na, .o 0, .v (it l.length), .v (it i)] ++ List.replicate 10 .na) [(0, .ro 3 l false)] 1
  | 0, i, hi, m => by
    refine fin_round ?_
    rw [List.drop_of_length_le (by omega)]
    exact scb_4 l i m (by simp; omega)
  | r + 1, i, hi, m => by
    refine fin_round ?_
    have hlt : i < l.length := by omega
    have hd : l.drop i = l.getD i 0 :: l.drop (i + 1) := by
      rw [List.drop_eq_getElem_cons hlt]
      congr 1
      simp [List.getD, hlt]
    rw [hd, List.all_cons]
    by_cases h1 : l.getD i 0 < 0
    · have e : inS (l.getD i 0) = false := decide_eq_false (by omega)
      rw [e]
      exact scb_1 l i (m + (r + 1)) (by simp; omega) ⟨by omega, by omega⟩ hlt (by simpa using h1)
    · by_cases h2 : l.getD i 0 > 6
      · have e : inS (l.getD i 0) = false := decide_eq_false (by omega)
        rw [e]
        exact scb_2 l i (m + (r + 1)) (by simp; omega) ⟨by omega, by omega⟩ hlt (by simpa using h1) (by simpa using h2)
      · have e : inS (l.getD i 0) = true := decide_eq_true (by omega)
        rw [e, Bool.true_and]
        refine scb_3 l i (m + (r + 1)) _ _ _ (by simp; omega) ⟨by omega, by omega⟩ hlt (by simpa using h1) (by simpa using h2) ?_
        rw [step64 (by omega)]
        exact sc_loop l hl r (i + 1) (by omega) m
theorem scales_does (l : List Int) (hl : l.length < 100) : Does cE 173 [(0, .ro 3 l false)] 1 [.o 0] (.v (.bool (l.all inS))) [] 1 := by
  refine Does.nil (T' := [(0, .ro 3 l false)]) ?_ rfl
  refine does_of_fin (fn := Tryz.f173) (c := bd Tryz.f173) rfl (by kernel_rfl) rfl ?_
  refine sca_1 l _ _ _ ?_
  refine fin_loop (0 + l.length + 1) ?_
  exact sc_loop l hl l.length 0 (by omega) 0
end Go.Proofs.YtnchjdhepakokaaGreatDoorC
