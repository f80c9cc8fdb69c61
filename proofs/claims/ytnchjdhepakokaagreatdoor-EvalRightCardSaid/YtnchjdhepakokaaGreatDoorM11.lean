import Derived.Test.YtnchjdhepakokaaGreatDoorM10
import Derived.Test.YtnchjdhepakokaaGreatDoorM09
import Derived.Laws.BitsLemmas
import Derived.Laws.Externs
/- What the reference's decimals come to: the same. -/
namespace Go.Proofs.YtnchjdhepakokaaGreatDoorC
open Go.Proofs Go.Proofs.YtnchjdhepakokaaGreatDoorSx
set_option maxRecDepth 100000
set_option linter.unusedVariables false
theorem rright_does (u x : Int) : Does cE 155 [] 0 [.v (dc u x)] (.v (.bool (decide (sc6 x)))) [] 0 := by
  by_cases h : x ≥ 0
  · have e : decide (sc6 x) = decide (x ≤ 6) := by rw [decide_eq_decide]; omega
    rw [e]
    exact rrt_1 u x (by simpa using h)
  · have e : decide (sc6 x) = false := decide_eq_false (by omega)
    rw [e]
    exact rrt_2 u x (by simpa using h)
theorem rscl_does {u x sc : Int} (hu : I64 u) (hx : I64 x) (h0 : 0 ≤ sc - x) (h1 : sc - x ≤ 12) : Does cE 157 [] 0 [.v (dc u x), .v (it sc)] (.v (W (ab u * p10 (sc - x)) (ng u))) [] 0 :=
  rscaled_does hu (sc - x).toNat (by omega) hx (by omega)
theorem pw_does {z : Int} (h0 : 0 ≤ z) (h1 : z ≤ 12) : Does cE 146 [] 0 [.v (it z)] (.v (it (p10 z))) [] 0 := by
  have := power_does z.toNat (by omega)
  rw [show ((z.toNat : Nat) : Int) = z by omega] at this
  exact this
theorem ofp_does {z : Int} (h1 : z ≤ 12) : Does cE 159 [] 0 [.v (it (p10 z))] (.v (W (p10 z) false)) [] 0 := by
  have hp := p10_le h1
  have ha := ab_spec (p10 z)
  have := rof_does (n := p10 z) (by omega)
  rw [show ab (p10 z) = p10 z by omega, show ng (p10 z) = false from decide_eq_false (by omega)] at this
  exact this
theorem rresc_does {u x sc : Int} (hu : I64 u) (hx : I64 x) (hs : I64 sc) : Does cE 78 [] 0 [.v (dc u x), .v (it sc)] (.v (ans (rescM u x sc))) [] 0 := by
  have hr := rright_does u x
  have hb := ab_bound hu
  unfold rescM
  by_cases hx6 : sc6 x
  · rw [decide_eq_true hx6] at hr
    by_cases h1 : sc < 0
    · rw [if_neg (by omega)]
      exact rresc_2 u x sc true hr rfl (by simpa using h1)
    · by_cases h2 : sc > 6
      · rw [if_neg (by omega)]
        exact rresc_3 u x sc true hr rfl (by simpa using h1) (by simpa using h2)
      · rw [if_pos (by omega)]
        by_cases hge : sc ≥ x
        · rw [if_pos hge]
          have hm := up_mul (z := sc - x) hu (by omega)
          exact rresc_4 (h0 := hr) (h1 := rfl) (h2 := by simpa using h1) (h3 := by simpa using h2) (h4 := by simpa using hge) (h5 := rscl_does hu hx (by omega) (by omega)) (h6 := rback_does hm.1 (by unfold big192; omega) _ _)
        · rw [if_neg hge]
          have hp := p10_le (z := x - sc) (by omega)
          have w : IntKind.i64.wrap (x - sc) = x - sc := wrap64 (by omega) (by omega)
          have hl := rnd_le hb.1 (y := p10 (x - sc)) (by omega)
          have hn := rnd_nonneg hb.1 (y := p10 (x - sc)) (by omega)
          exact rresc_5 (h0 := hr) (h1 := rfl) (h2 := by simpa using h1) (h3 := by simpa using h2) (h4 := by simpa using hge) (h5 := rof_does hu) (h6 := by rw [w]; exact pw_does (by omega) (by omega)) (h7 := ofp_does (by omega)) (h8 := rounded_does (by unfold big192; omega) (by omega) (by unfold big192; omega) (ng u) false) (h9 := rback_does hn (by unfold big192; omega) _ _)
  · rw [decide_eq_false hx6] at hr
    rw [if_neg (by omega)]
    exact rresc_1 u x sc false hr rfl
theorem rsum2_does {u x v y : Int} (hu : I64 u) (hx : I64 x) (hv : I64 v) (hy : I64 y) (hx6 : sc6 x) (hy6 : sc6 y) (t : Bool) :
    Does cE 157 [] 0 [.v (dc u x), .v (it (mx x y))] (.v (W (ab u * p10 (mx x y - x)) (ng u))) [] 0 ∧ Does cE 157 [] 0 [.v (dc v y), .v (it (mx x y))] (.v (W (ab v * p10 (mx x y - y)) (ng v))) [] 0 ∧
    Does cE 179 [] 0 [.v (W (ab u * p10 (mx x y - x)) (ng u)), .v (W (ab v * p10 (mx x y - y)) t)] (.v (W (addM (ab u * p10 (mx x y - x)) (ng u) (ab v * p10 (mx x y - y)) t).1 (addM (ab u * p10 (mx x y - x)) (ng u) (ab v * p10 (mx x y - y)) t).2)) [] 0 ∧
    Does cE 156 [] 0 [.v (W (addM (ab u * p10 (mx x y - x)) (ng u) (ab v * p10 (mx x y - y)) t).1 (addM (ab u * p10 (mx x y - x)) (ng u) (ab v * p10 (mx x y - y)) t).2), .v (it (mx x y))] (.v (ans (fitP (addM (ab u * p10 (mx x y - x)) (ng u) (ab v * p10 (mx x y - y)) t).1 (addM (ab u * p10 (mx x y - x)) (ng u) (ab v * p10 (mx x y - y)) t).2 (mx x y)))) [] 0 := by
  have hmx : mx x y ≤ 6 ∧ x ≤ mx x y ∧ y ≤ mx x y := by unfold mx; split <;> omega
  have m1 := up_mul (z := mx x y - x) hu (by omega)
  have m2 := up_mul (z := mx x y - y) hv (by omega)
  have hb := addM_bound (B := 0) m1.1 m2.1 (ng u) t
  exact ⟨rscl_does hu hx (by omega) (by omega), rscl_does hv hy (by omega) (by omega), rsum_does m1.1 m2.1 (by unfold big192; omega) _ _, rback_does hb.1 (by unfold big192; omega) _ _⟩
theorem radd_does {u x v y : Int} (hu : I64 u) (hx : I64 x) (hv : I64 v) (hy : I64 y) : Does cE 236 [] 0 [.v (dc u x), .v (dc v y)] (.v (ans (sumM u x v y false))) [] 0 := by
  have h1 := rright_does u x
  have h2 := rright_does v y
  unfold sumM
  by_cases hx6 : sc6 x
  · rw [decide_eq_true hx6] at h1
    by_cases hy6 : sc6 y
    · rw [decide_eq_true hy6] at h2
      rw [if_pos ⟨hx6, hy6⟩]
      obtain ⟨a1, a2, a3, a4⟩ := rsum2_does hu hx hv hy hx6 hy6 (ng v)
      have e : (ng v != false) = ng v := by simp
      rw [e]
      exact radd_3 (h0 := h1) (h1 := rfl) (h2 := h2) (h3 := rfl) (h4 := a1) (h5 := a2) (h6 := a3) (h7 := a4)
    · rw [decide_eq_false hy6] at h2
      rw [if_neg (by omega)]
      exact radd_2 u x v y true false h1 rfl h2 rfl
  · rw [decide_eq_false hx6] at h1
    rw [if_neg (by omega)]
    exact radd_1 u x v y false h1 rfl
theorem rsub_does {u x v y : Int} (hu : I64 u) (hx : I64 x) (hv : I64 v) (hy : I64 y) : Does cE 162 [] 0 [.v (dc u x), .v (dc v y)] (.v (ans (sumM u x v y true))) [] 0 := by
  have h1 := rright_does u x
  have h2 := rright_does v y
  unfold sumM
  by_cases hx6 : sc6 x
  · rw [decide_eq_true hx6] at h1
    by_cases hy6 : sc6 y
    · rw [decide_eq_true hy6] at h2
      rw [if_pos ⟨hx6, hy6⟩]
      obtain ⟨a1, a2, a3, a4⟩ := rsum2_does hu hx hv hy hx6 hy6 (!ng v)
      have e : (ng v != true) = !ng v := by simp
      rw [e]
      exact rsub_3 (h0 := h1) (h1 := rfl) (h2 := h2) (h3 := rfl) (h4 := a2) (h5 := a1) (h6 := a3) (h7 := a4)
    · rw [decide_eq_false hy6] at h2
      rw [if_neg (by omega)]
      exact rsub_2 u x v y true false h1 rfl h2 rfl
  · rw [decide_eq_false hx6] at h1
    rw [if_neg (by omega)]
    exact rsub_1 u x v y false h1 rfl
theorem rneg_does {u x : Int} (hu : I64 u) (hx : I64 x) : Does cE 88 [] 0 [.v (dc u x)] (.v (ans (sumM 0 x u x true))) [] 0 :=
  rneg_1 (h0 := rsub_does (by decide) hx hu hx)
theorem rmul_does {u x v y : Int} (hu : I64 u) (hx : I64 x) (hv : I64 v) (hy : I64 y) : Does cE 234 [] 0 [.v (dc u x), .v (dc v y)] (.v (ans (mulM u x v y))) [] 0 := by
  have h1 := rright_does u x
  have h2 := rright_does v y
  have hbu := ab_bound hu
  have hbv := ab_bound hv
  have hm := mul_small hbu hbv
  unfold mulM
  by_cases hx6 : sc6 x
  · rw [decide_eq_true hx6] at h1
    by_cases hy6 : sc6 y
    · rw [decide_eq_true hy6] at h2
      rw [if_pos ⟨hx6, hy6⟩]
      have ht := W_times (x := ab u) (y := ab v) (by unfold big192; omega) (by unfold big192; omega) (by unfold big192; omega) (ng u) (ng v)
      have w1 : IntKind.i64.wrap (x + y) = x + y := wrap64 (by omega) (by omega)
      have w2 : IntKind.i64.wrap (x + y - 6) = x + y - 6 := wrap64 (by omega) (by omega)
      by_cases h6 : x + y > 6
      · rw [if_pos h6]
        have hp := p10_le (z := x + y - 6) (by omega)
        have hl := rnd_le hm.1 (y := p10 (x + y - 6)) (by omega)
        have hn := rnd_nonneg hm.1 (y := p10 (x + y - 6)) (by omega)
        exact rmul_3 (h0 := h1) (h1 := rfl) (h2 := h2) (h3 := rfl) (h4 := rof_does hu) (h5 := rof_does hv) (h6 := ht) (h7 := by rw [w1]; simpa using h6) (h8 := by rw [w1, w2]; exact pw_does (by omega) (by omega)) (h9 := ofp_does (by omega))
          (h10 := rounded_does (by unfold big192; omega) (by omega) (by unfold big192; omega) (ng u != ng v) false) (h11 := rback_does hn (by unfold big192; omega) _ _)
      · rw [if_neg h6]
        have hback := rback_does hm.1 (by unfold big192; omega) (ng u != ng v) (x + y)
        exact rmul_4 (h0 := h1) (h1 := rfl) (h2 := h2) (h3 := rfl) (h4 := rof_does hu) (h5 := rof_does hv) (h6 := ht) (h7 := by rw [w1]; simpa using h6) (h8 := by rw [w1]; exact hback)
    · rw [decide_eq_false hy6] at h2
      rw [if_neg (by omega)]
      exact rmul_2 u x v y true false h1 rfl h2 rfl
  · rw [decide_eq_false hx6] at h1
    rw [if_neg (by omega)]
    exact rmul_1 u x v y false h1 rfl
theorem rdiv_does {u x v y sc : Int} (hu : I64 u) (hx : I64 x) (hv : I64 v) (hy : I64 y) (hs : I64 sc) : Does cE 235 [] 0 [.v (dc u x), .v (dc v y), .v (it sc)] (.v (ans (divM u x v y sc))) [] 0 := by
  have h1 := rright_does u x
  have h2 := rright_does v y
  have hbu := ab_bound hu
  have hbv := ab_bound hv
  unfold divM
  by_cases hx6 : sc6 x
  · rw [decide_eq_true hx6] at h1
    by_cases hy6 : sc6 y
    · rw [decide_eq_true hy6] at h2
      by_cases s1 : sc < 0
      · rw [if_neg (by omega)]
        exact rdiv_3 u x v y sc true true h1 rfl h2 rfl (by simpa using s1)
      · by_cases s2 : sc > 6
        · rw [if_neg (by omega)]
          exact rdiv_4 u x v y sc true true h1 rfl h2 rfl (by simpa using s1) (by simpa using s2)
        · rw [if_pos (by omega)]
          by_cases hv0 : v = 0
          · rw [if_pos hv0]
            exact rdiv_5 u x v y sc true true h1 rfl h2 rfl (by simpa using s1) (by simpa using s2) (by simpa using hv0)
          · rw [if_neg hv0]
            have w1 : IntKind.i64.wrap (y + sc) = y + sc := wrap64 (by omega) (by omega)
            have hp1 := p10_le (z := y + sc) (by omega)
            have hp2 := p10_le (z := x) (by omega)
            have m1 := up_mul (z := y + sc) hu (by omega)
            have m2 := up_mul (z := x) hv (by omega)
            have hpos : 0 < ab v * p10 x := Int.mul_pos (ab_pos hv0) (by omega)
            have hl := rnd_le m1.1 hpos
            have hn := rnd_nonneg m1.1 hpos
            have t1 := W_times (x := ab u) (y := p10 (y + sc)) (by unfold big192; omega) (by unfold big192; omega) (by unfold big192; omega) (ng u) false
            have t2 := W_times (x := ab v) (y := p10 x) (by unfold big192; omega) (by unfold big192; omega) (by unfold big192; omega) (ng v) false
            exact rdiv_6 (h0 := h1) (h1 := rfl) (h2 := h2) (h3 := rfl) (h4 := by simpa using s1) (h5 := by simpa using s2) (h6 := by simpa using hv0) (h7 := rof_does hu) (h8 := by rw [w1]; exact pw_does (by omega) (by omega)) (h9 := ofp_does (by omega)) (h10 := t1)
              (h11 := rof_does hv) (h12 := pw_does (by omega) (by omega)) (h13 := ofp_does (by omega)) (h14 := t2) (h15 := rounded_does (by unfold big192; omega) hpos (by unfold big192; omega) (ng u != ng v) false) (h16 := rback_does hn (by unfold big192; omega) _ _)
    · rw [decide_eq_false hy6] at h2
      rw [if_neg (by omega)]
      exact rdiv_2 u x v y sc true false h1 rfl h2 rfl
  · rw [decide_eq_false hx6] at h1
    rw [if_neg (by omega)]
    exact rdiv_1 u x v y sc false h1 rfl
theorem rcmp_does {u x v y : Int} (hu : I64 u) (hx : I64 x) (hv : I64 v) (hy : I64 y) : Does cE 100 [] 0 [.v (dc u x), .v (dc v y)] (.v (it (cmpM u x v y))) [] 0 := by
  have h1 := rright_does u x
  have h2 := rright_does v y
  unfold cmpM
  by_cases hx6 : sc6 x
  · rw [decide_eq_true hx6] at h1
    by_cases hy6 : sc6 y
    · rw [decide_eq_true hy6] at h2
      rw [if_pos ⟨hx6, hy6⟩]
      have m1 := up_mul (z := 6 - x) hu (by omega)
      have m2 := up_mul (z := 6 - y) hv (by omega)
      have hb := addM_bound (B := 0) m1.1 m2.1 (ng u) (!ng v)
      have hs := rsum_does m1.1 m2.1 (by unfold big192; omega) (ng u) (!ng v)
      have s1 := rscl_does (sc := 6) hu hx (by omega) (by omega)
      have s2 := rscl_does (sc := 6) hv hy (by omega) (by omega)
      generalize addM (ab u * p10 (6 - x)) (ng u) (ab v * p10 (6 - y)) (!ng v) = D at hb hs
      obtain ⟨d, e⟩ := D
      simp only at hb hs ⊢
      have hz := W_zero (x := d) (by unfold big192; omega) e
      by_cases h0 : d = 0
      · rw [if_pos h0]
        rw [decide_eq_true h0] at hz
        exact rcmp_3 (h0 := h1) (h1 := rfl) (h2 := h2) (h3 := rfl) (h4 := s2) (h5 := s1) (h6 := hs) (h7 := hz) (h8 := rfl)
      · rw [if_neg h0]
        rw [decide_eq_false h0] at hz
        cases e with
        | true => exact rcmp_4 (h0 := h1) (h1 := rfl) (h2 := h2) (h3 := rfl) (h4 := s2) (h5 := s1) (h6 := hs) (h7 := hz) (h8 := rfl) (h9 := rfl)
        | false => exact rcmp_5 (h0 := h1) (h1 := rfl) (h2 := h2) (h3 := rfl) (h4 := s2) (h5 := s1) (h6 := hs) (h7 := hz) (h8 := rfl) (h9 := rfl)
    · rw [decide_eq_false hy6] at h2
      rw [if_neg (by omega)]
      exact rcmp_2 u x v y true false h1 rfl h2 rfl
  · rw [decide_eq_false hx6] at h1
    rw [if_neg (by omega)]
    exact rcmp_1 u x v y false h1 rfl
theorem p10_zero : p10 0 = 1 := rfl
theorem sumM0 (u v : Int) : sumM u 0 v 0 false = fitP (addM (ab u) (ng u) (ab v) (ng v)).1 (addM (ab u) (ng u) (ab v) (ng v)).2 0 := by
  have e : (ng v != false) = ng v := by simp
  unfold sumM
  rw [if_pos (by decide), show mx 0 0 = 0 from rfl, show (0 : Int) - 0 = 0 from rfl, p10_zero, Int.mul_one, Int.mul_one, e]
theorem mulM0 (u v : Int) : mulM u 0 v 0 = fitP (ab u * ab v) (ng u != ng v) 0 := by
  unfold mulM
  rw [if_pos (by decide), if_neg (by decide)]
  rfl
theorem raddi_does {u v : Int} (hu : I64 u) (hv : I64 v) : Does cE 233 [] 0 [.v (it u), .v (it v)] (.v (.tuple #[it (sumM u 0 v 0 false).1, it (sumM u 0 v 0 false).2.2])) [] 0 := by
  have hbu := ab_bound hu
  have hbv := ab_bound hv
  have hb := addM_bound (B := 0) hbu.1 hbv.1 (ng u) (ng v)
  rw [sumM0]
  exact raddi_1 (h0 := rof_does hu) (h1 := rof_does hv) (h2 := rsum_does hbu.1 hbv.1 (by unfold big192; omega) _ _) (h3 := rback_does hb.1 (by unfold big192; omega) _ _)
theorem rmuli_does {u v : Int} (hu : I64 u) (hv : I64 v) : Does cE 232 [] 0 [.v (it u), .v (it v)] (.v (.tuple #[it (mulM u 0 v 0).1, it (mulM u 0 v 0).2.2])) [] 0 := by
  have hbu := ab_bound hu
  have hbv := ab_bound hv
  have hm := mul_small hbu hbv
  have ht := W_times (x := ab u) (y := ab v) (by unfold big192; omega) (by unfold big192; omega) (by unfold big192; omega) (ng u) (ng v)
  rw [mulM0]
  exact rmuli_1 (h0 := rof_does hu) (h1 := rof_does hv) (h2 := ht) (h3 := rback_does hm.1 (by unfold big192; omega) (ng u != ng v) 0)
end Go.Proofs.YtnchjdhepakokaaGreatDoorC
/- Each path of each function: on which conditions it is taken, what it gives. Printed by a program (wip/tools/sxexp.lean); Lean checks each. -/
namespace Go.Proofs.YtnchjdhepakokaaGreatDoorGG
open Go.Proofs Go.Proofs.YtnchjdhepakokaaGreatDoorGS1
set_option maxRecDepth 100000
set_option linter.unusedVariables false

theorem turn0_1 (x y z : Int) (b0 : Bool) (h0 : Does Tryz.prog 126 [(.agg #[(.int .i64 (x)), (.int .i64 (y))])] (.bool (b0))) (h1 : (!b0) = true) : Fin Tryz.prog Tryz.f161 (.agg #[(.int .i64 (0)), (.int .i64 (0))]) [.code (bd Tryz.f161)] (argsS [pt x y, it z] Tryz.f161.ntmps) [] :=
  seg_fin (keep := [5, 4, 15, 16]) mixed 400 [.u (.bool (b0)), .t] (by kernel_rfl) (cj h0 (cj h1 cj0))
theorem turn0_2 (x y z : Int) (b0 : Bool) (n1 : Nat) (n2 : Nat) (h0 : Does Tryz.prog 126 [(.agg #[(.int .i64 (x)), (.int .i64 (y))])] (.bool (b0))) (h1 : (!b0) = false) (h2 : Does Tryz.prog 213 [(.agg #[(.int .i64 (x)), (.int .i64 (y))])] (.complex .f64 (n1) (n2))) (v : Value) (hF : Fin Tryz.prog Tryz.f161 v turnK [.x, .x, .x, .x, .p 4 0, .v (.complex .f64 (n1) (n2)), .x, .x, .x, .x, .x, .x, .x, .x, .x, .v (.int .i64 ((IntKind.i64.wrap (z.tmod 4 + 4)).tmod 4)), .v (.int .i64 (0)), .x, .x, .x, .x, .x, .x] [(4, ⟨144, [(.int .i64 (0)), (.int .i64 (0))]⟩)]) : Fin Tryz.prog Tryz.f161 v [.code (bd Tryz.f161)] (argsS [pt x y, it z] Tryz.f161.ntmps) [] :=
  seg_at (keep := [5, 4, 15, 16]) mixed 400 [.u (.bool (b0)), .f, .u (.complex .f64 (n1) (n2)), .l, .l] (by kernel_rfl) (cj h0 (cj h1 (cj h2 cj0))) hF
theorem turn1_1 (x y z u a b : Int) (k l n : Nat) (n0 : Nat) (n1 : Nat) (h0 : decide (u < z) = true) (h1 : Does Tryz.prog 212 [(.complex .f64 (k) (l)), (.complex .f64 (0) (4607182418800017408))] (.complex .f64 (n0) (n1))) (v : Value) (hF : Fin Tryz.prog Tryz.f161 v (inK turnK n) [.x, .x, .x, .x, .p 4 0, .v (.complex .f64 (n0) (n1)), .x, .x, .x, .x, .x, .x, .x, .x, .x, .v (.int .i64 (z)), .v (.int .i64 (IntKind.i64.wrap (u + 1))), .x, .x, .x, .x, .x, .x] [(4, ⟨144, [(.int .i64 (a)), (.int .i64 (b))]⟩)]) : Fin Tryz.prog Tryz.f161 v (bodyK turnK n) [.x, .x, .x, .x, .p 4 0, .v (cx k l), .x, .x, .x, .x, .x, .x, .x, .x, .x, .v (it z), .v (it u), .x, .x, .x, .x, .x, .x] [(4, ⟨144, [it a, it b]⟩)] :=
  seg_at (keep := [5, 4, 15, 16]) mixed 400 [.t, .u (.complex .f64 (n0) (n1))] (by kernel_rfl) (cj h0 (cj h1 cj0)) hF
theorem turn1_2 (x y z u a b : Int) (k l n : Nat) (i0 : Int) (i1 : Int) (h0 : decide (u < z) = false) (h1 : Does Tryz.prog 219 [(.complex .f64 (k) (l))] (.agg #[(.int .i64 (i0)), (.int .i64 (i1))])) : Fin Tryz.prog Tryz.f161 (.agg #[(.int .i64 (i0)), (.int .i64 (i1))]) (bodyK turnK n) [.x, .x, .x, .x, .p 4 0, .v (cx k l), .x, .x, .x, .x, .x, .x, .x, .x, .x, .v (it z), .v (it u), .x, .x, .x, .x, .x, .x] [(4, ⟨144, [it a, it b]⟩)] :=
  seg_fin (keep := [5, 4, 15, 16]) mixed 400 [.f, .u (.agg #[(.int .i64 (i0)), (.int .i64 (i1))])] (by kernel_rfl) (cj h0 (cj h1 cj0))
theorem rturn0_1 (x y z : Int) (b0 : Bool) (h0 : Does Tryz.prog 75 [(.agg #[(.int .i64 (x)), (.int .i64 (y))])] (.bool (b0))) (h1 : (!b0) = true) : Fin Tryz.prog Tryz.f89 (.agg #[(.int .i64 (0)), (.int .i64 (0))]) [.code (bd Tryz.f89)] (argsS [pt x y, it z] Tryz.f89.ntmps) [] :=
  seg_fin (keep := [1, 2, 4, 5]) mixed 400 [.u (.bool (b0)), .t] (by kernel_rfl) (cj h0 (cj h1 cj0))
theorem rturn0_2 (x y z : Int) (b0 : Bool) (h0 : Does Tryz.prog 75 [(.agg #[(.int .i64 (x)), (.int .i64 (y))])] (.bool (b0))) (h1 : (!b0) = false) (v : Value) (hF : Fin Tryz.prog Tryz.f89 v rturnK [.x, .v (.int .i64 (z)), .p 2 0, .x, .p 4 0, .v (.int .i64 (0)), .x, .x, .x, .x, .x, .x, .x, .x, .x, .x, .x, .x, .x, .x, .x, .x, .x, .x, .x] [(2, ⟨103, [(.int .i64 (x)), (.int .i64 (y))]⟩), (4, ⟨103, [(.int .i64 (0)), (.int .i64 (0))]⟩)]) : Fin Tryz.prog Tryz.f89 v [.code (bd Tryz.f89)] (argsS [pt x y, it z] Tryz.f89.ntmps) [] :=
  seg_at (keep := [1, 2, 4, 5]) mixed 400 [.u (.bool (b0)), .f] (by kernel_rfl) (cj h0 (cj h1 cj0)) hF
theorem rturn1_1 (x y z u a b : Int) (n : Nat) (h0 : decide (u < (IntKind.i64.wrap (z.tmod 4 + 4)).tmod 4) = true) (v : Value) (hF : Fin Tryz.prog Tryz.f89 v (inK rturnK n) [.x, .v (.int .i64 (z)), .p 2 0, .x, .p 4 0, .v (.int .i64 (IntKind.i64.wrap (u + 1))), .x, .x, .x, .x, .x, .x, .x, .x, .x, .x, .x, .x, .x, .x, .x, .x, .x, .x, .x] [(2, ⟨103, [(.int .i64 (IntKind.i64.wrap (0 - y))), (.int .i64 (x))]⟩), (4, ⟨103, [(.int .i64 (a)), (.int .i64 (b))]⟩)]) : Fin Tryz.prog Tryz.f89 v (bodyK rturnK n) [.x, .v (it z), .p 2 0, .x, .p 4 0, .v (it u), .x, .x, .x, .x, .x, .x, .x, .x, .x, .x, .x, .x, .x, .x, .x, .x, .x, .x, .x] [(2, ⟨103, [it x, it y]⟩), (4, ⟨103, [it a, it b]⟩)] :=
  seg_at (keep := [1, 2, 4, 5]) mixed 400 [.l, .l, .t] (by kernel_rfl) (cj h0 cj0) hF
theorem rturn1_2 (x y z u a b : Int) (n : Nat) (h0 : decide (u < (IntKind.i64.wrap (z.tmod 4 + 4)).tmod 4) = false) : Fin Tryz.prog Tryz.f89 (.agg #[(.int .i64 (x)), (.int .i64 (y))]) (bodyK rturnK n) [.x, .v (it z), .p 2 0, .x, .p 4 0, .v (it u), .x, .x, .x, .x, .x, .x, .x, .x, .x, .x, .x, .x, .x, .x, .x, .x, .x, .x, .x] [(2, ⟨103, [it x, it y]⟩), (4, ⟨103, [it a, it b]⟩)] :=
  seg_fin (keep := [1, 2, 4, 5]) mixed 400 [.l, .l, .f] (by kernel_rfl) (cj h0 cj0)
theorem near0_1 (k l : Nat) (n0 : Nat) (n1 : Nat) (h0 : Go.floatBits Go.BinOp.quo .f64 k l = some n0) (h1 : Does Tryz.prog 298 [(.float .f64 (n0))] (.float .f64 (n1))) (v : Value) (hF : Fin Tryz.prog Tryz.f265 v nearA [.v (.float .f64 (k)), .v (.float .f64 (l)), .x, .x, .x, .v (.float .f64 (n1)), .x, .x, .x, .x, .x, .x, .x, .x, .x, .x, .x, .x, .x, .x, .x, .x, .x, .x, .x, .x, .x, .x, .x, .x, .x, .x, .x, .x, .x, .x] []) : Fin Tryz.prog Tryz.f265 v [.code (bd Tryz.f265)] (argsS [fl k, fl l] Tryz.f265.ntmps) [] :=
  seg_at (keep := [0, 1, 5]) mixed 400 [.n n0, .u (.float .f64 (n1))] (by kernel_rfl) (cj h0 (cj h1 cj0)) hF
theorem near1_1 (k l m n : Nat) (n0 : Nat) (n1 : Nat) (h0 : Go.floatBits Go.BinOp.mul .f64 m l = some n0) (h1 : (FloatKind.f64.format.order n0 k == some Ordering.gt) = true) (h2 : Go.floatBits Go.BinOp.sub .f64 m 4607182418800017408 = some n1) (v : Value) (hF : Fin Tryz.prog Tryz.f265 v (inK nearA n) [.v (.float .f64 (k)), .v (.float .f64 (l)), .x, .x, .x, .v (.float .f64 (n1)), .x, .x, .x, .x, .x, .x, .x, .x, .x, .x, .x, .x, .x, .x, .x, .x, .x, .x, .x, .x, .x, .x, .x, .x, .x, .x, .x, .x, .x, .x] []) : Fin Tryz.prog Tryz.f265 v (bodyK nearA n) ([.v (fl k), .v (fl l), .x, .x, .x, .v (fl m)] ++ List.replicate 30 .x) [] :=
  seg_at (keep := [0, 1, 5]) mixed 400 [.n n0, .t, .n n1] (by kernel_rfl) (cj h0 (cj h1 (cj h2 cj0))) hF
theorem near1_2 (k l m n : Nat) (n0 : Nat) (h0 : Go.floatBits Go.BinOp.mul .f64 m l = some n0) (h1 : (FloatKind.f64.format.order n0 k == some Ordering.gt) = false) (v : Value) (hF : Fin Tryz.prog Tryz.f265 v nearB [.v (.float .f64 (k)), .v (.float .f64 (l)), .x, .x, .x, .v (.float .f64 (m)), .x, .x, .x, .x, .x, .x, .x, .x, .x, .x, .x, .x, .x, .x, .x, .x, .x, .x, .x, .x, .x, .x, .x, .x, .x, .x, .x, .x, .x, .x] []) : Fin Tryz.prog Tryz.f265 v (bodyK nearA n) ([.v (fl k), .v (fl l), .x, .x, .x, .v (fl m)] ++ List.replicate 30 .x) [] :=
  seg_at (keep := [0, 1, 5]) mixed 400 [.n n0, .f] (by kernel_rfl) (cj h0 (cj h1 cj0)) hF
theorem near2_1 (k l m n : Nat) (n0 : Nat) (n1 : Nat) (n2 : Nat) (h0 : Go.floatBits Go.BinOp.add .f64 m 4607182418800017408 = some n0) (h1 : Go.floatBits Go.BinOp.mul .f64 n0 l = some n1) (h2 : (FloatKind.f64.format.order n1 k == some Ordering.lt || FloatKind.f64.format.order n1 k == some Ordering.eq) = true) (h3 : Go.floatBits Go.BinOp.add .f64 m 4607182418800017408 = some n2) (v : Value) (hF : Fin Tryz.prog Tryz.f265 v (inK nearB n) [.v (.float .f64 (k)), .v (.float .f64 (l)), .x, .x, .x, .v (.float .f64 (n2)), .x, .x, .x, .x, .x, .x, .x, .x, .x, .x, .x, .x, .x, .x, .x, .x, .x, .x, .x, .x, .x, .x, .x, .x, .x, .x, .x, .x, .x, .x] []) : Fin Tryz.prog Tryz.f265 v (bodyK nearB n) ([.v (fl k), .v (fl l), .x, .x, .x, .v (fl m)] ++ List.replicate 30 .x) [] :=
  seg_at (keep := [0, 1, 5]) mixed 400 [.n n0, .n n1, .t, .n n2] (by kernel_rfl) (cj h0 (cj h1 (cj h2 (cj h3 cj0)))) hF
theorem near2_2 (k l m n : Nat) (n0 : Nat) (n1 : Nat) (n2 : Nat) (n3 : Nat) (n4 : Nat) (n5 : Nat) (h0 : Go.floatBits Go.BinOp.add .f64 m 4607182418800017408 = some n0) (h1 : Go.floatBits Go.BinOp.mul .f64 n0 l = some n1) (h2 : (FloatKind.f64.format.order n1 k == some Ordering.lt || FloatKind.f64.format.order n1 k == some Ordering.eq) = false) (h3 : Go.floatBits Go.BinOp.mul .f64 m l = some n2) (h4 : Go.floatBits Go.BinOp.sub .f64 k n2 = some n3) (h5 : Go.floatBits Go.BinOp.mul .f64 4611686018427387904 n3 = some n4) (h6 : (FloatKind.f64.format.order n4 l == some Ordering.gt || FloatKind.f64.format.order n4 l == some Ordering.eq) = true) (h7 : Go.floatBits Go.BinOp.add .f64 m 4607182418800017408 = some n5) : Fin Tryz.prog Tryz.f265 (.float .f64 (n5)) (bodyK nearB n) ([.v (fl k), .v (fl l), .x, .x, .x, .v (fl m)] ++ List.replicate 30 .x) [] :=
  seg_fin (keep := [0, 1, 5]) mixed 400 [.n n0, .n n1, .f, .n n2, .n n3, .n n4, .t, .n n5] (by kernel_rfl) (cj h0 (cj h1 (cj h2 (cj h3 (cj h4 (cj h5 (cj h6 (cj h7 cj0))))))))
theorem near2_3 (k l m n : Nat) (n0 : Nat) (n1 : Nat) (n2 : Nat) (n3 : Nat) (n4 : Nat) (h0 : Go.floatBits Go.BinOp.add .f64 m 4607182418800017408 = some n0) (h1 : Go.floatBits Go.BinOp.mul .f64 n0 l = some n1) (h2 : (FloatKind.f64.format.order n1 k == some Ordering.lt || FloatKind.f64.format.order n1 k == some Ordering.eq) = false) (h3 : Go.floatBits Go.BinOp.mul .f64 m l = some n2) (h4 : Go.floatBits Go.BinOp.sub .f64 k n2 = some n3) (h5 : Go.floatBits Go.BinOp.mul .f64 4611686018427387904 n3 = some n4) (h6 : (FloatKind.f64.format.order n4 l == some Ordering.gt || FloatKind.f64.format.order n4 l == some Ordering.eq) = false) : Fin Tryz.prog Tryz.f265 (.float .f64 (m)) (bodyK nearB n) ([.v (fl k), .v (fl l), .x, .x, .x, .v (fl m)] ++ List.replicate 30 .x) [] :=
  seg_fin (keep := [0, 1, 5]) mixed 400 [.n n0, .n n1, .f, .n n2, .n n3, .n n4, .f] (by kernel_rfl) (cj h0 (cj h1 (cj h2 (cj h3 (cj h4 (cj h5 (cj h6 cj0)))))))
end Go.Proofs.YtnchjdhepakokaaGreatDoorGG
/- Turns; the document's sums; what 'knows' knows. -/
namespace Go.Proofs.YtnchjdhepakokaaGreatDoorGG
open Go.Proofs Go.Proofs.YtnchjdhepakokaaGreatDoorGS1 Go.Fl
set_option maxRecDepth 100000
theorem wr {n : Int} (h0 : -9223372036854775808 ≤ n) (h1 : n ≤ 9223372036854775807) : IntKind.i64.wrap n = n := by
  rw [IntKind.wrap_i64]
  omega
def rotN : Nat → Int × Int → Int × Int
  | 0, p => p
  | n + 1, p => rotN n (-p.2, p.1)
abbrev ptp (p : Int × Int) : Value := pt p.1 p.2
theorem fl_one : Fl 4607182418800017408 1 := by
  have := fl_ofInt 1 (by decide)
  have e : floatOfInt .f64 1 = 4607182418800017408 := by decide +kernel
  rwa [e] at this
theorem fl_nil : Fl 0 0 := by
  have := fl_ofInt 0 (by decide)
  have e : floatOfInt .f64 0 = 0 := by decide +kernel
  rwa [e] at this
theorem product_i {k l : Nat} {x y : Int} (hk : Fl k x) (hl : Fl l y) (hx : x.natAbs ≤ 1048576) (hy : y.natAbs ≤ 1048576) : ∃ a b, Does Tryz.prog 212 [cx k l, cx 0 4607182418800017408] (cx a b) ∧ Fl a (-y) ∧ Fl b x := by
  obtain ⟨a, b, h, fa, fb⟩ := product_spec hk hl fl_nil fl_one (by omega) (by omega) (by omega) (by omega)
  refine ⟨a, b, h, ?_, ?_⟩
  · have : x * 0 - y * 1 = -y := by omega
    rwa [this] at fa
  · have : x * 1 + y * 0 = x := by omega
    rwa [this] at fb
theorem turn_loop (r : Nat) : ∀ (X Y a b z u : Int) (k l n : Nat), Fl k X → Fl l Y → X.natAbs ≤ 1048576 → Y.natAbs ≤ 1048576 → z - u = r → 0 ≤ u → z ≤ 4 → r < n →
    Fin Tryz.prog Tryz.f161 (ptp (rotN r (X, Y))) (inK turnK n) [.x, .x, .x, .x, .p 4 0, .v (cx k l), .x, .x, .x, .x, .x, .x, .x, .x, .x, .v (it z), .v (it u), .x, .x, .x, .x, .x, .x] [(4, ⟨144, [it a, it b]⟩)] := by
  induction r with
  | zero =>
    intro X Y a b z u k l n hk hl hX hY hr hu hz hn
    obtain ⟨n, rfl⟩ : ∃ m, n = m + 1 := ⟨n - 1, by omega⟩
    refine fin_round ?_
    exact turn1_2 X Y z u a b k l n X Y (by simp; omega) (of_spec hk hl (by omega) (by omega))
  | succ r ih =>
    intro X Y a b z u k l n hk hl hX hY hr hu hz hn
    obtain ⟨n, rfl⟩ : ∃ m, n = m + 1 := ⟨n - 1, by omega⟩
    refine fin_round ?_
    obtain ⟨c, d, h, fc, fd⟩ := product_i hk hl hX hY
    refine turn1_1 X Y z u a b k l n c d (by simp; omega) h _ ?_
    rw [wr (by omega) (by omega)]
    exact ih (-Y) X a b z (u + 1) c d n fc fd (by omega) hX (by omega) (by omega) hz (by omega)
/-- How many turns. -/
def times (n : Int) : Nat := ((n.tmod 4 + 4).tmod 4).toNat
theorem tmod_eq (n : Int) : (0 ≤ n → n.tmod 4 = n % 4) ∧ (n ≤ 0 → n.tmod 4 = -((-n) % 4)) := by
  refine ⟨fun h => Int.tmod_eq_emod_of_nonneg h, fun h => ?_⟩
  have h1 := Int.neg_tmod (a := -n) (b := 4)
  have h2 : (-n).tmod 4 = (-n) % 4 := Int.tmod_eq_emod_of_nonneg (by omega)
  rw [Int.neg_neg, h2] at h1
  exact h1
theorem times_lt (n : Int) : 0 ≤ (n.tmod 4 + 4).tmod 4 ∧ (n.tmod 4 + 4).tmod 4 < 4 ∧ -4 < n.tmod 4 ∧ n.tmod 4 < 4 := by
  have h1 := tmod_eq n
  have h2 := tmod_eq (n.tmod 4 + 4)
  omega
theorem Turn_spec (x y n : Int) : Does Tryz.prog 161 [pt x y, it n] (bif rt x y then ptp (rotN (times n) (x, y)) else pt 0 0) := by
  refine does_of_fin (fn := Tryz.f161) (c := bd Tryz.f161) rfl (by kernel_rfl) rfl ?_
  cases h1 : rt x y with
  | false => exact turn0_1 x y n false (h1 ▸ Right_spec x y) rfl
  | true =>
    obtain ⟨a, b, e1, fa, fb⟩ := z_spec h1
    refine turn0_2 x y n true a b (h1 ▸ Right_spec x y) rfl e1 _ (fin_loop 5 ?_)
    have := times_lt n
    rw [rt_iff] at h1
    rw [wr (by omega) (by omega)]
    exact turn_loop (times n) x y 0 0 _ 0 a b 5 fa fb (by omega) (by omega) (by unfold times; omega) (by omega) (by omega) (by unfold times; omega)
theorem answer_spec (x y : Int) : Does Tryz.prog 267 [pt x y] (bif rt x y then pe x y 0 else pe 0 0 32) := by
  cases h1 : rt x y with
  | false => exact answer_1 x y false (h1 ▸ rRight_spec x y) rfl
  | true => exact answer_2 x y true (h1 ▸ rRight_spec x y) rfl
theorem rAdd_spec (x y z u : Int) : Does Tryz.prog 238 [pt x y, pt z u] (ans x y z u (x + z) (y + u)) := by
  unfold ans
  cases h1 : rt x y with
  | false => exact rAdd_1 x y z u false (h1 ▸ rRight_spec x y) rfl
  | true =>
    cases h2 : rt z u with
    | false => exact rAdd_2 x y z u true false (h1 ▸ rRight_spec x y) rfl (h2 ▸ rRight_spec z u) rfl
    | true =>
      have b1 := rt_iff.1 h1
      have b2 := rt_iff.1 h2
      have h := answer_spec (x + z) (y + u)
      have w1 : IntKind.i64.wrap (x + z) = x + z := wr (by omega) (by omega)
      have w2 : IntKind.i64.wrap (y + u) = y + u := wr (by omega) (by omega)
      have r := fun a b c hh => rAdd_3 x y z u true true a b c (h1 ▸ rRight_spec x y) rfl (h2 ▸ rRight_spec z u) rfl hh
      rw [w1, w2] at r
      revert h
      cases rt (x + z) (y + u) <;> exact fun h => r _ _ _ h
theorem rSub_spec (x y z u : Int) : Does Tryz.prog 239 [pt x y, pt z u] (ans x y z u (x - z) (y - u)) := by
  unfold ans
  cases h1 : rt x y with
  | false => exact rSub_1 x y z u false (h1 ▸ rRight_spec x y) rfl
  | true =>
    cases h2 : rt z u with
    | false => exact rSub_2 x y z u true false (h1 ▸ rRight_spec x y) rfl (h2 ▸ rRight_spec z u) rfl
    | true =>
      have b1 := rt_iff.1 h1
      have b2 := rt_iff.1 h2
      have h := answer_spec (x - z) (y - u)
      have w1 : IntKind.i64.wrap (x - z) = x - z := wr (by omega) (by omega)
      have w2 : IntKind.i64.wrap (y - u) = y - u := wr (by omega) (by omega)
      have r := fun a b c hh => rSub_3 x y z u true true a b c (h1 ▸ rRight_spec x y) rfl (h2 ▸ rRight_spec z u) rfl hh
      rw [w1, w2] at r
      revert h
      cases rt (x - z) (y - u) <;> exact fun h => r _ _ _ h
theorem rMul_spec (x y z u : Int) : Does Tryz.prog 237 [pt x y, pt z u] (ans x y z u (x * z - y * u) (x * u + y * z)) := by
  unfold ans
  cases h1 : rt x y with
  | false => exact rMul_1 x y z u false (h1 ▸ rRight_spec x y) rfl
  | true =>
    cases h2 : rt z u with
    | false => exact rMul_2 x y z u true false (h1 ▸ rRight_spec x y) rfl (h2 ▸ rRight_spec z u) rfl
    | true =>
      have b1 := rt_iff.1 h1
      have b2 := rt_iff.1 h2
      have a1 := cmul_bound (x := x) (y := z) (by omega) (by omega)
      have a2 := cmul_bound (x := y) (y := u) (by omega) (by omega)
      have a3 := cmul_bound (x := x) (y := u) (by omega) (by omega)
      have a4 := cmul_bound (x := y) (y := z) (by omega) (by omega)
      have h := answer_spec (x * z - y * u) (x * u + y * z)
      have r := fun a b c hh => rMul_3 x y z u true true a b c (h1 ▸ rRight_spec x y) rfl (h2 ▸ rRight_spec z u) rfl hh
      rw [wr (n := x * z) (by omega) (by omega), wr (n := y * u) (by omega) (by omega), wr (n := x * u) (by omega) (by omega), wr (n := y * z) (by omega) (by omega),
        wr (n := x * z - y * u) (by omega) (by omega), wr (n := x * u + y * z) (by omega) (by omega)] at r
      revert h
      cases rt (x * z - y * u) (x * u + y * z) <;> exact fun h => r _ _ _ h
end Go.Proofs.YtnchjdhepakokaaGreatDoorGG
/- Norms, conjugates. -/
namespace Go.Proofs.YtnchjdhepakokaaGreatDoorGG
open Go.Proofs Go.Proofs.YtnchjdhepakokaaGreatDoorGS1 Go.Fl Ieee
set_option maxRecDepth 100000
theorem neg_parts (x : Nat) : (x ^^^ 2 ^ 63) % 2 ^ 63 = x % 2 ^ 63 ∧ ((x ^^^ 2 ^ 63) / 2 ^ 63 % 2 == 1) = !(x / 2 ^ 63 % 2 == 1) := by
  constructor
  · rw [Nat.xor_mod_two_pow]
    simp
  · rw [Nat.xor_div_two_pow]
    have h1 : 2 ^ 63 / 2 ^ 63 = 1 := by decide
    rw [h1]
    have h2 : (x / 2 ^ 63 ^^^ 1) % 2 = (x / 2 ^ 63 % 2) ^^^ 1 := by
      have := Nat.xor_mod_two_pow (a := x / 2 ^ 63) (b := 1) (n := 1)
      simpa using this
    rw [h2]
    rcases Nat.mod_two_eq_zero_or_one (x / 2 ^ 63) with h | h <;> rw [h] <;> rfl
theorem read_neg {x : Nat} {s : Bool} {m : Nat} {e : Int} (h : double.read x = .number s m e) : double.read (Op.negFloat .f64 x) = .number (!s) m e := by
  have h1 := neg_parts x
  have e0 : Op.negFloat .f64 x = x ^^^ 2 ^ 63 := rfl
  rw [e0]
  unfold Format.read at h ⊢
  rw [signW] at h ⊢
  have e1 : (9223372036854775808 : Nat) = 2 ^ 63 := by decide
  rw [e1] at h ⊢
  simp only [h1.1, h1.2]
  simp only at h
  split at h
  · rename_i hc
    rw [if_pos hc]
    simp only [Datum.number.injEq] at h ⊢
    exact ⟨by rw [h.1], h.2⟩
  · rename_i hc
    rw [if_neg hc]
    split at h
    · rename_i hd
      rw [if_pos hd]
      simp only [Datum.number.injEq] at h ⊢
      exact ⟨by rw [h.1], h.2⟩
    · split at h <;> cases h
theorem fl_neg {x : Nat} {n : Int} (hx : Fl x n) : Fl (Op.negFloat .f64 x) (-n) := by
  obtain ⟨s, m, e, h1, h2⟩ := hx
  exact ⟨!s, m, e, read_neg h1, core_neg h2⟩
theorem conj_spec {k l : Nat} {x y : Int} (hk : Fl k x) (hl : Fl l y) : ∃ a b, Does Tryz.prog 214 [cx k l] (cx a b) ∧ Fl a x ∧ Fl b (-y) := ⟨_, _, conj_1 k l, hk, fl_neg hl⟩
def nrm (x y : Int) : Int := bif rt x y then x * x + y * y else 0
theorem Norm_spec (x y : Int) : Does Tryz.prog 150 [pt x y] (it (nrm x y)) := by
  unfold nrm
  cases h1 : rt x y with
  | false => exact Norm_1 x y false (h1 ▸ Right_spec x y) rfl
  | true =>
    obtain ⟨a, b, e1, fa, fb⟩ := z_spec h1
    obtain ⟨c, d, e2, fc, fd⟩ := conj_spec fa fb
    have h2 := rt_iff.1 h1
    have a1 := cmul_bound (x := x) (y := x) (by omega) (by omega)
    have a2 := cmul_bound (x := y) (y := -y) (by omega) (by omega)
    have a3 := cmul_bound (x := x) (y := -y) (by omega) (by omega)
    have a4 := cmul_bound (x := y) (y := x) (by omega) (by omega)
    obtain ⟨e, f, e3, fe, ff⟩ := product_spec fa fb fc fd (by omega) (by omega) (by omega) (by omega)
    have e4 : x * x - y * -y = x * x + y * y := by rw [Int.mul_neg]; omega
    rw [e4] at fe
    have a5 := cmul_bound (x := y) (y := y) (by omega) (by omega)
    exact Norm_2 x y true a b a b c d e f (x * x + y * y) (h1 ▸ Right_spec x y) rfl e1 e1 e2 e3 (fl_int fe (by omega) (by omega))
theorem rNorm_spec (x y : Int) : Does Tryz.prog 73 [pt x y] (it (nrm x y)) := by
  unfold nrm
  cases h1 : rt x y with
  | false => exact rNorm_1 x y false (h1 ▸ rRight_spec x y) rfl
  | true =>
    have h2 := rt_iff.1 h1
    have a1 := cmul_bound (x := x) (y := x) (by omega) (by omega)
    have a2 := cmul_bound (x := y) (y := y) (by omega) (by omega)
    have h := rNorm_2 x y true (h1 ▸ rRight_spec x y) rfl
    rw [wr (n := x * x) (by omega) (by omega), wr (n := y * y) (by omega) (by omega), wr (by omega) (by omega)] at h
    exact h
end Go.Proofs.YtnchjdhepakokaaGreatDoorGG
/- Quotients of whole numbers in binary floating point, and their floors: bounds. -/
namespace Go.Fl
open Ieee
theorem read_word2 (neg : Bool) (q kept : Nat) (hq : q ≤ 2000) (h1 : 4503599627370496 ≤ kept) (h2 : kept < 9007199254740992) :
    double.read (double.word neg (min (q * double.binade + kept) double.infRung)) = .number neg kept ((q : Int) - 1074) := by
  have hm : min (q * double.binade + kept) double.infRung = q * 4503599627370496 + kept := by
    rw [bin, infR]
    omega
  rw [hm]
  have hdiv : (q * 4503599627370496 + kept) / 4503599627370496 = q + 1 := by omega
  have hmod : (q * 4503599627370496 + kept) % 4503599627370496 = kept - 4503599627370496 := by omega
  unfold Format.read Format.word
  simp only [signW, bin, infR, least]
  cases neg
  · have a1 : ((q * 4503599627370496 + kept) / 9223372036854775808 % 2 == 1) = false := by
      rw [beq_eq_false_iff_ne]
      omega
    have a2 : (q * 4503599627370496 + kept) % 9223372036854775808 = q * 4503599627370496 + kept := by omega
    simp only [Bool.false_eq_true, if_false, a1, a2, hdiv, hmod]
    rw [if_neg (by omega), if_pos (by omega)]
    rw [show 4503599627370496 + (kept - 4503599627370496) = kept by omega, show (-1074 : Int) + ((q + 1 - 1 : Nat) : Int) = (q : Int) - 1074 by omega]
  · have a1 : ((9223372036854775808 + (q * 4503599627370496 + kept)) / 9223372036854775808 % 2 == 1) = true := by
      rw [beq_iff_eq]
      omega
    have a2 : (9223372036854775808 + (q * 4503599627370496 + kept)) % 9223372036854775808 = q * 4503599627370496 + kept := by
      rw [Nat.add_mod_left]
      exact Nat.mod_eq_of_lt (by omega)
    simp only [if_true, a1, a2, hdiv, hmod]
    rw [if_neg (by omega), if_pos (by omega)]
    rw [show 4503599627370496 + (kept - 4503599627370496) = kept by omega, show (-1074 : Int) + ((q + 1 - 1 : Nat) : Int) = (q : Int) - 1074 by omega]
/-- The same where the last digit carried all through. -/
theorem read_word3 (neg : Bool) (q kept : Nat) (hq : q < 2000) (h1 : 4503599627370496 ≤ kept) (h2 : kept ≤ 9007199254740992) :
    ∃ m e, double.read (double.word neg (min (q * double.binade + kept) double.infRung)) = .number neg m e ∧ -1074 ≤ e ∧ m * 2 ^ (e + 1074).toNat = kept * 2 ^ q := by
  rcases Nat.lt_or_eq_of_le h2 with h | h
  · refine ⟨kept, (q : Int) - 1074, read_word2 neg q kept (by omega) h1 h, by omega, ?_⟩
    rw [show ((q : Int) - 1074 + 1074).toNat = q by omega]
  · subst h
    refine ⟨4503599627370496, ((q + 1 : Nat) : Int) - 1074, ?_, by omega, ?_⟩
    · have h3 := read_word2 neg (q + 1) 4503599627370496 (by omega) (by omega) (by omega)
      have h4 : q * double.binade + 9007199254740992 = (q + 1) * double.binade + 4503599627370496 := by
        rw [bin]
        omega
      rw [h4]
      exact h3
    · rw [show (((q + 1 : Nat) : Int) - 1074 + 1074).toNat = q + 1 by omega, Nat.pow_succ]
      omega
/-- A number written is at most twice what it was. -/
theorem nearest_le (neg : Bool) (mag : Nat) (place : Int) (hL : 52 ≤ mag.log2) (hp : -1074 ≤ place) (hq : place + mag.log2 ≤ 900) :
    ∃ m e, double.read (double.nearest neg mag place) = .number neg m e ∧ -1074 ≤ e ∧ m * 2 ^ (e + 1074).toNat ≤ 2 * mag * 2 ^ (place + 1074).toNat := by
  have hmag : mag ≠ 0 := by
    intro h
    subst h
    simp at hL
  obtain ⟨L, hLL⟩ : ∃ L, L = mag.log2 := ⟨_, rfl⟩
  have l1 : 2 ^ L ≤ mag := by rw [hLL]; exact Nat.log2_self_le (by omega)
  have l2 : mag < 2 ^ (L + 1) := by rw [hLL]; exact Nat.lt_log2_self
  rw [← hLL] at hL hq
  obtain ⟨d, hd⟩ : ∃ d, L = d + 52 := ⟨L - 52, by omega⟩
  subst hd
  have p52 : (2 : Nat) ^ 52 = 4503599627370496 := by decide
  have hlow1 : 4503599627370496 ≤ mag / 2 ^ d := by
    rw [Nat.le_div_iff_mul_le (pow_pos d), ← p52, ← Nat.pow_add, Nat.add_comm]
    exact l1
  have hlow2 : mag / 2 ^ d < 9007199254740992 := by
    rw [Nat.div_lt_iff_lt_mul (pow_pos d)]
    have : (2 : Nat) ^ (d + 52 + 1) = 9007199254740992 * 2 ^ d := by
      rw [show d + 52 + 1 = 53 + d by omega, Nat.pow_add]
    omega
  unfold Format.nearest
  rw [if_neg hmag]
  have hf : (double.fractionBits : Int) = 52 := by rfl
  have hlast : max (place + (mag.log2 : Int) - double.fractionBits) double.leastPlace = place + d := by
    rw [hf, least, ← hLL]
    omega
  simp only [hlast]
  have e1 : (place - (place + (d : Int))).toNat = 0 := by omega
  have e2 : (place + (d : Int) - place).toNat = d := by omega
  rw [e1, e2, Nat.shiftLeft_zero]
  have hcut : ∃ b : Nat, b ≤ 1 ∧ Toward.even.cut neg mag d = mag / 2 ^ d + b := by
    unfold Toward.cut
    rw [← hLL, Nat.min_eq_left (by omega), Nat.one_shiftLeft]
    exact ⟨_, Bool.toNat_le _, rfl⟩
  obtain ⟨b, hb, hcut⟩ := hcut
  rw [hcut, least]
  have e3 : (place + (d : Int) - -1074).toNat = (place + 1074).toNat + d := by omega
  rw [e3]
  obtain ⟨m, e, h1, h2, h3⟩ := read_word3 neg ((place + 1074).toNat + d) (mag / 2 ^ d + b) (by omega) (by omega) (by omega)
  refine ⟨m, e, h1, h2, ?_⟩
  rw [h3, Nat.pow_add, Nat.mul_comm (2 ^ (place + 1074).toNat), ← Nat.mul_assoc]
  refine Nat.mul_le_mul_right _ ?_
  have h4 : mag / 2 ^ d * 2 ^ d ≤ mag := Nat.div_mul_le_self _ _
  have h5 : 2 ^ d ≤ mag := by
    have : 1 * 2 ^ d ≤ mag / 2 ^ d * 2 ^ d := Nat.mul_le_mul_right _ (by omega)
    omega
  have h6 : (mag / 2 ^ d + b) * 2 ^ d = mag / 2 ^ d * 2 ^ d + b * 2 ^ d := Nat.add_mul _ _ _
  have h7 : b * 2 ^ d ≤ 1 * 2 ^ d := Nat.mul_le_mul_right _ hb
  omega
/-- A floor is at most the number, and one. -/
theorem down_le (s : Bool) (n drop : Nat) : (Toward.down.cut s n drop - 1) * 2 ^ drop ≤ n := by
  unfold Toward.cut
  simp only [Nat.one_shiftLeft]
  generalize hc : (s && n % 2 ^ min drop (n.log2 + 2) != 0).toNat = c
  have hb : c ≤ 1 := by rw [← hc]; exact Bool.toNat_le _
  rcases Nat.le_total drop (n.log2 + 2) with h | h
  · rw [Nat.min_eq_left h]
    have h1 : n / 2 ^ drop + c - 1 ≤ n / 2 ^ drop := Nat.le_trans (Nat.sub_le_sub_right (Nat.add_le_add_left hb _) 1) (by rw [Nat.add_sub_cancel]; exact Nat.le_refl _)
    exact Nat.le_trans (Nat.mul_le_mul_right _ h1) (Nat.div_mul_le_self _ _)
  · rw [Nat.min_eq_right h]
    have h0 : n < 2 ^ (n.log2 + 2) := Nat.lt_trans Nat.lt_log2_self ((Nat.pow_lt_pow_iff_right (by omega)).2 (by omega))
    rw [Nat.div_eq_of_lt h0]
    have : 0 + c - 1 = 0 := by omega
    rw [this, Nat.zero_mul]
    exact Nat.zero_le _
end Go.Fl
/- near: the quotient to the nearest whole number. -/
namespace Go.Proofs.YtnchjdhepakokaaGreatDoorGG
open Go.Proofs Go.Proofs.YtnchjdhepakokaaGreatDoorGS1 Go.Fl Ieee
set_option maxRecDepth 100000
theorem ac1 (q n A B C : Nat) : 2 * q * A * (n * B * C) = 2 * (q * n) * (A * (B * C)) := by
  simp only [Nat.mul_assoc, Nat.mul_left_comm, Nat.mul_comm]
theorem ac2 (a E F G : Nat) : 8 * a * E * (F * G) = 8 * (a * F) * (E * G) := by
  simp only [Nat.mul_assoc, Nat.mul_left_comm, Nat.mul_comm]
theorem ac3 (m I E M : Nat) : 8 * (m * I) * (E * (M * 2)) = 16 * (m * M) * (I * E) := by
  rw [show (16 : Nat) = 8 * 2 by rfl]
  simp only [Nat.mul_assoc, Nat.mul_left_comm, Nat.mul_comm]
/-- A quotient: about right. -/
theorem fl_quo {x y : Nat} {a b : Int} (hx : Fl x a) (hy : Fl y b) (hb : 0 < b) : ∃ r s m e, floatBits .quo .f64 x y = some r ∧ double.read r = .number s m e ∧ -1074 ≤ e ∧ m * 2 ^ (e + 1074).toNat * b.natAbs ≤ 8 * a.natAbs * 2 ^ 1074 := by
  obtain ⟨s, m, i, e1, h1⟩ := hx
  obtain ⟨t, n, j, e2, h2⟩ := hy
  have hq : floatBits .quo .f64 x y = ((double.read x).quotient (double.fractionBits + 2) (double.read y)).map double.write := rfl
  have hn : 0 < n ∧ n < 2 ^ 53 ∧ -52 ≤ j ∧ j ≤ 1 ∧ n * 2 ^ (j + 52).toNat = b.natAbs * 2 ^ 52 := by
    rcases h2 with ⟨_, h, _⟩ | ⟨g1, g2, g3, g4, g5, _⟩
    · omega
    · exact ⟨g1, g2, g3, g4, g5⟩
  obtain ⟨n0, n1, j0, j1, hnv⟩ := hn
  rw [hq, e1, e2]
  unfold Datum.quotient
  simp only [if_neg (show ¬ n = 0 by omega), Option.map_some, Format.write]
  have hf : double.fractionBits + 2 = 54 := rfl
  rw [hf]
  rcases h1 with ⟨rfl, rfl, rfl⟩ | ⟨m0, m1, i0, i1, hmv, _⟩
  · refine ⟨_, s ^^ t, 0, -1074, rfl, ?_, by omega, by rw [Nat.zero_mul, Nat.zero_mul]; exact Nat.zero_le _⟩
    have : 2 * ((0 <<< (54 + n.log2 - Nat.log2 0)) / n) + (((0 <<< (54 + n.log2 - Nat.log2 0)) % n) != 0).toNat = 0 := by simp
    rw [this]
    unfold Format.nearest
    rw [if_pos rfl]
    exact read_zero _
  · obtain ⟨M, hM⟩ : ∃ M, M = 54 + n.log2 - m.log2 := ⟨_, rfl⟩
    rw [← hM]
    have lm1 : 2 ^ m.log2 ≤ m := Nat.log2_self_le (by omega)
    have lm2 : m < 2 ^ (m.log2 + 1) := Nat.lt_log2_self
    have ln1 : 2 ^ n.log2 ≤ n := Nat.log2_self_le (by omega)
    have ln2 : n < 2 ^ (n.log2 + 1) := Nat.lt_log2_self
    have lml : m.log2 < 53 := by
      have := Nat.lt_of_le_of_lt lm1 m1
      exact (Nat.pow_lt_pow_iff_right (by omega)).1 this
    have lnl : n.log2 < 53 := by
      have := Nat.lt_of_le_of_lt ln1 n1
      exact (Nat.pow_lt_pow_iff_right (by omega)).1 this
    rw [Nat.shiftLeft_eq]
    obtain ⟨D, hD⟩ : ∃ D, D = m * 2 ^ M := ⟨_, rfl⟩
    rw [← hD]
    -- the quotient has 54 digits or 55
    have d1 : 2 ^ 53 * n ≤ D := by
      have : (2 : Nat) ^ (53 + (n.log2 + 1)) ≤ 2 ^ m.log2 * 2 ^ M := by
        rw [← Nat.pow_add]
        exact Nat.pow_le_pow_right (by omega) (by omega)
      have h3 : 2 ^ m.log2 * 2 ^ M ≤ D := by rw [hD]; exact Nat.mul_le_mul_right _ lm1
      have h4 : 2 ^ 53 * n ≤ 2 ^ 53 * 2 ^ (n.log2 + 1) := Nat.mul_le_mul_left _ (by omega)
      rw [← Nat.pow_add] at h4
      omega
    have d2 : D < 2 ^ 56 * n := by
      have h3 : D < 2 ^ (m.log2 + 1) * 2 ^ M := by rw [hD]; exact (Nat.mul_lt_mul_right (pow_pos M)).2 lm2
      rw [← Nat.pow_add] at h3
      have h4 : (2 : Nat) ^ (m.log2 + 1 + M) = 2 ^ 55 * 2 ^ n.log2 := by rw [← Nat.pow_add]; congr 1; omega
      have h5 : 2 ^ 55 * 2 ^ n.log2 ≤ 2 ^ 55 * n := Nat.mul_le_mul_left _ ln1
      omega
    obtain ⟨c, hc, hc1⟩ : ∃ c, (D % n != 0).toNat = c ∧ c ≤ 1 := ⟨_, rfl, Bool.toNat_le _⟩
    rw [hc]
    obtain ⟨q, hqq⟩ : ∃ q, q = 2 * (D / n) + c := ⟨_, rfl⟩
    rw [← hqq]
    have q1 : 2 ^ 53 ≤ D / n := by rw [Nat.le_div_iff_mul_le n0]; exact d1
    have q2 : D / n < 2 ^ 56 := by rw [Nat.div_lt_iff_lt_mul n0]; exact d2
    have ql1 : 52 ≤ q.log2 := by
      rw [Nat.le_log2 (by omega)]
      omega
    have ql2 : q.log2 < 58 := by
      rw [Nat.log2_lt (by omega)]
      omega
    have hpl : -1074 ≤ i - j - (M : Int) - 1 := by omega
    obtain ⟨k, e, r1, r2, r3⟩ := nearest_le (s ^^ t) q (i - j - M - 1) ql1 hpl (by omega)
    refine ⟨_, s ^^ t, k, e, rfl, r1, r2, ?_⟩
    -- k 2^(e+1074) b <= 2 q 2^(p+1074) b
    have s1 := Nat.mul_le_mul_right b.natAbs r3
    refine Nat.le_trans s1 ?_
    have q3 : q * n ≤ 4 * D := by
      have : D / n * n ≤ D := Nat.div_mul_le_self _ _
      have h3 : q * n = 2 * (D / n * n) + c * n := by rw [hqq, Nat.add_mul, Nat.mul_assoc]
      have h4 : c * n ≤ 1 * n := Nat.mul_le_mul_right _ hc1
      have h5 : 1 * n ≤ 2 ^ 53 * n := Nat.mul_le_mul_right _ (by omega)
      omega
    -- all over 2^52
    have hP : (i - j - (M : Int) - 1 + 1074).toNat + M + 1 + (j + 52).toNat = (i + 52).toNat + 1074 := by omega
    have s2 : 2 * q * 2 ^ (i - j - (M : Int) - 1 + 1074).toNat * b.natAbs * (2 ^ 52 * 2 ^ (M + 1)) ≤ 8 * a.natAbs * 2 ^ 1074 * (2 ^ 52 * 2 ^ (M + 1)) := by
      have t1 : 2 * q * 2 ^ (i - j - (M : Int) - 1 + 1074).toNat * b.natAbs * (2 ^ 52 * 2 ^ (M + 1)) = 2 * (q * n) * 2 ^ ((i + 52).toNat + 1074) := by
        rw [← hP]
        have : b.natAbs * (2 ^ 52 * 2 ^ (M + 1)) = n * 2 ^ (j + 52).toNat * 2 ^ (M + 1) := by rw [hnv, Nat.mul_assoc]
        rw [Nat.mul_assoc (2 * q * _), this]
        rw [show (i - j - (M : Int) - 1 + 1074).toNat + M + 1 + (j + 52).toNat = (i - j - (M : Int) - 1 + 1074).toNat + ((j + 52).toNat + (M + 1)) by omega, Nat.pow_add _ _ ((j + 52).toNat + (M + 1)), Nat.pow_add _ (j + 52).toNat]
        exact ac1 _ _ _ _ _
      have t2 : 8 * a.natAbs * 2 ^ 1074 * (2 ^ 52 * 2 ^ (M + 1)) = 16 * D * 2 ^ ((i + 52).toNat + 1074) := by
        have : a.natAbs * 2 ^ 52 = m * 2 ^ (i + 52).toNat := hmv.symm
        rw [ac2, this, hD, Nat.pow_add _ (i + 52).toNat, show (2 : Nat) ^ (M + 1) = 2 ^ M * 2 from Nat.pow_succ 2 M]
        generalize (2 : Nat) ^ 1074 = E
        exact ac3 _ _ _ _
      rw [t1, t2]
      refine Nat.mul_le_mul_right _ ?_
      omega
    exact Nat.le_of_mul_le_mul_right s2 (Nat.mul_pos (pow_pos 52) (pow_pos (M + 1)))
/-- Its floor: a whole number, about right. -/
theorem Floor_spec {r : Nat} {s : Bool} {m : Nat} {e : Int} {N A : Nat} (hr : double.read r = .number s m e) (he : -1074 ≤ e) (hN : 0 < N) (hb : m * 2 ^ (e + 1074).toNat * N ≤ 8 * A * 2 ^ 1074) (hA : 8 * A ≤ 2 ^ 52) :
    ∃ b q, Does Tryz.prog 298 [fl r] (fl b) ∧ Fl b q ∧ (q.natAbs - 1) * N ≤ 8 * A := by
  obtain ⟨k, hk⟩ : ∃ k, k = Toward.down.cut s (m <<< e.toNat) (-e).toNat := ⟨_, rfl⟩
  have h1 := down_le s (m <<< e.toNat) (-e).toNat
  rw [← hk, Nat.shiftLeft_eq] at h1
  have h2 : (k - 1) * N ≤ 8 * A := by
    have h3 : (k - 1) * 2 ^ 1074 ≤ m * 2 ^ (e + 1074).toNat := by
      rcases Int.le_total 0 e with h | h
      · have e1 : (-e).toNat = 0 := by omega
        have e2 : (e + 1074).toNat = e.toNat + 1074 := by omega
        rw [e1, Nat.pow_zero, Nat.mul_one] at h1
        rw [e2, Nat.pow_add, ← Nat.mul_assoc]
        exact Nat.mul_le_mul_right _ h1
      · have e1 : e.toNat = 0 := by omega
        have e2 : 1074 = (-e).toNat + (e + 1074).toNat := by omega
        rw [e1, Nat.pow_zero, Nat.mul_one] at h1
        have h4 := Nat.mul_le_mul_right (2 ^ (e + 1074).toNat) h1
        rw [Nat.mul_assoc, ← Nat.pow_add, ← e2] at h4
        exact h4
    have h5 := Nat.mul_le_mul_right N h3
    have h6 : (k - 1) * N * 2 ^ 1074 ≤ 8 * A * 2 ^ 1074 := by
      refine Nat.le_trans ?_ hb
      rw [Nat.mul_right_comm]
      exact h5
    exact Nat.le_of_mul_le_mul_right h6 (pow_pos 1074)
  have h7 : k ≤ 2 ^ 53 := by
    have : (k - 1) * 1 ≤ (k - 1) * N := Nat.mul_le_mul_left _ hN
    omega
  obtain ⟨q, hq, hqk⟩ : ∃ q : Int, Fl (double.nearest s k 0) q ∧ q.natAbs = k := by
    refine ⟨if s then -(k : Int) else k, ?_, by cases s <;> simp⟩
    refine fl_write (K := 0) ?_ (by omega) ?_ ?_
    · cases s <;> simp <;> exact h7
    · cases s <;> simp
    · intro h0
      cases s <;> simp at h0 ⊢ <;> omega
  refine ⟨_, q, Floor_1 r (double.nearest s k 0) ?_, hq, by rw [hqk]; exact h2⟩
  intro w
  refine .inl ?_
  rw [run_callFunc_extern (fn := Tryz.f324) (e := Extern.MathFloor.toIntegral "math.archFloor" .down) rfl (by kernel_rfl) rfl (by kernel_rfl) (by kernel_rfl)]
  have hd : FloatKind.f64.decode r = .number s m e := hr
  have h : Extern.MathFloor.toIntegral "math.archFloor" .down #[.float .f64 r] = pure (.float .f64 (FloatKind.f64.encode ((Datum.number s m e).integral .down))) := by
    delta Extern.MathFloor.toIntegral
    conv => lhs; whnf
    rw [hd]
  show ((Extern.MathFloor.toIntegral "math.archFloor" .down #[.float .f64 r]).run Tryz.prog w).andThen _ = _
  rw [h]
  simp only [Datum.integral, ← hk]
  rfl
theorem ord_gt {x y : Nat} {a b : Int} (hx : Fl x a) (hy : Fl y b) : (FloatKind.f64.format.order x y == some Ordering.gt) = decide (b < a) := by
  have h : FloatKind.f64.format.order x y = some (compare a b) := fl_order hx hy
  rw [h]
  rcases Int.lt_trichotomy a b with h | h | h
  · rw [Int.compare_eq_lt.2 h, decide_eq_false (by omega)]; rfl
  · rw [Int.compare_eq_eq.2 h, decide_eq_false (by omega)]; rfl
  · rw [Int.compare_eq_gt.2 h, decide_eq_true (by omega)]; rfl
theorem ord_lt {x y : Nat} {a b : Int} (hx : Fl x a) (hy : Fl y b) : (FloatKind.f64.format.order x y == some Ordering.lt) = decide (a < b) := by
  have h : FloatKind.f64.format.order x y = some (compare a b) := fl_order hx hy
  rw [h]
  rcases Int.lt_trichotomy a b with h | h | h
  · rw [Int.compare_eq_lt.2 h, decide_eq_true (by omega)]; rfl
  · rw [Int.compare_eq_eq.2 h, decide_eq_false (by omega)]; rfl
  · rw [Int.compare_eq_gt.2 h, decide_eq_false (by omega)]; rfl
theorem ord_eq {x y : Nat} {a b : Int} (hx : Fl x a) (hy : Fl y b) : (FloatKind.f64.format.order x y == some Ordering.eq) = decide (a = b) := by
  have h : FloatKind.f64.format.order x y = some (compare a b) := fl_order hx hy
  rw [h]
  rcases Int.lt_trichotomy a b with h | h | h
  · rw [Int.compare_eq_lt.2 h, decide_eq_false (by omega)]; rfl
  · rw [Int.compare_eq_eq.2 h, decide_eq_true (by omega)]; rfl
  · rw [Int.compare_eq_gt.2 h, decide_eq_false (by omega)]; rfl
/-- The nearest whole number; of two as near the greater one. -/
def nst (a n : Int) : Int := (2 * a + n) / (2 * n)
abbrev nearS (k l m : Nat) : List SV := [.v (fl k), .v (fl l), .x, .x, .x, .v (fl m)] ++ List.replicate 30 .x
theorem div_is {x y z : Int} (hy : 0 < y) (h1 : z * y ≤ x) (h2 : x < z * y + y) : x / y = z := by
  have a1 : z ≤ x / y := Int.le_ediv_of_mul_le hy h1
  have a2 : x / y < z + 1 := Int.ediv_lt_of_lt_mul hy (by rw [Int.add_mul]; omega)
  omega
theorem fl_two : Fl 4611686018427387904 2 := by
  have := fl_ofInt 2 (by decide)
  have e : floatOfInt .f64 2 = 4611686018427387904 := by decide +kernel
  rwa [e] at this
theorem le_of_mul {q b C : Int} (hb : 0 < b) (hC : 0 ≤ C) (h : q * b ≤ C) : q ≤ C := by
  by_cases h0 : 0 ≤ q
  · have : q * 1 ≤ q * b := Int.mul_le_mul_of_nonneg_left (by omega) h0
    omega
  · omega
theorem nst_of {a b q : Int} (hb : 0 < b) (h1 : q * b ≤ a) (h2 : a < q * b + b) : nst a b = if b ≤ 2 * (a - q * b) then q + 1 else q := by
  unfold nst
  have e1 : ∀ z : Int, z * (2 * b) = 2 * (z * b) := fun z => by rw [Int.mul_left_comm]
  split
  · refine div_is (by omega) ?_ ?_
    · rw [e1, Int.add_mul]; omega
    · rw [e1, Int.add_mul]; omega
  · refine div_is (by omega) ?_ ?_
    · rw [e1]; omega
    · rw [e1]; omega
/-- The second loop: up, and to the nearest. -/
theorem near_up (r : Nat) : ∀ (q : Int) (k l m n : Nat) (a b : Int), Fl k a → Fl l b → Fl m q → 0 < b → b ≤ 4398046511104 → -4398046511104 ≤ a → a ≤ 4398046511104 → q * b ≤ a → -1125899906842624 ≤ q * b → -1125899906842624 ≤ q → a / b - q = r → r < n →
    ∃ v, Fl v (nst a b) ∧ Fin Tryz.prog Tryz.f265 (fl v) (inK nearB n) (nearS k l m) [] := by
  induction r with
  | zero =>
    intro q k l m n a b fk fb fm hb hb2 ha1 ha2 hq1 hq2 hq3 hr hn
    obtain ⟨n, rfl⟩ : ∃ j, n = j + 1 := ⟨n - 1, by omega⟩
    have hqd : a / b = q := by omega
    have hlt : a < q * b + b := by
      have := Int.lt_ediv_add_one_mul_self a hb
      rw [hqd, Int.add_mul] at this
      omega
    have hqa : q ≤ 4398046511104 := le_of_mul hb (by omega) (by omega)
    obtain ⟨n0, g0, f0⟩ := fl_add fm fl_one (by omega)
    obtain ⟨n1, g1, f1⟩ := fl_mul f0 fb (by rw [Int.add_mul]; omega)
    have c1 : (FloatKind.f64.format.order n1 k == some Ordering.lt || FloatKind.f64.format.order n1 k == some Ordering.eq) = false := by
      rw [ord_lt f1 fk, ord_eq f1 fk, Int.add_mul]
      simp
      omega
    obtain ⟨n2, g2, f2⟩ := fl_mul fm fb (by omega)
    obtain ⟨n3, g3, f3⟩ := fl_sub fk f2 (by omega)
    obtain ⟨n4, g4, f4⟩ := fl_mul fl_two f3 (by omega)
    have hN := nst_of hb hq1 hlt
    by_cases hc : b ≤ 2 * (a - q * b)
    · rw [if_pos hc] at hN
      refine ⟨n0, by rw [hN]; exact f0, fin_round ?_⟩
      refine near2_2 k l m n n0 n1 n2 n3 n4 n0 g0 g1 c1 g2 g3 g4 ?_ g0
      rw [ord_gt f4 fb, ord_eq f4 fb]
      simp
      omega
    · rw [if_neg hc] at hN
      refine ⟨m, by rw [hN]; exact fm, fin_round ?_⟩
      refine near2_3 k l m n n0 n1 n2 n3 n4 g0 g1 c1 g2 g3 g4 ?_
      rw [ord_gt f4 fb, ord_eq f4 fb]
      simp
      omega
  | succ r ih =>
    intro q k l m n a b fk fb fm hb hb2 ha1 ha2 hq1 hq2 hq3 hr hn
    obtain ⟨n, rfl⟩ : ∃ j, n = j + 1 := ⟨n - 1, by omega⟩
    have hqa : q ≤ 4398046511104 := le_of_mul hb (by omega) (by omega)
    have hle : q * b + b ≤ a := by
      have h1 : (q + 1) * b ≤ a / b * b := Int.mul_le_mul_of_nonneg_right (by omega) (by omega)
      have h2 := Int.ediv_mul_le a (b := b) (by omega)
      rw [Int.add_mul] at h1
      omega
    obtain ⟨n0, g0, f0⟩ := fl_add fm fl_one (by omega)
    obtain ⟨n1, g1, f1⟩ := fl_mul f0 fb (by rw [Int.add_mul]; omega)
    have c1 : (FloatKind.f64.format.order n1 k == some Ordering.lt || FloatKind.f64.format.order n1 k == some Ordering.eq) = true := by
      rw [ord_lt f1 fk, ord_eq f1 fk, Int.add_mul]
      simp
      omega
    obtain ⟨v, hv, hF⟩ := ih (q + 1) k l n0 n a b fk fb f0 hb hb2 ha1 ha2 (by rw [Int.add_mul]; omega) (by rw [Int.add_mul]; omega) (by omega) (by omega) (by omega)
    exact ⟨v, hv, fin_round (near2_1 k l m n n0 n1 n0 g0 g1 c1 g0 _ hF)⟩
/-- The first loop: down. -/
theorem near_down (r : Nat) : ∀ (q : Int) (k l m n : Nat) (a b : Int), Fl k a → Fl l b → Fl m q → 0 < b → b ≤ 4398046511104 → -4398046511104 ≤ a → a ≤ 4398046511104 → q * b ≤ 1125899906842624 → -1125899906842624 ≤ q * b → -1125899906842624 ≤ q → q ≤ 1125899906842624 → (q - a / b).toNat ≤ r → r < n →
    ∃ v, Fl v (nst a b) ∧ Fin Tryz.prog Tryz.f265 (fl v) (inK nearA n) (nearS k l m) [] := by
  have done : ∀ (q : Int) (k l m n : Nat) (a b : Int), Fl k a → Fl l b → Fl m q → 0 < b → b ≤ 4398046511104 → -4398046511104 ≤ a → a ≤ 4398046511104 → q * b ≤ a → -1125899906842624 ≤ q * b → -1125899906842624 ≤ q → 
      ∃ v, Fl v (nst a b) ∧ Fin Tryz.prog Tryz.f265 (fl v) (inK nearA (n + 1)) (nearS k l m) [] := by
    intro q k l m n a b fk fb fm hb hb2 ha1 ha2 h1 h2 h3
    have hqd : q ≤ a / b := Int.le_ediv_of_mul_le hb h1
    obtain ⟨v, hv, hF⟩ := near_up (a / b - q).toNat q k l m ((a / b - q).toNat + 1) a b fk fb fm hb hb2 ha1 ha2 h1 h2 h3 (by omega) (by omega)
    obtain ⟨n0, g0, f0⟩ := fl_mul fm fb (by omega)
    refine ⟨v, hv, fin_round (near1_2 k l m n n0 g0 ?_ _ (fin_loop _ hF))⟩
    rw [ord_gt f0 fk]
    simp
    omega
  induction r with
  | zero =>
    intro q k l m n a b fk fb fm hb hb2 ha1 ha2 h1 h2 h3 h4 hr hn
    obtain ⟨n, rfl⟩ : ∃ j, n = j + 1 := ⟨n - 1, by omega⟩
    have h5 : q * b ≤ a := by
      have g1 : q * b ≤ a / b * b := Int.mul_le_mul_of_nonneg_right (by omega) (by omega)
      have g2 := Int.ediv_mul_le a (b := b) (by omega)
      omega
    exact done q k l m n a b fk fb fm hb hb2 ha1 ha2 h5 h2 h3
  | succ r ih =>
    intro q k l m n a b fk fb fm hb hb2 ha1 ha2 h1 h2 h3 h4 hr hn
    obtain ⟨n, rfl⟩ : ∃ j, n = j + 1 := ⟨n - 1, by omega⟩
    by_cases h5 : q * b ≤ a
    · exact done q k l m n a b fk fb fm hb hb2 ha1 ha2 h5 h2 h3
    · have hqd : a / b < q := Int.ediv_lt_of_lt_mul hb (by omega)
      obtain ⟨n0, g0, f0⟩ := fl_mul fm fb (by omega)
      obtain ⟨n1, g1, f1⟩ := fl_sub fm fl_one (by omega)
      have hqm : (q - 1) * b = q * b - b := by rw [Int.sub_mul]; omega
      have hq5 : -4398046511105 ≤ q := by
        have := le_of_mul (q := -q) hb (C := 4398046511104) (by omega) (by rw [Int.neg_mul]; omega)
        omega
      obtain ⟨v, hv, hF⟩ := ih (q - 1) k l n1 n a b fk fb f1 hb hb2 ha1 ha2 (by omega) (by omega) (by omega) (by omega) (by omega) (by omega)
      refine ⟨v, hv, fin_round (near1_1 k l m n n0 n1 g0 ?_ g1 _ hF)⟩
      rw [ord_gt f0 fk]
      simp
      omega
theorem near_spec {k l : Nat} {a b : Int} (fk : Fl k a) (fb : Fl l b) (hb : 0 < b) (hb2 : b ≤ 4398046511104) (ha1 : -4398046511104 ≤ a) (ha2 : a ≤ 4398046511104) : ∃ v, Does Tryz.prog 265 [fl k, fl l] (fl v) ∧ Fl v (nst a b) := by
  obtain ⟨r, s, m, e, h1, h2, h3, h4⟩ := fl_quo fk fb hb
  obtain ⟨w, q, d1, f1, hq⟩ := Floor_spec (N := b.natAbs) (A := a.natAbs) h2 h3 (by omega) h4 (by omega)
  have hqb : (q.natAbs) * b.natAbs ≤ 8 * a.natAbs + b.natAbs := by
    have g1 : q.natAbs * b.natAbs ≤ (q.natAbs - 1 + 1) * b.natAbs := Nat.mul_le_mul_right _ (by omega)
    rw [Nat.add_mul] at g1
    omega
  have hqb2 : (q * b).natAbs ≤ 8 * a.natAbs + b.natAbs := by rw [Int.natAbs_mul]; exact hqb
  have hq1 : q.natAbs ≤ 8 * a.natAbs + b.natAbs := by
    have : q.natAbs * 1 ≤ q.natAbs * b.natAbs := Nat.mul_le_mul_left _ (by omega)
    omega
  obtain ⟨v, hv, hF⟩ := near_down (q - a / b).toNat q k l w ((q - a / b).toNat + 1) a b fk fb f1 hb hb2 ha1 ha2 (by omega) (by omega) (by omega) (by omega) (by omega) (by omega)
  refine ⟨v, does_of_fin (fn := Tryz.f265) (c := bd Tryz.f265) rfl (by kernel_rfl) rfl ?_, hv⟩
  exact near0_1 k l r w h1 d1 _ (fin_loop _ hF)
end Go.Proofs.YtnchjdhepakokaaGreatDoorGG
/- parts: a quotient and the rest. -/
namespace Go.Proofs.YtnchjdhepakokaaGreatDoorGG
open Go.Proofs Go.Proofs.YtnchjdhepakokaaGreatDoorGS1 Go.Fl
set_option maxRecDepth 100000
/-- The quotient's parts. -/
def qx (x y z u : Int) : Int := nst (x * z + y * u) (z * z + u * u)
def qy (x y z u : Int) : Int := nst (y * z - x * u) (z * z + u * u)
def rx (x y z u : Int) : Int := x - (z * qx x y z u - u * qy x y z u)
def ry (x y z u : Int) : Int := y - (z * qy x y z u + u * qx x y z u)
theorem two_le (p q : Nat) : 2 * (p * q) ≤ p * p + q * q := by
  rcases Nat.le_total p q with h | h
  · obtain ⟨d, rfl⟩ := Nat.exists_eq_add_of_le h
    have e1 : (p + d) * (p + d) = p * p + 2 * (p * d) + d * d := by grind
    have e2 : p * (p + d) = p * p + p * d := by grind
    rw [e1, e2]
    omega
  · obtain ⟨d, rfl⟩ := Nat.exists_eq_add_of_le h
    have e1 : (q + d) * (q + d) = q * q + 2 * (q * d) + d * d := by grind
    have e2 : (q + d) * q = q * q + q * d := by grind
    rw [e1, e2]
    omega
theorem nst_le {a n : Int} (hn : 0 < n) : 2 * (nst a n * n) ≤ 2 * a + n ∧ 2 * a + n < 2 * (nst a n * n) + 2 * n := by
  unfold nst
  have h1 := Int.ediv_mul_le (2 * a + n) (b := 2 * n) (by omega)
  have h2 := Int.lt_ediv_add_one_mul_self (2 * a + n) (b := 2 * n) (by omega)
  have e : ∀ z : Int, z * (2 * n) = 2 * (z * n) := fun z => by rw [Int.mul_left_comm]
  rw [Int.add_mul, e, Int.one_mul] at h2
  rw [e] at h1
  omega
/-- What a quotient's part times a divisor's part comes to. -/
theorem q_bound {a z u : Int} (hz : z.natAbs ≤ 1048576) (hu : u.natAbs ≤ 1048576) (hn : 0 < z * z + u * u) (ha : a.natAbs ≤ 1048576 * (z.natAbs + u.natAbs)) :
    (nst a (z * z + u * u)).natAbs * (z.natAbs + u.natAbs) ≤ 8388608 := by
  obtain ⟨S, hS⟩ : ∃ S, S = z.natAbs + u.natAbs := ⟨_, rfl⟩
  obtain ⟨c, hc⟩ : ∃ c, c = nst a (z * z + u * u) := ⟨_, rfl⟩
  have h1 := nst_le (a := a) hn
  rw [← hc] at h1 ⊢
  rw [← hS] at ha ⊢
  obtain ⟨N, hN⟩ : ∃ N : Nat, z * z + u * u = (N : Int) := ⟨(z * z + u * u).toNat, by omega⟩
  rw [hN] at h1 hn
  have hzz : (z.natAbs : Int) * z.natAbs = z * z := Int.natAbs_mul_self
  have huu : (u.natAbs : Int) * u.natAbs = u * u := Int.natAbs_mul_self
  have hN2 : N = z.natAbs * z.natAbs + u.natAbs * u.natAbs := by
    have : (N : Int) = ((z.natAbs * z.natAbs + u.natAbs * u.natAbs : Nat) : Int) := by
      rw [Int.natCast_add, Int.natCast_mul, Int.natCast_mul, hzz, huu, hN]
    exact Int.ofNat_inj.1 this
  -- S^2 <= 2 N, N <= S^2
  have s1 : S * S ≤ 2 * N := by
    rw [hS, hN2]
    generalize z.natAbs = p
    generalize u.natAbs = q
    have : (p + q) * (p + q) = p * p + q * q + 2 * (p * q) := by grind
    have h2 := two_le p q
    omega
  have s2 : N ≤ S * S := by
    rw [hS, hN2]
    generalize z.natAbs = p
    generalize u.natAbs = q
    have : (p + q) * (p + q) = p * p + q * q + 2 * (p * q) := by grind
    omega
  have s0 : 0 < S := by
    rcases Nat.eq_zero_or_pos S with h | h
    · rw [h] at s2; omega
    · exact h
  have hcN : c.natAbs * N ≤ a.natAbs + N := by
    have : (c * (N : Int)).natAbs = c.natAbs * N := by rw [Int.natAbs_mul, Int.natAbs_natCast]
    rw [← this]
    omega
  have h5 : c.natAbs * S * S ≤ 8388608 * S := by
    have g1 : c.natAbs * (S * S) ≤ c.natAbs * (2 * N) := Nat.mul_le_mul_left _ s1
    have g2 : c.natAbs * (2 * N) = 2 * (c.natAbs * N) := by rw [Nat.mul_left_comm]
    have g3 : S * S ≤ 2097152 * S := Nat.mul_le_mul_right _ (by omega)
    rw [Nat.mul_assoc]
    omega
  exact Nat.le_of_mul_le_mul_right h5 s0
theorem abs_mul_le {c z : Int} {S B : Nat} (h : c.natAbs * S ≤ B) (hz : z.natAbs ≤ S) : (z * c).natAbs ≤ B := by
  rw [Int.natAbs_mul, Nat.mul_comm]
  exact Nat.le_trans (Nat.mul_le_mul_left _ hz) h
theorem lin_bound {x y z u : Int} (hx : x.natAbs ≤ 1048576) (hy : y.natAbs ≤ 1048576) : (x * z + y * u).natAbs ≤ 1048576 * (z.natAbs + u.natAbs) := by
  have h1 : (x * z).natAbs ≤ 1048576 * z.natAbs := by rw [Int.natAbs_mul]; exact Nat.mul_le_mul_right _ hx
  have h2 : (y * u).natAbs ≤ 1048576 * u.natAbs := by rw [Int.natAbs_mul]; exact Nat.mul_le_mul_right _ hy
  rw [Nat.mul_add]
  omega
/-- The bounds of a quotient and its products. -/
theorem quo_bounds {x y z u : Int} (h1 : rt x y = true) (h2 : rt z u = true) (hn : 0 < z * z + u * u) :
    (z * qx x y z u).natAbs ≤ 8388608 ∧ (u * qx x y z u).natAbs ≤ 8388608 ∧ (z * qy x y z u).natAbs ≤ 8388608 ∧ (u * qy x y z u).natAbs ≤ 8388608 ∧ (qx x y z u).natAbs ≤ 8388608 ∧ (qy x y z u).natAbs ≤ 8388608 := by
  rw [rt_iff] at h1 h2
  have b1 := q_bound (a := x * z + y * u) (z := z) (u := u) (by omega) (by omega) hn (lin_bound (by omega) (by omega))
  have b2 := q_bound (a := y * z - x * u) (z := z) (u := u) (by omega) (by omega) hn (by
    have := lin_bound (x := y) (y := -x) (z := z) (u := u) (by omega) (by omega)
    rwa [Int.neg_mul, ← Int.sub_eq_add_neg] at this)
  have hS : 1 ≤ z.natAbs + u.natAbs := by
    rcases Nat.eq_zero_or_pos (z.natAbs + u.natAbs) with h | h
    · have hz : z = 0 := by omega
      have hu : u = 0 := by omega
      subst hz; subst hu
      simp at hn
    · exact h
  have c1 := Nat.le_trans (Nat.mul_le_mul_left (nst (x * z + y * u) (z * z + u * u)).natAbs hS) b1
  have c2 := Nat.le_trans (Nat.mul_le_mul_left (nst (y * z - x * u) (z * z + u * u)).natAbs hS) b2
  exact ⟨abs_mul_le b1 (by omega), abs_mul_le b1 (by omega), abs_mul_le b2 (by omega), abs_mul_le b2 (by omega), by unfold qx; omega, by unfold qy; omega⟩
theorem parts_mul {m n k l : Nat} {z u C D : Int} (fm : Fl m z) (fn : Fl n u) (f8 : Fl k C) (f9 : Fl l D) (q1 : (z * C).natAbs ≤ 8388608) (q4 : (u * D).natAbs ≤ 8388608) (q3 : (z * D).natAbs ≤ 8388608) (q2 : (u * C).natAbs ≤ 8388608) :
    ∃ a b, Does Tryz.prog 212 [cx m n, cx k l] (cx a b) ∧ Fl a (z * C - u * D) ∧ Fl b (z * D + u * C) :=
  product_spec fm fn f8 f9 (by omega) (by omega) (by omega) (by omega)
theorem parts_spec {k l m n : Nat} {x y z u : Int} (fk : Fl k x) (fl' : Fl l y) (fm : Fl m z) (fn : Fl n u) (h1 : rt x y = true) (h2 : rt z u = true) (hn : 0 < z * z + u * u) :
    ∃ a b c d, Does Tryz.prog 228 [cx k l, cx m n] (.tuple #[cx a b, cx c d]) ∧ Fl a (qx x y z u) ∧ Fl b (qy x y z u) ∧ Fl c (rx x y z u) ∧ Fl d (ry x y z u) := by
  obtain ⟨q1, q2, q3, q4, q5, q6⟩ := quo_bounds h1 h2 hn
  rw [rt_iff] at h1 h2
  have a1 := cmul_bound (x := z) (y := z) (by omega) (by omega)
  have a2 := cmul_bound (x := u) (y := -u) (by omega) (by omega)
  have a3 := cmul_bound (x := z) (y := -u) (by omega) (by omega)
  have a4 := cmul_bound (x := u) (y := z) (by omega) (by omega)
  have a5 := cmul_bound (x := x) (y := z) (by omega) (by omega)
  have a6 := cmul_bound (x := y) (y := -u) (by omega) (by omega)
  have a7 := cmul_bound (x := x) (y := -u) (by omega) (by omega)
  have a8 := cmul_bound (x := y) (y := z) (by omega) (by omega)
  have a9 := cmul_bound (x := u) (y := u) (by omega) (by omega)
  obtain ⟨n0, n1, e0, f0, f1⟩ := conj_spec fm fn
  obtain ⟨n2, n3, e1, f2, f3⟩ := product_spec fm fn f0 f1 (by omega) (by omega) (by omega) (by omega)
  obtain ⟨n6, n7, e2, f6, f7⟩ := product_spec fk fl' f0 f1 (by omega) (by omega) (by omega) (by omega)
  have w1 : z * z - u * -u = z * z + u * u := by rw [Int.mul_neg]; omega
  have w2 : x * z - y * -u = x * z + y * u := by rw [Int.mul_neg]; omega
  have w3 : x * -u + y * z = y * z - x * u := by rw [Int.mul_neg]; omega
  rw [w1] at f2
  rw [w2] at f6
  rw [w3] at f7
  rw [Int.mul_neg] at a2 a6 a7
  obtain ⟨n8, e3, f8⟩ := near_spec f6 f2 hn (by omega) (by omega) (by omega)
  obtain ⟨n9, e4, f9⟩ := near_spec f7 f2 hn (by omega) (by omega) (by omega)
  obtain ⟨C, hC⟩ : ∃ C, C = qx x y z u := ⟨_, rfl⟩
  obtain ⟨D, hD⟩ : ∃ D, D = qy x y z u := ⟨_, rfl⟩
  have g8 : Fl n8 C := by rw [hC]; unfold qx; exact f8
  have g9 : Fl n9 D := by rw [hD]; unfold qy; exact f9
  rw [← hC] at q1 q2 q5
  rw [← hD] at q3 q4 q6
  obtain ⟨n10, n11, e5, f10, f11⟩ := parts_mul fm fn g8 g9 q1 q4 q3 q2
  obtain ⟨n12, g12, f12⟩ := fl_sub fk f10 (by omega)
  obtain ⟨n13, g13, f13⟩ := fl_sub fl' f11 (by omega)
  refine ⟨n8, n9, n12, n13, parts_1 k l m n n0 n1 n2 n3 n0 n1 n6 n7 n8 n9 n10 n11 n12 n13 e0 e1 e0 e2 e3 e4 e5 (by simp [cSumBits, g12, g13]), ?_, ?_, ?_, ?_⟩
  · rw [← hC]; exact g8
  · rw [← hD]; exact g9
  · unfold rx; rw [← hC, ← hD]; exact f12
  · unfold ry; rw [← hC, ← hD]; exact f13
/-- What Div answers. -/
def divA (x y z u : Int) : Value :=
  bif rt x y && rt z u then (bif z == 0 && u == 0 then p2e 0 0 0 0 33 else bif rt (qx x y z u) (qy x y z u) && rt (rx x y z u) (ry x y z u) then p2e (qx x y z u) (qy x y z u) (rx x y z u) (ry x y z u) 0 else p2e 0 0 0 0 32)
  else p2e 0 0 0 0 1
theorem nn_pos {z u : Int} (h : (z == 0 && u == 0) = false) : 0 < z * z + u * u := by
  have h1 : ∀ a : Int, 0 ≤ a * a := fun a => by rw [← Int.natAbs_mul_self]; omega
  have h2 := h1 z
  have h3 := h1 u
  have h4 : ∀ a : Int, a * a = 0 → a = 0 := fun a h => by rcases Int.mul_eq_zero.1 h with h | h <;> exact h
  by_cases hz : z * z = 0
  · by_cases hu : u * u = 0
    · rw [h4 z hz, h4 u hu] at h
      simp at h
    · omega
  · omega
theorem Div_spec (x y z u : Int) : Does Tryz.prog 171 [pt x y, pt z u] (divA x y z u) := by
  unfold divA
  cases h1 : rt x y with
  | false => exact Div_1 x y z u false (h1 ▸ Right_spec x y) rfl
  | true =>
    cases h2 : rt z u with
    | false => exact Div_2 x y z u true false (h1 ▸ Right_spec x y) rfl (h2 ▸ Right_spec z u) rfl
    | true =>
      cases h0 : (z == 0 && u == 0) with
      | true => exact Div_3 x y z u true true (h1 ▸ Right_spec x y) rfl (h2 ▸ Right_spec z u) rfl (by simpa using h0)
      | false =>
        have hn := nn_pos h0
        have h0' : (z == 0 && (u == 0 && true)) = false := by simpa using h0
        obtain ⟨a, b, e1, fa, fb⟩ := z_spec h1
        obtain ⟨c, d, e2, fc, fd⟩ := z_spec h2
        obtain ⟨e, f, g, h, e3, fe, ff, fg, fh⟩ := parts_spec fa fb fc fd h1 h2 hn
        obtain ⟨q1, q2, q3, q4, q5, q6⟩ := quo_bounds h1 h2 hn
        have b1 := rt_iff.1 h1
        have e4 := of_spec fe ff (by omega) (by omega)
        have e5 := of_spec fg fh (by unfold rx; omega) (by unfold ry; omega)
        cases h3 : rt (qx x y z u) (qy x y z u) with
        | false => exact Div_4 x y z u true true a b c d e f g h _ _ _ _ false (h1 ▸ Right_spec x y) rfl (h2 ▸ Right_spec z u) rfl h0' e1 e2 e3 e4 e5 (h3 ▸ Right_spec _ _) rfl
        | true =>
          cases h4 : rt (rx x y z u) (ry x y z u) with
          | false => exact Div_5 x y z u true true a b c d e f g h _ _ _ _ true false (h1 ▸ Right_spec x y) rfl (h2 ▸ Right_spec z u) rfl h0' e1 e2 e3 e4 e5 (h3 ▸ Right_spec _ _) rfl (h4 ▸ Right_spec _ _) rfl
          | true => exact Div_6 x y z u true true a b c d e f g h _ _ _ _ true true (h1 ▸ Right_spec x y) rfl (h2 ▸ Right_spec z u) rfl h0' e1 e2 e3 e4 e5 (h3 ▸ Right_spec _ _) rfl (h4 ▸ Right_spec _ _) rfl
end Go.Proofs.YtnchjdhepakokaaGreatDoorGG
/- The document's quotients and rests, conjugates and turns. -/
namespace Go.Proofs.YtnchjdhepakokaaGreatDoorGG
open Go.Proofs Go.Proofs.YtnchjdhepakokaaGreatDoorGS1 Go.Fl
set_option maxRecDepth 100000
theorem tdiv_floor {n d : Int} (hd : 0 < d) : (n.tmod d < 0 → n.tdiv d - 1 = n / d) ∧ (¬ n.tmod d < 0 → n.tdiv d = n / d) := by
  have h1 := Int.mul_tdiv_add_tmod n d
  have h2 := Int.tmod_lt_of_pos n hd
  have h3 := Int.lt_tmod_of_pos n hd
  rw [Int.mul_comm] at h1
  refine ⟨fun h => (div_is hd ?_ ?_).symm, fun h => (div_is hd ?_ ?_).symm⟩
  · rw [Int.sub_mul]; omega
  · rw [Int.sub_mul]; omega
  · omega
  · omega
theorem rnearest_spec {x y : Int} (h1 : -4398046511104 ≤ x) (h2 : x ≤ 4398046511104) (h3 : 0 < y) (h4 : y ≤ 4398046511104) : Does Tryz.prog 300 [it x, it y] (it (nst x y)) := by
  have w1 : IntKind.i64.wrap (2 * x) = 2 * x := wr (by omega) (by omega)
  have w2 : IntKind.i64.wrap (2 * y) = 2 * y := wr (by omega) (by omega)
  have w3 : IntKind.i64.wrap (2 * x + y) = 2 * x + y := wr (by omega) (by omega)
  have r1 := rnearest_1 x y
  have r2 := rnearest_2 x y
  rw [w1, w2, w3] at r1 r2
  have hd := tdiv_floor (n := 2 * x + y) (d := 2 * y) (by omega)
  have hb : -8796093022210 ≤ nst x y ∧ nst x y ≤ 8796093022210 := by
    have h5 := nst_le (a := x) h3
    have h6 : nst x y ≤ 8796093022210 := le_of_mul h3 (by omega) (by omega)
    have h7 : -nst x y ≤ 8796093022210 := le_of_mul h3 (by omega) (by rw [Int.neg_mul]; omega)
    omega
  unfold nst at hb ⊢
  by_cases hc : (2 * x + y).tmod (2 * y) < 0
  · have e := hd.1 hc
    have r := r1 (by simp; omega) (by simpa using hc)
    rw [wr (n := (2 * x + y).tdiv (2 * y)) (by omega) (by omega), e, wr (by omega) (by omega)] at r
    exact r
  · have e := hd.2 hc
    have r := r2 (by simp; omega) (by simpa using hc)
    rw [e, wr (by omega) (by omega)] at r
    exact r
theorem rparts_pre {x y z u : Int} (b1 : -1048576 ≤ x ∧ x ≤ 1048576 ∧ -1048576 ≤ y ∧ y ≤ 1048576) (b2 : -1048576 ≤ z ∧ z ≤ 1048576 ∧ -1048576 ≤ u ∧ u ≤ 1048576) (hn : 0 < z * z + u * u) :
    Does Tryz.prog 300 [it (IntKind.i64.wrap (IntKind.i64.wrap (x * z) + IntKind.i64.wrap (y * u))), it (z * z + u * u)] (it (nst (x * z + y * u) (z * z + u * u))) ∧
    Does Tryz.prog 300 [it (IntKind.i64.wrap (IntKind.i64.wrap (y * z) - IntKind.i64.wrap (x * u))), it (z * z + u * u)] (it (nst (y * z - x * u) (z * z + u * u))) := by
  have a1 := cmul_bound (x := z) (y := z) (by omega) (by omega)
  have a5 := cmul_bound (x := x) (y := z) (by omega) (by omega)
  have a6 := cmul_bound (x := y) (y := u) (by omega) (by omega)
  have a7 := cmul_bound (x := x) (y := u) (by omega) (by omega)
  have a8 := cmul_bound (x := y) (y := z) (by omega) (by omega)
  have a9 := cmul_bound (x := u) (y := u) (by omega) (by omega)
  rw [wr (n := x * z) (by omega) (by omega), wr (n := y * u) (by omega) (by omega), wr (n := y * z) (by omega) (by omega), wr (n := x * u) (by omega) (by omega),
    wr (n := x * z + y * u) (by omega) (by omega), wr (n := y * z - x * u) (by omega) (by omega)]
  exact ⟨rnearest_spec (by omega) (by omega) hn (by omega), rnearest_spec (by omega) (by omega) hn (by omega)⟩
theorem rparts_post {x y z u C D : Int} (b1 : -1048576 ≤ x ∧ x ≤ 1048576 ∧ -1048576 ≤ y ∧ y ≤ 1048576)
    (q1 : (z * C).natAbs ≤ 8388608) (q2 : (u * C).natAbs ≤ 8388608) (q3 : (z * D).natAbs ≤ 8388608) (q4 : (u * D).natAbs ≤ 8388608) :
    IntKind.i64.wrap (x - IntKind.i64.wrap (IntKind.i64.wrap (z * C) - IntKind.i64.wrap (u * D))) = x - (z * C - u * D) ∧ IntKind.i64.wrap (y - IntKind.i64.wrap (IntKind.i64.wrap (z * D) + IntKind.i64.wrap (u * C))) = y - (z * D + u * C) := by
  generalize z * C = p1 at *
  generalize u * D = p2 at *
  generalize z * D = p3 at *
  generalize u * C = p4 at *
  rw [wr (n := p1) (by omega) (by omega), wr (n := p2) (by omega) (by omega), wr (n := p3) (by omega) (by omega), wr (n := p4) (by omega) (by omega),
    wr (n := p1 - p2) (by omega) (by omega), wr (n := p3 + p4) (by omega) (by omega),
    wr (n := x - (p1 - p2)) (by omega) (by omega), wr (n := y - (p3 + p4)) (by omega) (by omega)]
  exact ⟨rfl, rfl⟩
theorem rparts_spec {x y z u : Int} (h1 : rt x y = true) (h2 : rt z u = true) (hn : 0 < z * z + u * u) :
    Does Tryz.prog 268 [pt x y, pt z u] (.tuple #[pt (qx x y z u) (qy x y z u), pt (rx x y z u) (ry x y z u)]) := by
  obtain ⟨q1, q2, q3, q4, q5, q6⟩ := quo_bounds h1 h2 hn
  have hN : nrm z u = z * z + u * u := by unfold nrm; rw [h2]; rfl
  have e0 := rNorm_spec z u
  rw [hN] at e0
  obtain ⟨e1, e2⟩ := rparts_pre (rt_iff.1 h1) (rt_iff.1 h2) hn
  have r := rparts_1 x y z u (z * z + u * u) (qx x y z u) (qy x y z u) e0 e1 e2
  obtain ⟨p1, p2⟩ := rparts_post (rt_iff.1 h1) q1 q2 q3 q4
  rw [p1, p2] at r
  exact r
theorem nrm_zero {z u : Int} (h : rt z u = true) : (nrm z u == 0) = (z == 0 && u == 0) := by
  cases h0 : (z == 0 && u == 0) with
  | true =>
    simp at h0
    unfold nrm
    rw [h, h0.1, h0.2]
    rfl
  | false =>
    have := nn_pos h0
    unfold nrm
    rw [h]
    simp only [cond_true]
    simp
    omega
theorem rDiv_spec (x y z u : Int) : Does Tryz.prog 240 [pt x y, pt z u] (divA x y z u) := by
  unfold divA
  cases h1 : rt x y with
  | false => exact rDiv_1 x y z u false (h1 ▸ rRight_spec x y) rfl
  | true =>
    cases h2 : rt z u with
    | false => exact rDiv_2 x y z u true false (h1 ▸ rRight_spec x y) rfl (h2 ▸ rRight_spec z u) rfl
    | true =>
      have hz := nrm_zero h2
      cases h0 : (z == 0 && u == 0) with
      | true => exact rDiv_3 x y z u true true _ (h1 ▸ rRight_spec x y) rfl (h2 ▸ rRight_spec z u) rfl (rNorm_spec z u) (by rw [hz, h0])
      | false =>
        have hn := nn_pos h0
        have e3 := rparts_spec h1 h2 hn
        cases h3 : rt (qx x y z u) (qy x y z u) with
        | false => exact rDiv_4 x y z u true true _ _ _ _ _ false (h1 ▸ rRight_spec x y) rfl (h2 ▸ rRight_spec z u) rfl (rNorm_spec z u) (by rw [hz, h0]) e3 (h3 ▸ rRight_spec _ _) rfl
        | true =>
          cases h4 : rt (rx x y z u) (ry x y z u) with
          | false => exact rDiv_5 x y z u true true _ _ _ _ _ true false (h1 ▸ rRight_spec x y) rfl (h2 ▸ rRight_spec z u) rfl (rNorm_spec z u) (by rw [hz, h0]) e3 (h3 ▸ rRight_spec _ _) rfl (h4 ▸ rRight_spec _ _) rfl
          | true => exact rDiv_6 x y z u true true _ _ _ _ _ true true (h1 ▸ rRight_spec x y) rfl (h2 ▸ rRight_spec z u) rfl (rNorm_spec z u) (by rw [hz, h0]) e3 (h3 ▸ rRight_spec _ _) rfl (h4 ▸ rRight_spec _ _) rfl
theorem rturn_loop (r : Nat) : ∀ (X Y a b z u : Int) (n : Nat), X.natAbs ≤ 1048576 → Y.natAbs ≤ 1048576 → (z.tmod 4 + 4).tmod 4 - u = r → 0 ≤ u → u ≤ 4 → r < n →
    Fin Tryz.prog Tryz.f89 (ptp (rotN r (X, Y))) (inK rturnK n) [.x, .v (it z), .p 2 0, .x, .p 4 0, .v (it u), .x, .x, .x, .x, .x, .x, .x, .x, .x, .x, .x, .x, .x, .x, .x, .x, .x, .x, .x] [(2, ⟨103, [it X, it Y]⟩), (4, ⟨103, [it a, it b]⟩)] := by
  induction r with
  | zero =>
    intro X Y a b z u n hX hY hr hu hu2 hn
    obtain ⟨n, rfl⟩ : ∃ m, n = m + 1 := ⟨n - 1, by omega⟩
    have ht := times_lt z
    refine fin_round (rturn1_2 X Y z u a b n ?_)
    rw [wr (by omega) (by omega)]
    simp
    omega
  | succ r ih =>
    intro X Y a b z u n hX hY hr hu hu2 hn
    obtain ⟨n, rfl⟩ : ∃ m, n = m + 1 := ⟨n - 1, by omega⟩
    have ht := times_lt z
    refine fin_round (rturn1_1 X Y z u a b n ?_ _ ?_)
    · rw [wr (by omega) (by omega)]
      simp
      omega
    · rw [wr (by omega) (by omega), wr (by omega) (by omega), Int.zero_sub]
      exact ih (-Y) X a b z (u + 1) n (by omega) hX (by omega) (by omega) (by omega) (by omega)
theorem rTurn_spec (x y n : Int) : Does Tryz.prog 89 [pt x y, it n] (bif rt x y then ptp (rotN (times n) (x, y)) else pt 0 0) := by
  refine does_of_fin (fn := Tryz.f89) (c := bd Tryz.f89) rfl (by kernel_rfl) rfl ?_
  cases h1 : rt x y with
  | false => exact rturn0_1 x y n false (h1 ▸ rRight_spec x y) rfl
  | true =>
    have h2 := rt_iff.1 h1
    have ht := times_lt n
    refine rturn0_2 x y n true (h1 ▸ rRight_spec x y) rfl _ (fin_loop 5 ?_)
    exact rturn_loop (times n) x y 0 0 n 0 5 (by omega) (by omega) (by unfold times; omega) (by omega) (by omega) (by unfold times; omega)
end Go.Proofs.YtnchjdhepakokaaGreatDoorGG
/- The contracts of points' reckoning, and what an evaluation answers. -/
namespace Go.Proofs.YtnchjdhepakokaaGreatDoorC
open Go.Proofs Go.Proofs.YtnchjdhepakokaaGreatDoorSx Go.Lib
set_option maxRecDepth 100000
set_option linter.unusedVariables false
set_option linter.unusedSimpArgs false
def gA (x y z u X Y : Int) : Int × Int × Int := bif rt x y && rt z u then (bif rt X Y then (X, Y, 0) else (0, 0, 32)) else (0, 0, 1)
theorem gA_said (x y z u X Y : Int) : Go.Proofs.YtnchjdhepakokaaGreatDoorGG.ans x y z u X Y = ans (gA x y z u X Y) := by
  unfold Go.Proofs.YtnchjdhepakokaaGreatDoorGG.ans gA
  change (bif rt x y && rt z u then (bif rt X Y then _ else _) else _) = _
  cases (rt x y && rt z u) <;> cases rt X Y <;> rfl
abbrev gadd (x y z u : Int) : Int × Int × Int := gA x y z u (x + z) (y + u)
abbrev gsub (x y z u : Int) : Int × Int × Int := gA x y z u (x - z) (y - u)
abbrev gmul (x y z u : Int) : Int × Int × Int := gA x y z u (x * z - y * u) (x * u + y * z)
def tnV (x y n : Int) : Int × Int := bif rt x y then Go.Proofs.YtnchjdhepakokaaGreatDoorGG.rotN (Go.Proofs.YtnchjdhepakokaaGreatDoorGG.times n) (x, y) else (0, 0)
theorem gadd_does (x y z u : Int) : Does cE 169 [] 0 [.v (dc x y), .v (dc z u)] (.v (ans (gadd x y z u))) [] 0 := by
  rw [← gA_said]; exact does_run (l := [dc x y, dc z u]) (Go.Proofs.YtnchjdhepakokaaGreatDoorGG.Add_spec x y z u)
theorem gsub_does (x y z u : Int) : Does cE 170 [] 0 [.v (dc x y), .v (dc z u)] (.v (ans (gsub x y z u))) [] 0 := by
  rw [← gA_said]; exact does_run (l := [dc x y, dc z u]) (Go.Proofs.YtnchjdhepakokaaGreatDoorGG.Sub_spec x y z u)
theorem gmul_does (x y z u : Int) : Does cE 168 [] 0 [.v (dc x y), .v (dc z u)] (.v (ans (gmul x y z u))) [] 0 := by
  rw [← gA_said]; exact does_run (l := [dc x y, dc z u]) (Go.Proofs.YtnchjdhepakokaaGreatDoorGG.Mul_spec x y z u)
theorem rgadd_does (x y z u : Int) : Does cE 238 [] 0 [.v (dc x y), .v (dc z u)] (.v (ans (gadd x y z u))) [] 0 := by
  rw [← gA_said]; exact does_run (l := [dc x y, dc z u]) (Go.Proofs.YtnchjdhepakokaaGreatDoorGG.rAdd_spec x y z u)
theorem rgsub_does (x y z u : Int) : Does cE 239 [] 0 [.v (dc x y), .v (dc z u)] (.v (ans (gsub x y z u))) [] 0 := by
  rw [← gA_said]; exact does_run (l := [dc x y, dc z u]) (Go.Proofs.YtnchjdhepakokaaGreatDoorGG.rSub_spec x y z u)
theorem rgmul_does (x y z u : Int) : Does cE 237 [] 0 [.v (dc x y), .v (dc z u)] (.v (ans (gmul x y z u))) [] 0 := by
  rw [← gA_said]; exact does_run (l := [dc x y, dc z u]) (Go.Proofs.YtnchjdhepakokaaGreatDoorGG.rMul_spec x y z u)
theorem tnV_said (x y n : Int) : (bif rt x y then Go.Proofs.YtnchjdhepakokaaGreatDoorGG.ptp (Go.Proofs.YtnchjdhepakokaaGreatDoorGG.rotN (Go.Proofs.YtnchjdhepakokaaGreatDoorGG.times n) (x, y)) else dc 0 0) = dc (tnV x y n).1 (tnV x y n).2 := by
  unfold tnV
  cases rt x y <;> rfl
theorem turn_does (x y n : Int) : Does cE 161 [] 0 [.v (dc x y), .v (it n)] (.v (dc (tnV x y n).1 (tnV x y n).2)) [] 0 := by
  rw [← tnV_said]; exact does_run (l := [dc x y, it n]) (Go.Proofs.YtnchjdhepakokaaGreatDoorGG.Turn_spec x y n)
theorem rturn_does (x y n : Int) : Does cE 89 [] 0 [.v (dc x y), .v (it n)] (.v (dc (tnV x y n).1 (tnV x y n).2)) [] 0 := by
  rw [← tnV_said]; exact does_run (l := [dc x y, it n]) (Go.Proofs.YtnchjdhepakokaaGreatDoorGG.rTurn_spec x y n)
/-- a value and an errno -/
abbrev Ans := Int × Int × Int × ByteArray × Int
abbrev resV (r : Ans) : Value := .tuple #[vl r.1 r.2.1 r.2.2.1 r.2.2.2.1, it r.2.2.2.2]
abbrev noV (e : Int) : Ans := (0, 0, 0, bE, e)
abbrev ofV (t : Int) : Ans := (ofK t, ofN t, 0, bE, 0)
def mkI (r : Int × Int × Int) : Ans := bif (r.2.2 != 0) then noV r.2.2 else (1, r.1, 0, bE, 0)
def mkD (r : Int × Int × Int) : Ans := bif (r.2.2 != 0) then noV r.2.2 else (2, r.1, r.2.1, bE, 0)
def mkP (r : Int × Int × Int) : Ans := bif (r.2.2 != 0) then noV r.2.2 else (5, r.1, r.2.1, bE, 0)
def ngV (k n m : Int) (s : ByteArray) : Ans :=
  bif (k == 0) then (k, n, m, s, 0)
  else bif (k == 1) then mkI (sumM 0 m n m true)
  else bif (k == 2) then mkD (sumM 0 m n m true)
  else bif (k == 5) then (5, (tnV n m 2).1, (tnV n m 2).2, bE, 0)
  else noV 31
def unV (op k n m : Int) (s : ByteArray) : Ans :=
  bif !okV k n m s then noV 1
  else bif (op == 5) then ofV (bif (k == 0) then 1 else 0)
  else bif (op == 4) then (bif trB k n m s then ofV (notV (trN k n m s)) else noV 31)
  else bif (op == 3) then ngV k n m s
  else noV 1
end Go.Proofs.YtnchjdhepakokaaGreatDoorC
