/- What the reference's decimals come to: the same. -/
import Derived.Test.YtcneenlcbjicnaaDoorSH
import Derived.Test.YtcneenlcbjicnaaDoorPD2
namespace Go.Proofs.YtcneenlcbjicnaaDoorC
open Go.Proofs Go.Proofs.YtcneenlcbjicnaaDoorSx
set_option maxRecDepth 100000
set_option linter.unusedVariables false
theorem rright_does (u x : Int) : Does cE 24 [] 0 [.v (dc u x)] (.v (.bool (decide (sc6 x)))) [] 0 := by
  by_cases h : x ≥ 0
  · have e : decide (sc6 x) = decide (x ≤ 6) := by rw [decide_eq_decide]; omega
    rw [e]
    exact rrt_1 u x (by simpa using h)
  · have e : decide (sc6 x) = false := decide_eq_false (by omega)
    rw [e]
    exact rrt_2 u x (by simpa using h)
theorem rscl_does {u x sc : Int} (hu : I64 u) (hx : I64 x) (h0 : 0 ≤ sc - x) (h1 : sc - x ≤ 12) : Does cE 52 [] 0 [.v (dc u x), .v (it sc)] (.v (W (ab u * p10 (sc - x)) (ng u))) [] 0 :=
  rscaled_does hu (sc - x).toNat (by omega) hx (by omega)
theorem pw_does {z : Int} (h0 : 0 ≤ z) (h1 : z ≤ 12) : Does cE 16 [] 0 [.v (it z)] (.v (it (p10 z))) [] 0 := by
  have := power_does z.toNat (by omega)
  rw [show ((z.toNat : Nat) : Int) = z by omega] at this
  exact this
theorem ofp_does {z : Int} (h1 : z ≤ 12) : Does cE 49 [] 0 [.v (it (p10 z))] (.v (W (p10 z) false)) [] 0 := by
  have hp := p10_le h1
  have ha := ab_spec (p10 z)
  have := rof_does (n := p10 z) (by omega)
  rw [show ab (p10 z) = p10 z by omega, show ng (p10 z) = false from decide_eq_false (by omega)] at this
  exact this
theorem rresc_does {u x sc : Int} (hu : I64 u) (hx : I64 x) (hs : I64 sc) : Does cE 22 [] 0 [.v (dc u x), .v (it sc)] (.v (ans (rescM u x sc))) [] 0 := by
  have hr := rright_does u x
  have hb := ab_bound hu
  unfold rescM
  by_cases hx6 : sc6 x
  · rw [decide_eq_true hx6] at hr
    by_cases h1 : sc < 0
    · rw [if_neg (by omega)]
      exact rresc_2 u x sc true hr rfl (by simpa using h1)
    · by_cases h2 : sc > 6
      · rw [if_neg (by omega)]
        exact rresc_3 u x sc true hr rfl (by simpa using h1) (by simpa using h2)
      · rw [if_pos (by omega)]
        by_cases hge : sc ≥ x
        · rw [if_pos hge]
          have hm := up_mul (z := sc - x) hu (by omega)
          exact rresc_4 (h0 := hr) (h1 := rfl) (h2 := by simpa using h1) (h3 := by simpa using h2) (h4 := by simpa using hge) (h5 := rscl_does hu hx (by omega) (by omega)) (h6 := rback_does hm.1 (by unfold big192; omega) _ _)
        · rw [if_neg hge]
          have hp := p10_le (z := x - sc) (by omega)
          have w : IntKind.i64.wrap (x - sc) = x - sc := wrap64 (by omega) (by omega)
          have hl := rnd_le hb.1 (y := p10 (x - sc)) (by omega)
          have hn := rnd_nonneg hb.1 (y := p10 (x - sc)) (by omega)
          exact rresc_5 (h0 := hr) (h1 := rfl) (h2 := by simpa using h1) (h3 := by simpa using h2) (h4 := by simpa using hge) (h5 := rof_does hu) (h6 := by rw [w]; exact pw_does (by omega) (by omega)) (h7 := ofp_does (by omega)) (h8 := rounded_does (by unfold big192; omega) (by omega) (by unfold big192; omega) (ng u) false) (h9 := rback_does hn (by unfold big192; omega) _ _)
  · rw [decide_eq_false hx6] at hr
    rw [if_neg (by omega)]
    exact rresc_1 u x sc false hr rfl
theorem rsum2_does {u x v y : Int} (hu : I64 u) (hx : I64 x) (hv : I64 v) (hy : I64 y) (hx6 : sc6 x) (hy6 : sc6 y) (t : Bool) :
    Does cE 52 [] 0 [.v (dc u x), .v (it (mx x y))] (.v (W (ab u * p10 (mx x y - x)) (ng u))) [] 0 ∧ Does cE 52 [] 0 [.v (dc v y), .v (it (mx x y))] (.v (W (ab v * p10 (mx x y - y)) (ng v))) [] 0 ∧
    Does cE 54 [] 0 [.v (W (ab u * p10 (mx x y - x)) (ng u)), .v (W (ab v * p10 (mx x y - y)) t)] (.v (W (addM (ab u * p10 (mx x y - x)) (ng u) (ab v * p10 (mx x y - y)) t).1 (addM (ab u * p10 (mx x y - x)) (ng u) (ab v * p10 (mx x y - y)) t).2)) [] 0 ∧
    Does cE 51 [] 0 [.v (W (addM (ab u * p10 (mx x y - x)) (ng u) (ab v * p10 (mx x y - y)) t).1 (addM (ab u * p10 (mx x y - x)) (ng u) (ab v * p10 (mx x y - y)) t).2), .v (it (mx x y))] (.v (ans (fitP (addM (ab u * p10 (mx x y - x)) (ng u) (ab v * p10 (mx x y - y)) t).1 (addM (ab u * p10 (mx x y - x)) (ng u) (ab v * p10 (mx x y - y)) t).2 (mx x y)))) [] 0 := by
  have hmx : mx x y ≤ 6 ∧ x ≤ mx x y ∧ y ≤ mx x y := by unfold mx; split <;> omega
  have m1 := up_mul (z := mx x y - x) hu (by omega)
  have m2 := up_mul (z := mx x y - y) hv (by omega)
  have hb := addM_bound (B := 0) m1.1 m2.1 (ng u) t
  exact ⟨rscl_does hu hx (by omega) (by omega), rscl_does hv hy (by omega) (by omega), rsum_does m1.1 m2.1 (by unfold big192; omega) _ _, rback_does hb.1 (by unfold big192; omega) _ _⟩
theorem radd_does {u x v y : Int} (hu : I64 u) (hx : I64 x) (hv : I64 v) (hy : I64 y) : Does cE 28 [] 0 [.v (dc u x), .v (dc v y)] (.v (ans (sumM u x v y false))) [] 0 := by
  have h1 := rright_does u x
  have h2 := rright_does v y
  unfold sumM
  by_cases hx6 : sc6 x
  · rw [decide_eq_true hx6] at h1
    by_cases hy6 : sc6 y
    · rw [decide_eq_true hy6] at h2
      rw [if_pos ⟨hx6, hy6⟩]
      obtain ⟨a1, a2, a3, a4⟩ := rsum2_does hu hx hv hy hx6 hy6 (ng v)
      have e : (ng v != false) = ng v := by simp
      rw [e]
      exact radd_3 (h0 := h1) (h1 := rfl) (h2 := h2) (h3 := rfl) (h4 := a1) (h5 := a2) (h6 := a3) (h7 := a4)
    · rw [decide_eq_false hy6] at h2
      rw [if_neg (by omega)]
      exact radd_2 u x v y true false h1 rfl h2 rfl
  · rw [decide_eq_false hx6] at h1
    rw [if_neg (by omega)]
    exact radd_1 u x v y false h1 rfl
theorem rsub_does {u x v y : Int} (hu : I64 u) (hx : I64 x) (hv : I64 v) (hy : I64 y) : Does cE 29 [] 0 [.v (dc u x), .v (dc v y)] (.v (ans (sumM u x v y true))) [] 0 := by
  have h1 := rright_does u x
  have h2 := rright_does v y
  unfold sumM
  by_cases hx6 : sc6 x
  · rw [decide_eq_true hx6] at h1
    by_cases hy6 : sc6 y
    · rw [decide_eq_true hy6] at h2
      rw [if_pos ⟨hx6, hy6⟩]
      obtain ⟨a1, a2, a3, a4⟩ := rsum2_does hu hx hv hy hx6 hy6 (!ng v)
      have e : (ng v != true) = !ng v := by simp
      rw [e]
      exact rsub_3 (h0 := h1) (h1 := rfl) (h2 := h2) (h3 := rfl) (h4 := a2) (h5 := a1) (h6 := a3) (h7 := a4)
    · rw [decide_eq_false hy6] at h2
      rw [if_neg (by omega)]
      exact rsub_2 u x v y true false h1 rfl h2 rfl
  · rw [decide_eq_false hx6] at h1
    rw [if_neg (by omega)]
    exact rsub_1 u x v y false h1 rfl
theorem rneg_does {u x : Int} (hu : I64 u) (hx : I64 x) : Does cE 30 [] 0 [.v (dc u x)] (.v (ans (sumM 0 x u x true))) [] 0 :=
  rneg_1 (h0 := rsub_does (by decide) hx hu hx)
theorem rmul_does {u x v y : Int} (hu : I64 u) (hx : I64 x) (hv : I64 v) (hy : I64 y) : Does cE 19 [] 0 [.v (dc u x), .v (dc v y)] (.v (ans (mulM u x v y))) [] 0 := by
  have h1 := rright_does u x
  have h2 := rright_does v y
  have hbu := ab_bound hu
  have hbv := ab_bound hv
  have hm := mul_small hbu hbv
  unfold mulM
  by_cases hx6 : sc6 x
  · rw [decide_eq_true hx6] at h1
    by_cases hy6 : sc6 y
    · rw [decide_eq_true hy6] at h2
      rw [if_pos ⟨hx6, hy6⟩]
      have ht := W_times (x := ab u) (y := ab v) (by unfold big192; omega) (by unfold big192; omega) (by unfold big192; omega) (ng u) (ng v)
      have w1 : IntKind.i64.wrap (x + y) = x + y := wrap64 (by omega) (by omega)
      have w2 : IntKind.i64.wrap (x + y - 6) = x + y - 6 := wrap64 (by omega) (by omega)
      by_cases h6 : x + y > 6
      · rw [if_pos h6]
        have hp := p10_le (z := x + y - 6) (by omega)
        have hl := rnd_le hm.1 (y := p10 (x + y - 6)) (by omega)
        have hn := rnd_nonneg hm.1 (y := p10 (x + y - 6)) (by omega)
        exact rmul_3 (h0 := h1) (h1 := rfl) (h2 := h2) (h3 := rfl) (h4 := rof_does hu) (h5 := rof_does hv) (h6 := ht) (h7 := by rw [w1]; simpa using h6) (h8 := by rw [w1, w2]; exact pw_does (by omega) (by omega)) (h9 := ofp_does (by omega))
          (h10 := rounded_does (by unfold big192; omega) (by omega) (by unfold big192; omega) (ng u != ng v) false) (h11 := rback_does hn (by unfold big192; omega) _ _)
      · rw [if_neg h6]
        have hback := rback_does hm.1 (by unfold big192; omega) (ng u != ng v) (x + y)
        exact rmul_4 (h0 := h1) (h1 := rfl) (h2 := h2) (h3 := rfl) (h4 := rof_does hu) (h5 := rof_does hv) (h6 := ht) (h7 := by rw [w1]; simpa using h6) (h8 := by rw [w1]; exact hback)
    · rw [decide_eq_false hy6] at h2
      rw [if_neg (by omega)]
      exact rmul_2 u x v y true false h1 rfl h2 rfl
  · rw [decide_eq_false hx6] at h1
    rw [if_neg (by omega)]
    exact rmul_1 u x v y false h1 rfl
theorem rdiv_does {u x v y sc : Int} (hu : I64 u) (hx : I64 x) (hv : I64 v) (hy : I64 y) (hs : I64 sc) : Does cE 21 [] 0 [.v (dc u x), .v (dc v y), .v (it sc)] (.v (ans (divM u x v y sc))) [] 0 := by
  have h1 := rright_does u x
  have h2 := rright_does v y
  have hbu := ab_bound hu
  have hbv := ab_bound hv
  unfold divM
  by_cases hx6 : sc6 x
  · rw [decide_eq_true hx6] at h1
    by_cases hy6 : sc6 y
    · rw [decide_eq_true hy6] at h2
      by_cases s1 : sc < 0
      · rw [if_neg (by omega)]
        exact rdiv_3 u x v y sc true true h1 rfl h2 rfl (by simpa using s1)
      · by_cases s2 : sc > 6
        · rw [if_neg (by omega)]
          exact rdiv_4 u x v y sc true true h1 rfl h2 rfl (by simpa using s1) (by simpa using s2)
        · rw [if_pos (by omega)]
          by_cases hv0 : v = 0
          · rw [if_pos hv0]
            exact rdiv_5 u x v y sc true true h1 rfl h2 rfl (by simpa using s1) (by simpa using s2) (by simpa using hv0)
          · rw [if_neg hv0]
            have w1 : IntKind.i64.wrap (y + sc) = y + sc := wrap64 (by omega) (by omega)
            have hp1 := p10_le (z := y + sc) (by omega)
            have hp2 := p10_le (z := x) (by omega)
            have m1 := up_mul (z := y + sc) hu (by omega)
            have m2 := up_mul (z := x) hv (by omega)
            have hpos : 0 < ab v * p10 x := Int.mul_pos (ab_pos hv0) (by omega)
            have hl := rnd_le m1.1 hpos
            have hn := rnd_nonneg m1.1 hpos
            have t1 := W_times (x := ab u) (y := p10 (y + sc)) (by unfold big192; omega) (by unfold big192; omega) (by unfold big192; omega) (ng u) false
            have t2 := W_times (x := ab v) (y := p10 x) (by unfold big192; omega) (by unfold big192; omega) (by unfold big192; omega) (ng v) false
            exact rdiv_6 (h0 := h1) (h1 := rfl) (h2 := h2) (h3 := rfl) (h4 := by simpa using s1) (h5 := by simpa using s2) (h6 := by simpa using hv0) (h7 := rof_does hu) (h8 := by rw [w1]; exact pw_does (by omega) (by omega)) (h9 := ofp_does (by omega)) (h10 := t1)
              (h11 := rof_does hv) (h12 := pw_does (by omega) (by omega)) (h13 := ofp_does (by omega)) (h14 := t2) (h15 := rounded_does (by unfold big192; omega) hpos (by unfold big192; omega) (ng u != ng v) false) (h16 := rback_does hn (by unfold big192; omega) _ _)
    · rw [decide_eq_false hy6] at h2
      rw [if_neg (by omega)]
      exact rdiv_2 u x v y sc true false h1 rfl h2 rfl
  · rw [decide_eq_false hx6] at h1
    rw [if_neg (by omega)]
    exact rdiv_1 u x v y sc false h1 rfl
theorem rcmp_does {u x v y : Int} (hu : I64 u) (hx : I64 x) (hv : I64 v) (hy : I64 y) : Does cE 31 [] 0 [.v (dc u x), .v (dc v y)] (.v (it (cmpM u x v y))) [] 0 := by
  have h1 := rright_does u x
  have h2 := rright_does v y
  unfold cmpM
  by_cases hx6 : sc6 x
  · rw [decide_eq_true hx6] at h1
    by_cases hy6 : sc6 y
    · rw [decide_eq_true hy6] at h2
      rw [if_pos ⟨hx6, hy6⟩]
      have m1 := up_mul (z := 6 - x) hu (by omega)
      have m2 := up_mul (z := 6 - y) hv (by omega)
      have hb := addM_bound (B := 0) m1.1 m2.1 (ng u) (!ng v)
      have hs := rsum_does m1.1 m2.1 (by unfold big192; omega) (ng u) (!ng v)
      have s1 := rscl_does (sc := 6) hu hx (by omega) (by omega)
      have s2 := rscl_does (sc := 6) hv hy (by omega) (by omega)
      generalize addM (ab u * p10 (6 - x)) (ng u) (ab v * p10 (6 - y)) (!ng v) = D at hb hs
      obtain ⟨d, e⟩ := D
      simp only at hb hs ⊢
      have hz := W_zero (x := d) (by unfold big192; omega) e
      by_cases h0 : d = 0
      · rw [if_pos h0]
        rw [decide_eq_true h0] at hz
        exact rcmp_3 (h0 := h1) (h1 := rfl) (h2 := h2) (h3 := rfl) (h4 := s2) (h5 := s1) (h6 := hs) (h7 := hz) (h8 := rfl)
      · rw [if_neg h0]
        rw [decide_eq_false h0] at hz
        cases e with
        | true => exact rcmp_4 (h0 := h1) (h1 := rfl) (h2 := h2) (h3 := rfl) (h4 := s2) (h5 := s1) (h6 := hs) (h7 := hz) (h8 := rfl) (h9 := rfl)
        | false => exact rcmp_5 (h0 := h1) (h1 := rfl) (h2 := h2) (h3 := rfl) (h4 := s2) (h5 := s1) (h6 := hs) (h7 := hz) (h8 := rfl) (h9 := rfl)
    · rw [decide_eq_false hy6] at h2
      rw [if_neg (by omega)]
      exact rcmp_2 u x v y true false h1 rfl h2 rfl
  · rw [decide_eq_false hx6] at h1
    rw [if_neg (by omega)]
    exact rcmp_1 u x v y false h1 rfl
theorem p10_zero : p10 0 = 1 := rfl
theorem sumM0 (u v : Int) : sumM u 0 v 0 false = fitP (addM (ab u) (ng u) (ab v) (ng v)).1 (addM (ab u) (ng u) (ab v) (ng v)).2 0 := by
  have e : (ng v != false) = ng v := by simp
  unfold sumM
  rw [if_pos (by decide), show mx 0 0 = 0 from rfl, show (0 : Int) - 0 = 0 from rfl, p10_zero, Int.mul_one, Int.mul_one, e]
theorem mulM0 (u v : Int) : mulM u 0 v 0 = fitP (ab u * ab v) (ng u != ng v) 0 := by
  unfold mulM
  rw [if_pos (by decide), if_neg (by decide)]
  rfl
theorem raddi_does {u v : Int} (hu : I64 u) (hv : I64 v) : Does cE 34 [] 0 [.v (it u), .v (it v)] (.v (.tuple #[it (sumM u 0 v 0 false).1, it (sumM u 0 v 0 false).2.2])) [] 0 := by
  have hbu := ab_bound hu
  have hbv := ab_bound hv
  have hb := addM_bound (B := 0) hbu.1 hbv.1 (ng u) (ng v)
  rw [sumM0]
  exact raddi_1 (h0 := rof_does hu) (h1 := rof_does hv) (h2 := rsum_does hbu.1 hbv.1 (by unfold big192; omega) _ _) (h3 := rback_does hb.1 (by unfold big192; omega) _ _)
theorem rmuli_does {u v : Int} (hu : I64 u) (hv : I64 v) : Does cE 36 [] 0 [.v (it u), .v (it v)] (.v (.tuple #[it (mulM u 0 v 0).1, it (mulM u 0 v 0).2.2])) [] 0 := by
  have hbu := ab_bound hu
  have hbv := ab_bound hv
  have hm := mul_small hbu hbv
  have ht := W_times (x := ab u) (y := ab v) (by unfold big192; omega) (by unfold big192; omega) (by unfold big192; omega) (ng u) (ng v)
  rw [mulM0]
  exact rmuli_1 (h0 := rof_does hu) (h1 := rof_does hv) (h2 := ht) (h3 := rback_does hm.1 (by unfold big192; omega) (ng u != ng v) 0)
end Go.Proofs.YtcneenlcbjicnaaDoorC
