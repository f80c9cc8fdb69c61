import Derived.Test.YtjndejlbkmeppaaDv
/- A divisor leaves no rest. -/
namespace Go.Proofs.YtjndejlbkmeppaaG
open Go.Proofs Go.Proofs.YtjndejlbkmeppaaSx
theorem nst_exact {c N : Int} (h : 0 < N) : nst (c * N) N = c := by
  unfold nst
  refine div_is (by omega) ?_ ?_
  · rw [Int.mul_left_comm]; omega
  · rw [Int.mul_left_comm]; omega
theorem rt_turn' (x y : Int) : rt (-y) x = rt x y := by
  rw [Bool.eq_iff_iff, rt_iff, rt_iff]
  omega
theorem rt_first (k : Nat) : ∀ (p : Int × Int), rt (firstQ k p).1 (firstQ k p).2 = rt p.1 p.2 := by
  induction k with
  | zero => intro p; rfl
  | succ k ih =>
    intro p
    unfold firstQ
    cases inQ p with
    | true => rfl
    | false => rw [cond_false, ih]; exact rt_turn' p.1 p.2
theorem div_exact {x y z u : Int} (h : Dv (z, u) (x, y)) (h1 : rt x y = true) (h2 : rt z u = true) (h0 : (z == 0 && u == 0) = false) (hq : inQ (z, u) = true) :
    ∃ a b, divA x y z u = p2e a b 0 0 0 := by
  obtain ⟨c, d, e1, e2⟩ := h
  simp only at e1 e2
  have hp := nn_pos h0
  have k1 : qx x y z u = c := by
    unfold qx
    have : x * z + y * u = c * (z * z + u * u) := by rw [e1, e2]; grind
    rw [this]
    exact nst_exact hp
  have k2 : qy x y z u = d := by
    unfold qy
    have : y * z - x * u = d * (z * z + u * u) := by rw [e1, e2]; grind
    rw [this]
    exact nst_exact hp
  have k3 : rx x y z u = 0 := by unfold rx; rw [k1, k2, e1]; omega
  have k4 : ry x y z u = 0 := by unfold ry; rw [k1, k2, e2]; omega
  have hc : rt c d = true := by
    have hq2 : 0 < z ∧ 0 ≤ u := by simpa [inQ, h0] using hq
    have hn : x * x + y * y = (z * z + u * u) * (c * c + d * d) := by rw [e1, e2]; grind
    rw [rt_iff] at h1
    have a1 := cmul_bound (x := x) (y := x) (by omega) (by omega)
    have a2 := cmul_bound (x := y) (y := y) (by omega) (by omega)
    have s1 := sq_nonneg c
    have s2 := sq_nonneg d
    by_cases hN : z * z + u * u = 1
    · have hz : z = 1 := by
        have b1 := abs_of_sq (a := z) (by have := sq_nonneg u; omega)
        have : z * 1 ≤ z * z := Int.mul_le_mul_of_nonneg_left (by omega) (by omega)
        have := sq_nonneg u
        omega
      have hu : u = 0 := by
        rw [hz] at hN
        have : u * u = 0 := by omega
        rcases Int.mul_eq_zero.1 this with h | h <;> exact h
      rw [hz, hu] at e1 e2
      have ex : x = c := by omega
      have ey : y = d := by omega
      rw [← ex, ← ey, rt_iff]
      exact h1
    · have h3 : 2 * (c * c + d * d) ≤ (z * z + u * u) * (c * c + d * d) := Int.mul_le_mul_of_nonneg_right (by omega) (by omega)
      have b1 := abs_of_sq (a := c) (by omega)
      have b2 := abs_of_sq (a := d) (by omega)
      rw [rt_iff]
      omega
  have h1' : rt x y = true := h1
  refine ⟨c, d, ?_⟩
  unfold divA
  rw [k1, k2, k3, k4, h1', h2, h0, hc]
  rfl
end Go.Proofs.YtjndejlbkmeppaaG
