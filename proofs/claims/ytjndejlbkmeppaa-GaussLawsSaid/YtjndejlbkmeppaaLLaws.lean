import Derived.Test.YtjndejlbkmeppaaSpec5
import Derived.Test.YtjndejlbkmeppaaPLaws
/- GaussLaws answers true: products can be turned round, their norm is the product of the norms; a point is the quotient times the divisor, and the rest, whose norm is at most half of the divisor's. -/
namespace Go.Proofs.YtjndejlbkmeppaaG
open Go.Proofs Go.Proofs.YtjndejlbkmeppaaSx
theorem toV {P : Program} {f : Nat} {l : List Value} {v u : Value} (h : Does P f l v) (e : v = u) : Does P f l u := e ▸ h
theorem ans_turn (x y z u : Int) : ans z u x y (z * x - u * y) (z * y + u * x) = ans x y z u (x * z - y * u) (x * u + y * z) := by
  have e1 : z * x - u * y = x * z - y * u := by grind
  have e2 : z * y + u * x = x * u + y * z := by grind
  rw [e1, e2]
  unfold ans
  rw [Bool.and_comm]
theorem ans_told2 (x y z u X Y : Int) : ∃ a b e, ans x y z u X Y = pe a b e ∧ (e = 0 → a = X ∧ b = Y ∧ rt x y = true ∧ rt z u = true ∧ rt X Y = true) := by
  unfold ans
  cases rt x y <;> cases rt z u <;> cases rt X Y
  all_goals first
    | exact ⟨_, _, _, rfl, fun h => absurd h (by decide)⟩
    | exact ⟨_, _, _, rfl, fun _ => ⟨rfl, rfl, rfl, rfl, rfl⟩⟩
theorem norm_mul {x y z u : Int} (h1 : rt x y = true) (h2 : rt z u = true) (h3 : rt (x * z - y * u) (x * u + y * z) = true) : nrm (x * z - y * u) (x * u + y * z) = IntKind.i64.wrap (nrm x y * nrm z u) := by
  unfold nrm
  rw [h1, h2, h3]
  simp only [cond_true]
  have e : (x * x + y * y) * (z * z + u * u) = (x * z - y * u) * (x * z - y * u) + (x * u + y * z) * (x * u + y * z) := by grind
  rw [e]
  rw [rt_iff] at h3
  generalize x * z - y * u = X at h3
  generalize x * u + y * z = Y at h3
  have a1 := cmul_bound (x := X) (y := X) (by omega) (by omega)
  have a2 := cmul_bound (x := Y) (y := Y) (by omega) (by omega)
  rw [wr (by omega) (by omega)]
theorem sq_le {a n : Int} (h1 : -n ≤ 2 * a) (h2 : 2 * a ≤ n) : 4 * (a * a) ≤ n * n := by
  have h3 : (2 * a).natAbs ≤ n.natAbs := by omega
  have h4 := Nat.mul_le_mul h3 h3
  have e1 : (((2 * a).natAbs * (2 * a).natAbs : Nat) : Int) = (2 * a) * (2 * a) := by rw [Int.natCast_mul]; exact Int.natAbs_mul_self
  have e2 : ((n.natAbs * n.natAbs : Nat) : Int) = n * n := by rw [Int.natCast_mul]; exact Int.natAbs_mul_self
  have h5 : (2 * a) * (2 * a) ≤ n * n := by rw [← e1, ← e2]; exact Int.ofNat_le.2 h4
  have e3 : (2 * a) * (2 * a) = 4 * (a * a) := by grind
  omega
/-- The rest's norm is at most half of the divisor's. -/
theorem rest_half {x y z u : Int} (hn : 0 < z * z + u * u) : 2 * (rx x y z u * rx x y z u + ry x y z u * ry x y z u) ≤ z * z + u * u := by
  have n1 := nst_le (a := x * z + y * u) hn
  have n2 := nst_le (a := y * z - x * u) hn
  unfold rx ry
  unfold qx qy
  generalize nst (x * z + y * u) (z * z + u * u) = c at n1
  generalize nst (y * z - x * u) (z * z + u * u) = d at n2
  have s1 := sq_le (a := x * z + y * u - c * (z * z + u * u)) (n := z * z + u * u) (by omega) (by omega)
  have s2 := sq_le (a := y * z - x * u - d * (z * z + u * u)) (n := z * z + u * u) (by omega) (by omega)
  have e : (z * z + u * u) * ((x - (z * c - u * d)) * (x - (z * c - u * d)) + (y - (z * d + u * c)) * (y - (z * d + u * c))) =
      (x * z + y * u - c * (z * z + u * u)) * (x * z + y * u - c * (z * z + u * u)) + (y * z - x * u - d * (z * z + u * u)) * (y * z - x * u - d * (z * z + u * u)) := by grind
  generalize (x - (z * c - u * d)) * (x - (z * c - u * d)) + (y - (z * d + u * c)) * (y - (z * d + u * c)) = R at e
  generalize z * z + u * u = N at hn e s1 s2
  have h : (2 * R) * N ≤ N * N := by
    have : (2 * R) * N = 2 * (N * R) := by grind
    omega
  exact Int.le_of_mul_le_mul_right h hn
/-- How a division may end. -/
theorem div_told (x y z u : Int) : ∃ a b c d e, divA x y z u = p2e a b c d e ∧ (e = 33 → nrm z u = 0) ∧ (e = 0 → a = qx x y z u ∧ b = qy x y z u ∧ c = rx x y z u ∧ d = ry x y z u ∧ rt x y = true ∧ rt z u = true ∧ (z == 0 && u == 0) = false ∧ rt c d = true) := by
  unfold divA
  cases h1 : rt x y with
  | false => exact ⟨_, _, _, _, _, rfl, fun h => absurd h (by decide), fun h => absurd h (by decide)⟩
  | true =>
    cases h2 : rt z u with
    | false => exact ⟨_, _, _, _, _, rfl, fun h => absurd h (by decide), fun h => absurd h (by decide)⟩
    | true =>
      cases h0 : (z == 0 && u == 0) with
      | true =>
        refine ⟨_, _, _, _, _, rfl, fun _ => ?_, fun h => absurd h (by decide)⟩
        simp at h0
        unfold nrm
        rw [h2, h0.1, h0.2]
        rfl
      | false =>
        cases h3 : rt (qx x y z u) (qy x y z u) with
        | false => exact ⟨_, _, _, _, _, rfl, fun h => absurd h (by decide), fun h => absurd h (by decide)⟩
        | true =>
          cases h4 : rt (rx x y z u) (ry x y z u) with
          | false => exact ⟨_, _, _, _, _, rfl, fun h => absurd h (by decide), fun h => absurd h (by decide)⟩
          | true => exact ⟨_, _, _, _, _, rfl, fun h => absurd h (by decide), fun _ => ⟨rfl, rfl, rfl, rfl, rfl, rfl, rfl, h4⟩⟩
theorem back {x y z u : Int} (h1 : rt x y = true) (h2 : rt z u = true) (h0 : (z == 0 && u == 0) = false) (h4 : rt (rx x y z u) (ry x y z u) = true) :
    (IntKind.i64.wrap (IntKind.i64.wrap (IntKind.i64.wrap (z * qx x y z u) - IntKind.i64.wrap (u * qy x y z u)) + rx x y z u) == x) = true ∧
    (IntKind.i64.wrap (IntKind.i64.wrap (IntKind.i64.wrap (z * qy x y z u) + IntKind.i64.wrap (u * qx x y z u)) + ry x y z u) == y) = true ∧
    decide (IntKind.i64.wrap (2 * nrm (rx x y z u) (ry x y z u)) ≤ nrm z u) = true := by
  have hn := nn_pos h0
  obtain ⟨q1, q2, q3, q4, q5, q6⟩ := quo_bounds h1 h2 hn
  have hr := rest_half (x := x) (y := y) hn
  have b1 := rt_iff.1 h1
  have b4 := rt_iff.1 h4
  have ex : z * qx x y z u - u * qy x y z u + rx x y z u = x := by unfold rx; omega
  have ey : z * qy x y z u + u * qx x y z u + ry x y z u = y := by unfold ry; omega
  refine ⟨?_, ?_, ?_⟩
  · rw [wr (n := z * qx x y z u) (by omega) (by omega), wr (n := u * qy x y z u) (by omega) (by omega), wr (n := z * qx x y z u - u * qy x y z u) (by omega) (by omega), ex, wr (by omega) (by omega)]
    simp
  · rw [wr (n := z * qy x y z u) (by omega) (by omega), wr (n := u * qx x y z u) (by omega) (by omega), wr (n := z * qy x y z u + u * qx x y z u) (by omega) (by omega), ey, wr (by omega) (by omega)]
    simp
  · have a1 := cmul_bound (x := rx x y z u) (y := rx x y z u) (by omega) (by omega)
    have a2 := cmul_bound (x := ry x y z u) (y := ry x y z u) (by omega) (by omega)
    refine decide_eq_true ?_
    unfold nrm
    rw [h4, h2]
    simp only [cond_true]
    rw [wr (by omega) (by omega)]
    exact hr
theorem laws_true (x y z u : Int) : Gives Try.prog 6 [pt x y, pt z u] (.bool true) := by
  obtain ⟨a1, b1, e1, q1, t1⟩ := ans_told2 x y z u (x * z - y * u) (x * u + y * z)
  have q2 := (ans_turn x y z u).trans q1
  obtain ⟨a3, b3, c3, d3, e3, q3, z3, t3⟩ := div_told x y z u
  have M1 := toV (Mul_spec x y z u) q1
  have M2 := toV (Mul_spec z u x y) q2
  have D1 := toV (Div_spec x y z u) q3
  by_cases he : e1 = 0
  · obtain ⟨rfl, rfl, r1, r2, r3⟩ := t1 he
    have hN := norm_mul r1 r2 r3
    by_cases h0 : e3 = 0
    · obtain ⟨rfl, rfl, rfl, rfl, s1, s2, s3, s4⟩ := t3 h0
      obtain ⟨k1, k2, k3⟩ := back s1 s2 s3 s4
      have := Laws3 (h0 := own_1 x y) (h1 := own_1 z u) (h2 := M1) (h3 := own_1 z u) (h4 := own_1 x y) (h5 := M2) (h6 := by simp) (h7 := by simp) (h8 := knows_spec) (h9 := rfl) (h10 := num_1 e1) (h11 := by simp [he])
        (h12 := Norm_spec _ _) (h13 := own_1 x y) (h14 := Norm_spec x y) (h15 := own_1 z u) (h16 := Norm_spec z u) (h17 := by rw [hN]; simp) (h18 := own_1 x y) (h19 := own_1 z u) (h20 := D1) (h21 := num_1 e3) (h22 := by simp [h0])
        (h23 := k1) (h24 := k2) (h25 := Norm_spec _ _) (h26 := own_1 z u) (h27 := Norm_spec z u)
      rwa [k3] at this
    · by_cases h3 : e3 = 33
      · have := Laws2 (h0 := own_1 x y) (h1 := own_1 z u) (h2 := M1) (h3 := own_1 z u) (h4 := own_1 x y) (h5 := M2) (h6 := by simp) (h7 := by simp) (h8 := knows_spec) (h9 := rfl) (h10 := num_1 e1) (h11 := by simp [he])
          (h12 := Norm_spec _ _) (h13 := own_1 x y) (h14 := Norm_spec x y) (h15 := own_1 z u) (h16 := Norm_spec z u) (h17 := by rw [hN]; simp) (h18 := own_1 x y) (h19 := own_1 z u) (h20 := D1) (h21 := num_1 e3) (h22 := by simp [h3])
          (h23 := num_1 e3) (h24 := by simp [h3]) (h25 := own_1 z u) (h26 := Norm_spec z u)
        rwa [z3 h3] at this
      · exact Laws1 (h0 := own_1 x y) (h1 := own_1 z u) (h2 := M1) (h3 := own_1 z u) (h4 := own_1 x y) (h5 := M2) (h6 := by simp) (h7 := by simp) (h8 := knows_spec) (h9 := rfl) (h10 := num_1 e1) (h11 := by simp [he])
          (h12 := Norm_spec _ _) (h13 := own_1 x y) (h14 := Norm_spec x y) (h15 := own_1 z u) (h16 := Norm_spec z u) (h17 := by rw [hN]; simp) (h18 := own_1 x y) (h19 := own_1 z u) (h20 := D1) (h21 := num_1 e3) (h22 := by simp [h0])
          (h23 := num_1 e3) (h24 := by simp [h3])
  · by_cases h0 : e3 = 0
    · obtain ⟨rfl, rfl, rfl, rfl, s1, s2, s3, s4⟩ := t3 h0
      obtain ⟨k1, k2, k3⟩ := back s1 s2 s3 s4
      have := Laws6 (h0 := own_1 x y) (h1 := own_1 z u) (h2 := M1) (h3 := own_1 z u) (h4 := own_1 x y) (h5 := M2) (h6 := by simp) (h7 := by simp) (h8 := knows_spec) (h9 := rfl) (h10 := num_1 e1) (h11 := by simp [he])
        (h12 := own_1 x y) (h13 := own_1 z u) (h14 := D1) (h15 := num_1 e3) (h16 := by simp [h0]) (h17 := k1) (h18 := k2) (h19 := Norm_spec _ _) (h20 := own_1 z u) (h21 := Norm_spec z u)
      rwa [k3] at this
    · by_cases h3 : e3 = 33
      · have := Laws5 (h0 := own_1 x y) (h1 := own_1 z u) (h2 := M1) (h3 := own_1 z u) (h4 := own_1 x y) (h5 := M2) (h6 := by simp) (h7 := by simp) (h8 := knows_spec) (h9 := rfl) (h10 := num_1 e1) (h11 := by simp [he])
          (h12 := own_1 x y) (h13 := own_1 z u) (h14 := D1) (h15 := num_1 e3) (h16 := by simp [h3]) (h17 := num_1 e3) (h18 := by simp [h3]) (h19 := own_1 z u) (h20 := Norm_spec z u)
        rwa [z3 h3] at this
      · exact Laws4 (h0 := own_1 x y) (h1 := own_1 z u) (h2 := M1) (h3 := own_1 z u) (h4 := own_1 x y) (h5 := M2) (h6 := by simp) (h7 := by simp) (h8 := knows_spec) (h9 := rfl) (h10 := num_1 e1) (h11 := by simp [he])
          (h12 := own_1 x y) (h13 := own_1 z u) (h14 := D1) (h15 := num_1 e3) (h16 := by simp [h0]) (h17 := num_1 e3) (h18 := by simp [h3])
end Go.Proofs.YtjndejlbkmeppaaG
