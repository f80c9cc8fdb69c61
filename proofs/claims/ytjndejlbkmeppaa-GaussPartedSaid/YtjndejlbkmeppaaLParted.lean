import Derived.Test.YtjndejlbkmeppaaSpec2
import Derived.Test.YtjndejlbkmeppaaPParted
/- GaussParted answers true, whatever the points: products of three, and of a sum, are the same whichever is reckoned first. -/
namespace Go.Proofs.YtjndejlbkmeppaaG
open Go.Proofs Go.Proofs.YtjndejlbkmeppaaSx
theorem toV {P : Program} {f : Nat} {l : List Value} {v u : Value} (h : Does P f l v) (e : v = u) : Does P f l u := e ▸ h
/-- An answer is a point and a code, which is 0, 1 or 32; with code 0 all three may be. -/
theorem ans_told (x y z u X Y : Int) : ∃ a b e, ans x y z u X Y = pe a b e ∧ 0 ≤ e ∧ e ≤ 32 ∧ (e = 0 → a = X ∧ b = Y ∧ rt x y = true ∧ rt z u = true ∧ rt X Y = true) := by
  unfold ans
  cases rt x y <;> cases rt z u <;> cases rt X Y
  all_goals first
    | exact ⟨_, _, _, rfl, by decide, by decide, fun h => absurd h (by decide)⟩
    | exact ⟨_, _, _, rfl, by decide, by decide, fun _ => ⟨rfl, rfl, rfl, rfl, rfl⟩⟩
theorem ans_same {x y z u x' y' z' u' X Y X' Y' : Int} (h1 : rt x y = true) (h2 : rt z u = true) (h3 : rt x' y' = true) (h4 : rt z' u' = true) (e1 : X = X') (e2 : Y = Y') : ans x y z u X Y = ans x' y' z' u' X' Y' := by
  subst e1; subst e2
  unfold ans
  rw [h1, h2, h3, h4]
theorem parted_true (x y z u a b : Int) : Gives Try.prog 3 [pt x y, pt z u, pt a b] (.bool true) := by
  obtain ⟨a1, b1, e1, q1, l1, m1, t1⟩ := ans_told x y z u (x * z - y * u) (x * u + y * z)
  obtain ⟨a2, b2, e2, q2, l2, m2, t2⟩ := ans_told z u a b (z * a - u * b) (z * b + u * a)
  obtain ⟨a3, b3, e3, q3, l3, m3, t3⟩ := ans_told x y a b (x * a - y * b) (x * b + y * a)
  obtain ⟨a4, b4, e4, q4, l4, m4, t4⟩ := ans_told z u a b (z + a) (u + b)
  have w1 : IntKind.i64.wrap (IntKind.i64.wrap (IntKind.i64.wrap (e1 + e2) + e3) + e4) = e1 + e2 + e3 + e4 := by
    rw [wr (n := e1 + e2) (by omega) (by omega), wr (n := e1 + e2 + e3) (by omega) (by omega), wr (by omega) (by omega)]
  by_cases hz : e1 + e2 + e3 + e4 = 0
  · obtain ⟨rfl, rfl, r1, r2, r3⟩ := t1 (by omega)
    obtain ⟨rfl, rfl, _, r4, r5⟩ := t2 (by omega)
    obtain ⟨rfl, rfl, _, _, r6⟩ := t3 (by omega)
    obtain ⟨rfl, rfl, _, _, r7⟩ := t4 (by omega)
    obtain ⟨a5, b5, e5, q5, _⟩ := ans_told (x * z - y * u) (x * u + y * z) a b ((x * z - y * u) * a - (x * u + y * z) * b) ((x * z - y * u) * b + (x * u + y * z) * a)
    obtain ⟨a6, b6, e6, q6, _⟩ := ans_told x y (z + a) (u + b) (x * (z + a) - y * (u + b)) (x * (u + b) + y * (z + a))
    have p5 := (ans_same (X := x * (z * a - u * b) - y * (z * b + u * a)) (Y := x * (z * b + u * a) + y * (z * a - u * b)) r1 r5 r3 r4 (by grind) (by grind)).trans q5
    have p6 := (ans_same (X := (x * z - y * u) + (x * a - y * b)) (Y := (x * u + y * z) + (x * b + y * a)) r3 r6 r1 r7 (by grind) (by grind)).trans q6
    exact Parted2 (h0 := own_1 x y) (h1 := own_1 z u) (h2 := toV (Mul_spec x y z u) q1) (h3 := own_1 z u) (h4 := own_1 a b) (h5 := toV (Mul_spec z u a b) q2) (h6 := own_1 x y) (h7 := own_1 a b) (h8 := toV (Mul_spec x y a b) q3)
      (h9 := own_1 z u) (h10 := own_1 a b) (h11 := toV (Add_spec z u a b) q4) (h12 := num_1 e1) (h13 := num_1 e2) (h14 := num_1 e3) (h15 := num_1 e4) (h16 := by rw [w1, hz]; rfl)
      (h17 := own_1 a b) (h18 := toV (Mul_spec _ _ a b) q5) (h19 := own_1 x y) (h20 := toV (Mul_spec x y _ _) p5) (h21 := by simp) (h22 := by simp)
      (h23 := own_1 x y) (h24 := toV (Mul_spec x y _ _) q6) (h25 := toV (Add_spec _ _ _ _) p6) (h26 := by simp) (h27 := by simp) (h28 := knows_spec)
  · exact Parted1 (h0 := own_1 x y) (h1 := own_1 z u) (h2 := toV (Mul_spec x y z u) q1) (h3 := own_1 z u) (h4 := own_1 a b) (h5 := toV (Mul_spec z u a b) q2) (h6 := own_1 x y) (h7 := own_1 a b) (h8 := toV (Mul_spec x y a b) q3)
      (h9 := own_1 z u) (h10 := own_1 a b) (h11 := toV (Add_spec z u a b) q4) (h12 := num_1 e1) (h13 := num_1 e2) (h14 := num_1 e3) (h15 := num_1 e4) (h16 := by rw [w1]; simpa using hz) (h17 := knows_spec)
end Go.Proofs.YtjndejlbkmeppaaG
