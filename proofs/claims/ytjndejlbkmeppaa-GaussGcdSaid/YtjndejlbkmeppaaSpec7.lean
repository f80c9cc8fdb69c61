import Derived.Test.YtjndejlbkmeppaaSpec6
/- Gcd: Euclid's rounds, the norm halved by each; then the turn into the first quarter. -/
namespace Go.Proofs.YtjndejlbkmeppaaG
open Go.Proofs Go.Proofs.YtjndejlbkmeppaaSx Go.Fl
set_option maxRecDepth 100000
theorem sq_le {a n : Int} (h1 : -n ≤ 2 * a) (h2 : 2 * a ≤ n) : 4 * (a * a) ≤ n * n := by
  have h3 : (2 * a).natAbs ≤ n.natAbs := by omega
  have h4 := Nat.mul_le_mul h3 h3
  have e1 : (((2 * a).natAbs * (2 * a).natAbs : Nat) : Int) = (2 * a) * (2 * a) := by rw [Int.natCast_mul]; exact Int.natAbs_mul_self
  have e2 : ((n.natAbs * n.natAbs : Nat) : Int) = n * n := by rw [Int.natCast_mul]; exact Int.natAbs_mul_self
  have h5 : (2 * a) * (2 * a) ≤ n * n := by rw [← e1, ← e2]; exact Int.ofNat_le.2 h4
  have e3 : (2 * a) * (2 * a) = 4 * (a * a) := by grind
  omega
/-- The rest's norm is at most half of the divisor's. -/
theorem rest_half {x y z u : Int} (hn : 0 < z * z + u * u) : 2 * (rx x y z u * rx x y z u + ry x y z u * ry x y z u) ≤ z * z + u * u := by
  have n1 := nst_le (a := x * z + y * u) hn
  have n2 := nst_le (a := y * z - x * u) hn
  unfold rx ry
  unfold qx qy
  generalize nst (x * z + y * u) (z * z + u * u) = c at n1
  generalize nst (y * z - x * u) (z * z + u * u) = d at n2
  have s1 := sq_le (a := x * z + y * u - c * (z * z + u * u)) (n := z * z + u * u) (by omega) (by omega)
  have s2 := sq_le (a := y * z - x * u - d * (z * z + u * u)) (n := z * z + u * u) (by omega) (by omega)
  have e : (z * z + u * u) * ((x - (z * c - u * d)) * (x - (z * c - u * d)) + (y - (z * d + u * c)) * (y - (z * d + u * c))) =
      (x * z + y * u - c * (z * z + u * u)) * (x * z + y * u - c * (z * z + u * u)) + (y * z - x * u - d * (z * z + u * u)) * (y * z - x * u - d * (z * z + u * u)) := by grind
  generalize (x - (z * c - u * d)) * (x - (z * c - u * d)) + (y - (z * d + u * c)) * (y - (z * d + u * c)) = R at e
  generalize z * z + u * u = N at hn e s1 s2
  have h : (2 * R) * N ≤ N * N := by
    have : (2 * R) * N = 2 * (N * R) := by grind
    omega
  exact Int.le_of_mul_le_mul_right h hn
def eu : Nat → Int × Int → Int × Int → Int × Int
  | 0, p, _ => p
  | n + 1, p, q => bif q.1 == 0 && q.2 == 0 then p else eu n q (rx p.1 p.2 q.1 q.2, ry p.1 p.2 q.1 q.2)
theorem abs_of_sq {a : Int} (h : a * a ≤ 1099511627776) : -1048576 ≤ a ∧ a ≤ 1048576 := by
  have e : ((a.natAbs * a.natAbs : Nat) : Int) = a * a := by rw [Int.natCast_mul]; exact Int.natAbs_mul_self
  have h2 : a.natAbs * a.natAbs ≤ 1048576 * 1048576 := by omega
  have h3 : a.natAbs ≤ 1048576 := by
    rcases Nat.lt_or_ge 1048576 a.natAbs with h | h
    · have := Nat.mul_lt_mul_of_lt_of_le h (Nat.le_of_lt h) (by omega)
      omega
    · exact h
  omega
theorem sq_nonneg (a : Int) : 0 ≤ a * a := by rw [← Int.natAbs_mul_self]; omega
theorem rest_right {x y z u : Int} (h2 : rt z u = true) (hn : 0 < z * z + u * u) : rt (rx x y z u) (ry x y z u) = true := by
  have h := rest_half (x := x) (y := y) hn
  rw [rt_iff] at h2
  have a1 := cmul_bound (x := z) (y := z) (by omega) (by omega)
  have a2 := cmul_bound (x := u) (y := u) (by omega) (by omega)
  generalize rx x y z u = X at h ⊢
  generalize ry x y z u = Y at h ⊢
  have s1 := sq_nonneg X
  have s2 := sq_nonneg Y
  have b1 := abs_of_sq (a := X) (by omega)
  have b2 := abs_of_sq (a := Y) (by omega)
  rw [rt_iff]
  omega
abbrev gcdS (j k l m : Nat) : List SV := [.x, .x, .x, .x, .p 4 0, .x, .v (cx j k), .v (cx l m)] ++ List.replicate 41 .x
abbrev gcdBx : List (Nat × SBox) := [(4, ⟨24, [it 0, it 0]⟩)]
theorem zero_cond {l m : Nat} {z u : Int} (fl' : Fl l z) (fm : Fl m u) : (!(FloatKind.f64.format.order l 0 == some Ordering.eq && FloatKind.f64.format.order m 0 == some Ordering.eq)) = !(z == 0 && u == 0) := by
  rw [ord_eq fl' fl_nil, ord_eq fm fl_nil]
  by_cases h1 : z = 0 <;> by_cases h2 : u = 0 <;> simp [h1, h2]
theorem gcd_loop (r : Nat) : ∀ (x y z u : Int) (j k l m n : Nat) (v : Value), Fl j x → Fl k y → Fl l z → Fl m u → rt x y = true → rt z u = true → z * z + u * u < 2 ^ r → r < n →
    (∀ j k l m, Fl j (eu r (x, y) (z, u)).1 → Fl k (eu r (x, y) (z, u)).2 → Fin Try.prog Try.f24 v gcdB (gcdS j k l m) gcdBx) → Fin Try.prog Try.f24 v (inK gcdA n) (gcdS j k l m) gcdBx := by
  induction r with
  | zero =>
    intro x y z u j k l m n v fj fk fl' fm h1 h2 hN hn hF
    obtain ⟨n, rfl⟩ : ∃ i, n = i + 1 := ⟨n - 1, by omega⟩
    have h0 : (z == 0 && u == 0) = true := by
      cases h0 : (z == 0 && u == 0) with
      | true => rfl
      | false =>
        have := nn_pos h0
        simp at hN
        omega
    refine fin_round (gcd1_2 0 0 0 0 j k l m n ?_ v (hF j k l m fj fk))
    rw [zero_cond fl' fm, h0]
    rfl
  | succ r ih =>
    intro x y z u j k l m n v fj fk fl' fm h1 h2 hN hn hF
    obtain ⟨n, rfl⟩ : ∃ i, n = i + 1 := ⟨n - 1, by omega⟩
    cases h0 : (z == 0 && u == 0) with
    | true =>
      have he : eu (r + 1) (x, y) (z, u) = (x, y) := by simp only [eu, h0, cond_true]
      rw [he] at hF
      refine fin_round (gcd1_2 0 0 0 0 j k l m n ?_ v (hF j k l m fj fk))
      rw [zero_cond fl' fm, h0]
      rfl
    | false =>
      have hp := nn_pos h0
      have he : eu (r + 1) (x, y) (z, u) = eu r (z, u) (rx x y z u, ry x y z u) := by simp only [eu, h0, cond_false]
      rw [he] at hF
      obtain ⟨a, b, c, d, e, fa, fb, fc, fd⟩ := parts_spec fj fk fl' fm h1 h2 hp
      refine fin_round (gcd1_1 0 0 0 0 j k l m n a b c d ?_ e v ?_)
      · rw [zero_cond fl' fm, h0]
        rfl
      · refine ih z u _ _ l m c d n v fl' fm fc fd h2 (rest_right h2 hp) ?_ (by omega) hF
        have := rest_half (x := x) (y := y) hp
        rw [Int.pow_succ] at hN
        omega
/-- In the first quarter, or nothing. -/
def inQ (p : Int × Int) : Bool := (p.1 == 0 && p.2 == 0) || (decide (0 < p.1) && decide (0 ≤ p.2))
def firstQ : Nat → Int × Int → Int × Int
  | 0, p => p
  | n + 1, p => bif inQ p then p else firstQ n (-p.2, p.1)
theorem firstQ_in (x y : Int) : inQ (firstQ 3 (x, y)) = true := by
  unfold firstQ
  cases h0 : inQ (x, y) with
  | true => exact h0
  | false =>
    unfold firstQ
    simp only [cond_false]
    cases h1 : inQ (-y, x) with
    | true => exact h1
    | false =>
      unfold firstQ
      simp only [cond_false]
      cases h2 : inQ (-x, -y) with
      | true => exact h2
      | false =>
        simp only [cond_false, firstQ]
        simp [inQ] at h0 h1 h2 ⊢
        omega
theorem quarter_loop (r : Nat) : ∀ (x y : Int) (j k l m n : Nat), Fl j x → Fl k y → x.natAbs ≤ 1048576 → y.natAbs ≤ 1048576 → inQ (firstQ r (x, y)) = true → r < n →
    Fin Try.prog Try.f24 (pe (firstQ r (x, y)).1 (firstQ r (x, y)).2 0) (inK gcdB n) (gcdS j k l m) gcdBx := by
  have stop : ∀ (x y : Int) (j k l m n : Nat), Fl j x → Fl k y → x.natAbs ≤ 1048576 → y.natAbs ≤ 1048576 → inQ (x, y) = true → Fin Try.prog Try.f24 (pe x y 0) (inK gcdB (n + 1)) (gcdS j k l m) gcdBx := by
    intro x y j k l m n fj fk hx hy hq
    refine fin_round ?_
    have e := of_spec fj fk (x := x) (y := y) (by omega) (by omega)
    cases h0 : (x == 0 && y == 0) with
    | true => exact gcd2_4 0 0 0 0 j k l m n x y (by rw [zero_cond fj fk, h0]; rfl) e
    | false =>
      have hq2 : 0 < x ∧ 0 ≤ y := by simpa [inQ, h0] using hq
      refine gcd2_3 0 0 0 0 j k l m n x y (by rw [zero_cond fj fk, h0]; rfl) ?_ ?_ e
      · rw [ord_lt fj fl_nil, ord_eq fj fl_nil]
        simp
        omega
      · rw [ord_lt fk fl_nil]
        simp
        omega
  induction r with
  | zero =>
    intro x y j k l m n fj fk hx hy hq hn
    obtain ⟨n, rfl⟩ : ∃ i, n = i + 1 := ⟨n - 1, by omega⟩
    exact stop x y j k l m n fj fk hx hy hq
  | succ r ih =>
    intro x y j k l m n fj fk hx hy hq hn
    obtain ⟨n, rfl⟩ : ∃ i, n = i + 1 := ⟨n - 1, by omega⟩
    cases h0 : inQ (x, y) with
    | true =>
      have e : firstQ (r + 1) (x, y) = (x, y) := by simp only [firstQ, h0, cond_true]
      rw [e]
      exact stop x y j k l m n fj fk hx hy h0
    | false =>
      have e : firstQ (r + 1) (x, y) = firstQ r (-y, x) := by simp only [firstQ, h0, cond_false]
      rw [e] at hq ⊢
      obtain ⟨a, b, e1, fa, fb⟩ := product_i fj fk hx hy
      have hr := ih (-y) x a b l m n fa fb (by omega) hx hq (by omega)
      have hz : (x == 0 && y == 0) = false := by
        cases hz : (x == 0 && y == 0) with
        | false => rfl
        | true => rw [inQ, hz] at h0; simp at h0
      refine fin_round ?_
      cases hx0 : decide (x ≤ 0) with
      | true =>
        refine gcd2_1 0 0 0 0 j k l m n a b (by rw [zero_cond fj fk, hz]; rfl) ?_ e1 _ hr
        rw [ord_lt fj fl_nil, ord_eq fj fl_nil]
        simp at hx0 ⊢
        omega
      | false =>
        refine gcd2_2 0 0 0 0 j k l m n a b (by rw [zero_cond fj fk, hz]; rfl) ?_ ?_ e1 _ hr
        · rw [ord_lt fj fl_nil, ord_eq fj fl_nil]
          simp at hx0 ⊢
          omega
        · rw [ord_lt fk fl_nil]
          simp [inQ] at hx0 h0 ⊢
          omega
end Go.Proofs.YtjndejlbkmeppaaG
