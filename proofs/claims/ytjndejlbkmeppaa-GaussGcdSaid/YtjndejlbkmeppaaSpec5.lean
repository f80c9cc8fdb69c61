import Derived.Test.YtjndejlbkmeppaaSpec4
/- parts: a quotient and the rest. -/
namespace Go.Proofs.YtjndejlbkmeppaaG
open Go.Proofs Go.Proofs.YtjndejlbkmeppaaSx Go.Fl
set_option maxRecDepth 100000
/-- The quotient's parts. -/
def qx (x y z u : Int) : Int := nst (x * z + y * u) (z * z + u * u)
def qy (x y z u : Int) : Int := nst (y * z - x * u) (z * z + u * u)
def rx (x y z u : Int) : Int := x - (z * qx x y z u - u * qy x y z u)
def ry (x y z u : Int) : Int := y - (z * qy x y z u + u * qx x y z u)
theorem two_le (p q : Nat) : 2 * (p * q) ≤ p * p + q * q := by
  rcases Nat.le_total p q with h | h
  · obtain ⟨d, rfl⟩ := Nat.exists_eq_add_of_le h
    have e1 : (p + d) * (p + d) = p * p + 2 * (p * d) + d * d := by grind
    have e2 : p * (p + d) = p * p + p * d := by grind
    rw [e1, e2]
    omega
  · obtain ⟨d, rfl⟩ := Nat.exists_eq_add_of_le h
    have e1 : (q + d) * (q + d) = q * q + 2 * (q * d) + d * d := by grind
    have e2 : (q + d) * q = q * q + q * d := by grind
    rw [e1, e2]
    omega
theorem nst_le {a n : Int} (hn : 0 < n) : 2 * (nst a n * n) ≤ 2 * a + n ∧ 2 * a + n < 2 * (nst a n * n) + 2 * n := by
  unfold nst
  have h1 := Int.ediv_mul_le (2 * a + n) (b := 2 * n) (by omega)
  have h2 := Int.lt_ediv_add_one_mul_self (2 * a + n) (b := 2 * n) (by omega)
  have e : ∀ z : Int, z * (2 * n) = 2 * (z * n) := fun z => by rw [Int.mul_left_comm]
  rw [Int.add_mul, e, Int.one_mul] at h2
  rw [e] at h1
  omega
/-- What a quotient's part times a divisor's part comes to. -/
theorem q_bound {a z u : Int} (hz : z.natAbs ≤ 1048576) (hu : u.natAbs ≤ 1048576) (hn : 0 < z * z + u * u) (ha : a.natAbs ≤ 1048576 * (z.natAbs + u.natAbs)) :
    (nst a (z * z + u * u)).natAbs * (z.natAbs + u.natAbs) ≤ 8388608 := by
  obtain ⟨S, hS⟩ : ∃ S, S = z.natAbs + u.natAbs := ⟨_, rfl⟩
  obtain ⟨c, hc⟩ : ∃ c, c = nst a (z * z + u * u) := ⟨_, rfl⟩
  have h1 := nst_le (a := a) hn
  rw [← hc] at h1 ⊢
  rw [← hS] at ha ⊢
  obtain ⟨N, hN⟩ : ∃ N : Nat, z * z + u * u = (N : Int) := ⟨(z * z + u * u).toNat, by omega⟩
  rw [hN] at h1 hn
  have hzz : (z.natAbs : Int) * z.natAbs = z * z := Int.natAbs_mul_self
  have huu : (u.natAbs : Int) * u.natAbs = u * u := Int.natAbs_mul_self
  have hN2 : N = z.natAbs * z.natAbs + u.natAbs * u.natAbs := by
    have : (N : Int) = ((z.natAbs * z.natAbs + u.natAbs * u.natAbs : Nat) : Int) := by
      rw [Int.natCast_add, Int.natCast_mul, Int.natCast_mul, hzz, huu, hN]
    exact Int.ofNat_inj.1 this
  -- S^2 <= 2 N, N <= S^2
  have s1 : S * S ≤ 2 * N := by
    rw [hS, hN2]
    generalize z.natAbs = p
    generalize u.natAbs = q
    have : (p + q) * (p + q) = p * p + q * q + 2 * (p * q) := by grind
    have h2 := two_le p q
    omega
  have s2 : N ≤ S * S := by
    rw [hS, hN2]
    generalize z.natAbs = p
    generalize u.natAbs = q
    have : (p + q) * (p + q) = p * p + q * q + 2 * (p * q) := by grind
    omega
  have s0 : 0 < S := by
    rcases Nat.eq_zero_or_pos S with h | h
    · rw [h] at s2; omega
    · exact h
  have hcN : c.natAbs * N ≤ a.natAbs + N := by
    have : (c * (N : Int)).natAbs = c.natAbs * N := by rw [Int.natAbs_mul, Int.natAbs_natCast]
    rw [← this]
    omega
  have h5 : c.natAbs * S * S ≤ 8388608 * S := by
    have g1 : c.natAbs * (S * S) ≤ c.natAbs * (2 * N) := Nat.mul_le_mul_left _ s1
    have g2 : c.natAbs * (2 * N) = 2 * (c.natAbs * N) := by rw [Nat.mul_left_comm]
    have g3 : S * S ≤ 2097152 * S := Nat.mul_le_mul_right _ (by omega)
    rw [Nat.mul_assoc]
    omega
  exact Nat.le_of_mul_le_mul_right h5 s0
theorem abs_mul_le {c z : Int} {S B : Nat} (h : c.natAbs * S ≤ B) (hz : z.natAbs ≤ S) : (z * c).natAbs ≤ B := by
  rw [Int.natAbs_mul, Nat.mul_comm]
  exact Nat.le_trans (Nat.mul_le_mul_left _ hz) h
theorem lin_bound {x y z u : Int} (hx : x.natAbs ≤ 1048576) (hy : y.natAbs ≤ 1048576) : (x * z + y * u).natAbs ≤ 1048576 * (z.natAbs + u.natAbs) := by
  have h1 : (x * z).natAbs ≤ 1048576 * z.natAbs := by rw [Int.natAbs_mul]; exact Nat.mul_le_mul_right _ hx
  have h2 : (y * u).natAbs ≤ 1048576 * u.natAbs := by rw [Int.natAbs_mul]; exact Nat.mul_le_mul_right _ hy
  rw [Nat.mul_add]
  omega
/-- The bounds of a quotient and its products. -/
theorem quo_bounds {x y z u : Int} (h1 : rt x y = true) (h2 : rt z u = true) (hn : 0 < z * z + u * u) :
    (z * qx x y z u).natAbs ≤ 8388608 ∧ (u * qx x y z u).natAbs ≤ 8388608 ∧ (z * qy x y z u).natAbs ≤ 8388608 ∧ (u * qy x y z u).natAbs ≤ 8388608 ∧ (qx x y z u).natAbs ≤ 8388608 ∧ (qy x y z u).natAbs ≤ 8388608 := by
  rw [rt_iff] at h1 h2
  have b1 := q_bound (a := x * z + y * u) (z := z) (u := u) (by omega) (by omega) hn (lin_bound (by omega) (by omega))
  have b2 := q_bound (a := y * z - x * u) (z := z) (u := u) (by omega) (by omega) hn (by
    have := lin_bound (x := y) (y := -x) (z := z) (u := u) (by omega) (by omega)
    rwa [Int.neg_mul, ← Int.sub_eq_add_neg] at this)
  have hS : 1 ≤ z.natAbs + u.natAbs := by
    rcases Nat.eq_zero_or_pos (z.natAbs + u.natAbs) with h | h
    · have hz : z = 0 := by omega
      have hu : u = 0 := by omega
      subst hz; subst hu
      simp at hn
    · exact h
  have c1 := Nat.le_trans (Nat.mul_le_mul_left (nst (x * z + y * u) (z * z + u * u)).natAbs hS) b1
  have c2 := Nat.le_trans (Nat.mul_le_mul_left (nst (y * z - x * u) (z * z + u * u)).natAbs hS) b2
  exact ⟨abs_mul_le b1 (by omega), abs_mul_le b1 (by omega), abs_mul_le b2 (by omega), abs_mul_le b2 (by omega), by unfold qx; omega, by unfold qy; omega⟩
theorem parts_mul {m n k l : Nat} {z u C D : Int} (fm : Fl m z) (fn : Fl n u) (f8 : Fl k C) (f9 : Fl l D) (q1 : (z * C).natAbs ≤ 8388608) (q4 : (u * D).natAbs ≤ 8388608) (q3 : (z * D).natAbs ≤ 8388608) (q2 : (u * C).natAbs ≤ 8388608) :
    ∃ a b, Does Try.prog 33 [cx m n, cx k l] (cx a b) ∧ Fl a (z * C - u * D) ∧ Fl b (z * D + u * C) :=
  product_spec fm fn f8 f9 (by omega) (by omega) (by omega) (by omega)
theorem parts_spec {k l m n : Nat} {x y z u : Int} (fk : Fl k x) (fl' : Fl l y) (fm : Fl m z) (fn : Fl n u) (h1 : rt x y = true) (h2 : rt z u = true) (hn : 0 < z * z + u * u) :
    ∃ a b c d, Does Try.prog 40 [cx k l, cx m n] (.tuple #[cx a b, cx c d]) ∧ Fl a (qx x y z u) ∧ Fl b (qy x y z u) ∧ Fl c (rx x y z u) ∧ Fl d (ry x y z u) := by
  obtain ⟨q1, q2, q3, q4, q5, q6⟩ := quo_bounds h1 h2 hn
  rw [rt_iff] at h1 h2
  have a1 := cmul_bound (x := z) (y := z) (by omega) (by omega)
  have a2 := cmul_bound (x := u) (y := -u) (by omega) (by omega)
  have a3 := cmul_bound (x := z) (y := -u) (by omega) (by omega)
  have a4 := cmul_bound (x := u) (y := z) (by omega) (by omega)
  have a5 := cmul_bound (x := x) (y := z) (by omega) (by omega)
  have a6 := cmul_bound (x := y) (y := -u) (by omega) (by omega)
  have a7 := cmul_bound (x := x) (y := -u) (by omega) (by omega)
  have a8 := cmul_bound (x := y) (y := z) (by omega) (by omega)
  have a9 := cmul_bound (x := u) (y := u) (by omega) (by omega)
  obtain ⟨n0, n1, e0, f0, f1⟩ := conj_spec fm fn
  obtain ⟨n2, n3, e1, f2, f3⟩ := product_spec fm fn f0 f1 (by omega) (by omega) (by omega) (by omega)
  obtain ⟨n6, n7, e2, f6, f7⟩ := product_spec fk fl' f0 f1 (by omega) (by omega) (by omega) (by omega)
  have w1 : z * z - u * -u = z * z + u * u := by rw [Int.mul_neg]; omega
  have w2 : x * z - y * -u = x * z + y * u := by rw [Int.mul_neg]; omega
  have w3 : x * -u + y * z = y * z - x * u := by rw [Int.mul_neg]; omega
  rw [w1] at f2
  rw [w2] at f6
  rw [w3] at f7
  rw [Int.mul_neg] at a2 a6 a7
  obtain ⟨n8, e3, f8⟩ := near_spec f6 f2 hn (by omega) (by omega) (by omega)
  obtain ⟨n9, e4, f9⟩ := near_spec f7 f2 hn (by omega) (by omega) (by omega)
  obtain ⟨C, hC⟩ : ∃ C, C = qx x y z u := ⟨_, rfl⟩
  obtain ⟨D, hD⟩ : ∃ D, D = qy x y z u := ⟨_, rfl⟩
  have g8 : Fl n8 C := by rw [hC]; unfold qx; exact f8
  have g9 : Fl n9 D := by rw [hD]; unfold qy; exact f9
  rw [← hC] at q1 q2 q5
  rw [← hD] at q3 q4 q6
  obtain ⟨n10, n11, e5, f10, f11⟩ := parts_mul fm fn g8 g9 q1 q4 q3 q2
  obtain ⟨n12, g12, f12⟩ := fl_sub fk f10 (by omega)
  obtain ⟨n13, g13, f13⟩ := fl_sub fl' f11 (by omega)
  refine ⟨n8, n9, n12, n13, parts_1 k l m n n0 n1 n2 n3 n0 n1 n6 n7 n8 n9 n10 n11 n12 n13 e0 e1 e0 e2 e3 e4 e5 (by simp [cSumBits, g12, g13]), ?_, ?_, ?_, ?_⟩
  · rw [← hC]; exact g8
  · rw [← hD]; exact g9
  · unfold rx; rw [← hC, ← hD]; exact f12
  · unfold ry; rw [← hC, ← hD]; exact f13
/-- What Div answers. -/
def divA (x y z u : Int) : Value :=
  bif rt x y && rt z u then (bif z == 0 && u == 0 then p2e 0 0 0 0 33 else bif rt (qx x y z u) (qy x y z u) && rt (rx x y z u) (ry x y z u) then p2e (qx x y z u) (qy x y z u) (rx x y z u) (ry x y z u) 0 else p2e 0 0 0 0 32)
  else p2e 0 0 0 0 1
theorem nn_pos {z u : Int} (h : (z == 0 && u == 0) = false) : 0 < z * z + u * u := by
  have h1 : ∀ a : Int, 0 ≤ a * a := fun a => by rw [← Int.natAbs_mul_self]; omega
  have h2 := h1 z
  have h3 := h1 u
  have h4 : ∀ a : Int, a * a = 0 → a = 0 := fun a h => by rcases Int.mul_eq_zero.1 h with h | h <;> exact h
  by_cases hz : z * z = 0
  · by_cases hu : u * u = 0
    · rw [h4 z hz, h4 u hu] at h
      simp at h
    · omega
  · omega
theorem Div_spec (x y z u : Int) : Does Try.prog 23 [pt x y, pt z u] (divA x y z u) := by
  unfold divA
  cases h1 : rt x y with
  | false => exact Div_1 x y z u false (h1 ▸ Right_spec x y) rfl
  | true =>
    cases h2 : rt z u with
    | false => exact Div_2 x y z u true false (h1 ▸ Right_spec x y) rfl (h2 ▸ Right_spec z u) rfl
    | true =>
      cases h0 : (z == 0 && u == 0) with
      | true => exact Div_3 x y z u true true (h1 ▸ Right_spec x y) rfl (h2 ▸ Right_spec z u) rfl (by simpa using h0)
      | false =>
        have hn := nn_pos h0
        have h0' : (z == 0 && (u == 0 && true)) = false := by simpa using h0
        obtain ⟨a, b, e1, fa, fb⟩ := z_spec h1
        obtain ⟨c, d, e2, fc, fd⟩ := z_spec h2
        obtain ⟨e, f, g, h, e3, fe, ff, fg, fh⟩ := parts_spec fa fb fc fd h1 h2 hn
        obtain ⟨q1, q2, q3, q4, q5, q6⟩ := quo_bounds h1 h2 hn
        have b1 := rt_iff.1 h1
        have e4 := of_spec fe ff (by omega) (by omega)
        have e5 := of_spec fg fh (by unfold rx; omega) (by unfold ry; omega)
        cases h3 : rt (qx x y z u) (qy x y z u) with
        | false => exact Div_4 x y z u true true a b c d e f g h _ _ _ _ false (h1 ▸ Right_spec x y) rfl (h2 ▸ Right_spec z u) rfl h0' e1 e2 e3 e4 e5 (h3 ▸ Right_spec _ _) rfl
        | true =>
          cases h4 : rt (rx x y z u) (ry x y z u) with
          | false => exact Div_5 x y z u true true a b c d e f g h _ _ _ _ true false (h1 ▸ Right_spec x y) rfl (h2 ▸ Right_spec z u) rfl h0' e1 e2 e3 e4 e5 (h3 ▸ Right_spec _ _) rfl (h4 ▸ Right_spec _ _) rfl
          | true => exact Div_6 x y z u true true a b c d e f g h _ _ _ _ true true (h1 ▸ Right_spec x y) rfl (h2 ▸ Right_spec z u) rfl h0' e1 e2 e3 e4 e5 (h3 ▸ Right_spec _ _) rfl (h4 ▸ Right_spec _ _) rfl
end Go.Proofs.YtjndejlbkmeppaaG
