import Derived.Test.YtjndejlbkmeppaaSpec3
import Derived.Test.YtjndejlbkmeppaaFl2
import Derived.Laws.Externs
/- near: the quotient to the nearest whole number. -/
namespace Go.Proofs.YtjndejlbkmeppaaG
open Go.Proofs Go.Proofs.YtjndejlbkmeppaaSx Go.Fl Ieee
set_option maxRecDepth 100000
theorem ac1 (q n A B C : Nat) : 2 * q * A * (n * B * C) = 2 * (q * n) * (A * (B * C)) := by
  simp only [Nat.mul_assoc, Nat.mul_left_comm, Nat.mul_comm]
theorem ac2 (a E F G : Nat) : 8 * a * E * (F * G) = 8 * (a * F) * (E * G) := by
  simp only [Nat.mul_assoc, Nat.mul_left_comm, Nat.mul_comm]
theorem ac3 (m I E M : Nat) : 8 * (m * I) * (E * (M * 2)) = 16 * (m * M) * (I * E) := by
  rw [show (16 : Nat) = 8 * 2 by rfl]
  simp only [Nat.mul_assoc, Nat.mul_left_comm, Nat.mul_comm]
/-- A quotient: about right. -/
theorem fl_quo {x y : Nat} {a b : Int} (hx : Fl x a) (hy : Fl y b) (hb : 0 < b) : ∃ r s m e, floatBits .quo .f64 x y = some r ∧ double.read r = .number s m e ∧ -1074 ≤ e ∧ m * 2 ^ (e + 1074).toNat * b.natAbs ≤ 8 * a.natAbs * 2 ^ 1074 := by
  obtain ⟨s, m, i, e1, h1⟩ := hx
  obtain ⟨t, n, j, e2, h2⟩ := hy
  have hq : floatBits .quo .f64 x y = ((double.read x).quotient (double.fractionBits + 2) (double.read y)).map double.write := rfl
  have hn : 0 < n ∧ n < 2 ^ 53 ∧ -52 ≤ j ∧ j ≤ 1 ∧ n * 2 ^ (j + 52).toNat = b.natAbs * 2 ^ 52 := by
    rcases h2 with ⟨_, h, _⟩ | ⟨g1, g2, g3, g4, g5, _⟩
    · omega
    · exact ⟨g1, g2, g3, g4, g5⟩
  obtain ⟨n0, n1, j0, j1, hnv⟩ := hn
  rw [hq, e1, e2]
  unfold Datum.quotient
  simp only [if_neg (show ¬ n = 0 by omega), Option.map_some, Format.write]
  have hf : double.fractionBits + 2 = 54 := rfl
  rw [hf]
  rcases h1 with ⟨rfl, rfl, rfl⟩ | ⟨m0, m1, i0, i1, hmv, _⟩
  · refine ⟨_, s ^^ t, 0, -1074, rfl, ?_, by omega, by rw [Nat.zero_mul, Nat.zero_mul]; exact Nat.zero_le _⟩
    have : 2 * ((0 <<< (54 + n.log2 - Nat.log2 0)) / n) + (((0 <<< (54 + n.log2 - Nat.log2 0)) % n) != 0).toNat = 0 := by simp
    rw [this]
    unfold Format.nearest
    rw [if_pos rfl]
    exact read_zero _
  · obtain ⟨M, hM⟩ : ∃ M, M = 54 + n.log2 - m.log2 := ⟨_, rfl⟩
    rw [← hM]
    have lm1 : 2 ^ m.log2 ≤ m := Nat.log2_self_le (by omega)
    have lm2 : m < 2 ^ (m.log2 + 1) := Nat.lt_log2_self
    have ln1 : 2 ^ n.log2 ≤ n := Nat.log2_self_le (by omega)
    have ln2 : n < 2 ^ (n.log2 + 1) := Nat.lt_log2_self
    have lml : m.log2 < 53 := by
      have := Nat.lt_of_le_of_lt lm1 m1
      exact (Nat.pow_lt_pow_iff_right (by omega)).1 this
    have lnl : n.log2 < 53 := by
      have := Nat.lt_of_le_of_lt ln1 n1
      exact (Nat.pow_lt_pow_iff_right (by omega)).1 this
    rw [Nat.shiftLeft_eq]
    obtain ⟨D, hD⟩ : ∃ D, D = m * 2 ^ M := ⟨_, rfl⟩
    rw [← hD]
    -- the quotient has 54 digits or 55
    have d1 : 2 ^ 53 * n ≤ D := by
      have : (2 : Nat) ^ (53 + (n.log2 + 1)) ≤ 2 ^ m.log2 * 2 ^ M := by
        rw [← Nat.pow_add]
        exact Nat.pow_le_pow_right (by omega) (by omega)
      have h3 : 2 ^ m.log2 * 2 ^ M ≤ D := by rw [hD]; exact Nat.mul_le_mul_right _ lm1
      have h4 : 2 ^ 53 * n ≤ 2 ^ 53 * 2 ^ (n.log2 + 1) := Nat.mul_le_mul_left _ (by omega)
      rw [← Nat.pow_add] at h4
      omega
    have d2 : D < 2 ^ 56 * n := by
      have h3 : D < 2 ^ (m.log2 + 1) * 2 ^ M := by rw [hD]; exact (Nat.mul_lt_mul_right (pow_pos M)).2 lm2
      rw [← Nat.pow_add] at h3
      have h4 : (2 : Nat) ^ (m.log2 + 1 + M) = 2 ^ 55 * 2 ^ n.log2 := by rw [← Nat.pow_add]; congr 1; omega
      have h5 : 2 ^ 55 * 2 ^ n.log2 ≤ 2 ^ 55 * n := Nat.mul_le_mul_left _ ln1
      omega
    obtain ⟨c, hc, hc1⟩ : ∃ c, (D % n != 0).toNat = c ∧ c ≤ 1 := ⟨_, rfl, Bool.toNat_le _⟩
    rw [hc]
    obtain ⟨q, hqq⟩ : ∃ q, q = 2 * (D / n) + c := ⟨_, rfl⟩
    rw [← hqq]
    have q1 : 2 ^ 53 ≤ D / n := by rw [Nat.le_div_iff_mul_le n0]; exact d1
    have q2 : D / n < 2 ^ 56 := by rw [Nat.div_lt_iff_lt_mul n0]; exact d2
    have ql1 : 52 ≤ q.log2 := by
      rw [Nat.le_log2 (by omega)]
      omega
    have ql2 : q.log2 < 58 := by
      rw [Nat.log2_lt (by omega)]
      omega
    have hpl : -1074 ≤ i - j - (M : Int) - 1 := by omega
    obtain ⟨k, e, r1, r2, r3⟩ := nearest_le (s ^^ t) q (i - j - M - 1) ql1 hpl (by omega)
    refine ⟨_, s ^^ t, k, e, rfl, r1, r2, ?_⟩
    -- k 2^(e+1074) b <= 2 q 2^(p+1074) b
    have s1 := Nat.mul_le_mul_right b.natAbs r3
    refine Nat.le_trans s1 ?_
    have q3 : q * n ≤ 4 * D := by
      have : D / n * n ≤ D := Nat.div_mul_le_self _ _
      have h3 : q * n = 2 * (D / n * n) + c * n := by rw [hqq, Nat.add_mul, Nat.mul_assoc]
      have h4 : c * n ≤ 1 * n := Nat.mul_le_mul_right _ hc1
      have h5 : 1 * n ≤ 2 ^ 53 * n := Nat.mul_le_mul_right _ (by omega)
      omega
    -- all over 2^52
    have hP : (i - j - (M : Int) - 1 + 1074).toNat + M + 1 + (j + 52).toNat = (i + 52).toNat + 1074 := by omega
    have s2 : 2 * q * 2 ^ (i - j - (M : Int) - 1 + 1074).toNat * b.natAbs * (2 ^ 52 * 2 ^ (M + 1)) ≤ 8 * a.natAbs * 2 ^ 1074 * (2 ^ 52 * 2 ^ (M + 1)) := by
      have t1 : 2 * q * 2 ^ (i - j - (M : Int) - 1 + 1074).toNat * b.natAbs * (2 ^ 52 * 2 ^ (M + 1)) = 2 * (q * n) * 2 ^ ((i + 52).toNat + 1074) := by
        rw [← hP]
        have : b.natAbs * (2 ^ 52 * 2 ^ (M + 1)) = n * 2 ^ (j + 52).toNat * 2 ^ (M + 1) := by rw [hnv, Nat.mul_assoc]
        rw [Nat.mul_assoc (2 * q * _), this]
        rw [show (i - j - (M : Int) - 1 + 1074).toNat + M + 1 + (j + 52).toNat = (i - j - (M : Int) - 1 + 1074).toNat + ((j + 52).toNat + (M + 1)) by omega, Nat.pow_add _ _ ((j + 52).toNat + (M + 1)), Nat.pow_add _ (j + 52).toNat]
        exact ac1 _ _ _ _ _
      have t2 : 8 * a.natAbs * 2 ^ 1074 * (2 ^ 52 * 2 ^ (M + 1)) = 16 * D * 2 ^ ((i + 52).toNat + 1074) := by
        have : a.natAbs * 2 ^ 52 = m * 2 ^ (i + 52).toNat := hmv.symm
        rw [ac2, this, hD, Nat.pow_add _ (i + 52).toNat, show (2 : Nat) ^ (M + 1) = 2 ^ M * 2 from Nat.pow_succ 2 M]
        generalize (2 : Nat) ^ 1074 = E
        exact ac3 _ _ _ _
      rw [t1, t2]
      refine Nat.mul_le_mul_right _ ?_
      omega
    exact Nat.le_of_mul_le_mul_right s2 (Nat.mul_pos (pow_pos 52) (pow_pos (M + 1)))
/-- Its floor: a whole number, about right. -/
theorem Floor_spec {r : Nat} {s : Bool} {m : Nat} {e : Int} {N A : Nat} (hr : double.read r = .number s m e) (he : -1074 ≤ e) (hN : 0 < N) (hb : m * 2 ^ (e + 1074).toNat * N ≤ 8 * A * 2 ^ 1074) (hA : 8 * A ≤ 2 ^ 52) :
    ∃ b q, Does Try.prog 44 [fl r] (fl b) ∧ Fl b q ∧ (q.natAbs - 1) * N ≤ 8 * A := by
  obtain ⟨k, hk⟩ : ∃ k, k = Toward.down.cut s (m <<< e.toNat) (-e).toNat := ⟨_, rfl⟩
  have h1 := down_le s (m <<< e.toNat) (-e).toNat
  rw [← hk, Nat.shiftLeft_eq] at h1
  have h2 : (k - 1) * N ≤ 8 * A := by
    have h3 : (k - 1) * 2 ^ 1074 ≤ m * 2 ^ (e + 1074).toNat := by
      rcases Int.le_total 0 e with h | h
      · have e1 : (-e).toNat = 0 := by omega
        have e2 : (e + 1074).toNat = e.toNat + 1074 := by omega
        rw [e1, Nat.pow_zero, Nat.mul_one] at h1
        rw [e2, Nat.pow_add, ← Nat.mul_assoc]
        exact Nat.mul_le_mul_right _ h1
      · have e1 : e.toNat = 0 := by omega
        have e2 : 1074 = (-e).toNat + (e + 1074).toNat := by omega
        rw [e1, Nat.pow_zero, Nat.mul_one] at h1
        have h4 := Nat.mul_le_mul_right (2 ^ (e + 1074).toNat) h1
        rw [Nat.mul_assoc, ← Nat.pow_add, ← e2] at h4
        exact h4
    have h5 := Nat.mul_le_mul_right N h3
    have h6 : (k - 1) * N * 2 ^ 1074 ≤ 8 * A * 2 ^ 1074 := by
      refine Nat.le_trans ?_ hb
      rw [Nat.mul_right_comm]
      exact h5
    exact Nat.le_of_mul_le_mul_right h6 (pow_pos 1074)
  have h7 : k ≤ 2 ^ 53 := by
    have : (k - 1) * 1 ≤ (k - 1) * N := Nat.mul_le_mul_left _ hN
    omega
  obtain ⟨q, hq, hqk⟩ : ∃ q : Int, Fl (double.nearest s k 0) q ∧ q.natAbs = k := by
    refine ⟨if s then -(k : Int) else k, ?_, by cases s <;> simp⟩
    refine fl_write (K := 0) ?_ (by omega) ?_ ?_
    · cases s <;> simp <;> exact h7
    · cases s <;> simp
    · intro h0
      cases s <;> simp at h0 ⊢ <;> omega
  refine ⟨_, q, Floor_1 r (double.nearest s k 0) ?_, hq, by rw [hqk]; exact h2⟩
  intro w
  refine .inl ?_
  rw [run_callFunc_extern (fn := Try.f45) (e := Extern.MathFloor.toIntegral "math.archFloor" .down) rfl (by kernel_rfl) rfl (by kernel_rfl) (by kernel_rfl)]
  have hd : FloatKind.f64.decode r = .number s m e := hr
  have h : Extern.MathFloor.toIntegral "math.archFloor" .down #[.float .f64 r] = pure (.float .f64 (FloatKind.f64.encode ((Datum.number s m e).integral .down))) := by
    delta Extern.MathFloor.toIntegral
    conv => lhs; whnf
    rw [hd]
  show ((Extern.MathFloor.toIntegral "math.archFloor" .down #[.float .f64 r]).run Try.prog w).andThen _ = _
  rw [h]
  simp only [Datum.integral, ← hk]
  rfl
theorem ord_gt {x y : Nat} {a b : Int} (hx : Fl x a) (hy : Fl y b) : (FloatKind.f64.format.order x y == some Ordering.gt) = decide (b < a) := by
  have h : FloatKind.f64.format.order x y = some (compare a b) := fl_order hx hy
  rw [h]
  rcases Int.lt_trichotomy a b with h | h | h
  · rw [Int.compare_eq_lt.2 h, decide_eq_false (by omega)]; rfl
  · rw [Int.compare_eq_eq.2 h, decide_eq_false (by omega)]; rfl
  · rw [Int.compare_eq_gt.2 h, decide_eq_true (by omega)]; rfl
theorem ord_lt {x y : Nat} {a b : Int} (hx : Fl x a) (hy : Fl y b) : (FloatKind.f64.format.order x y == some Ordering.lt) = decide (a < b) := by
  have h : FloatKind.f64.format.order x y = some (compare a b) := fl_order hx hy
  rw [h]
  rcases Int.lt_trichotomy a b with h | h | h
  · rw [Int.compare_eq_lt.2 h, decide_eq_true (by omega)]; rfl
  · rw [Int.compare_eq_eq.2 h, decide_eq_false (by omega)]; rfl
  · rw [Int.compare_eq_gt.2 h, decide_eq_false (by omega)]; rfl
theorem ord_eq {x y : Nat} {a b : Int} (hx : Fl x a) (hy : Fl y b) : (FloatKind.f64.format.order x y == some Ordering.eq) = decide (a = b) := by
  have h : FloatKind.f64.format.order x y = some (compare a b) := fl_order hx hy
  rw [h]
  rcases Int.lt_trichotomy a b with h | h | h
  · rw [Int.compare_eq_lt.2 h, decide_eq_false (by omega)]; rfl
  · rw [Int.compare_eq_eq.2 h, decide_eq_true (by omega)]; rfl
  · rw [Int.compare_eq_gt.2 h, decide_eq_false (by omega)]; rfl
/-- The nearest whole number; of two as near the greater one. -/
def nst (a n : Int) : Int := (2 * a + n) / (2 * n)
abbrev nearS (k l m : Nat) : List SV := [.v (fl k), .v (fl l), .x, .x, .x, .v (fl m)] ++ List.replicate 30 .x
theorem div_is {x y z : Int} (hy : 0 < y) (h1 : z * y ≤ x) (h2 : x < z * y + y) : x / y = z := by
  have a1 : z ≤ x / y := Int.le_ediv_of_mul_le hy h1
  have a2 : x / y < z + 1 := Int.ediv_lt_of_lt_mul hy (by rw [Int.add_mul]; omega)
  omega
theorem fl_two : Fl 4611686018427387904 2 := by
  have := fl_ofInt 2 (by decide)
  have e : floatOfInt .f64 2 = 4611686018427387904 := by decide +kernel
  rwa [e] at this
theorem le_of_mul {q b C : Int} (hb : 0 < b) (hC : 0 ≤ C) (h : q * b ≤ C) : q ≤ C := by
  by_cases h0 : 0 ≤ q
  · have : q * 1 ≤ q * b := Int.mul_le_mul_of_nonneg_left (by omega) h0
    omega
  · omega
theorem nst_of {a b q : Int} (hb : 0 < b) (h1 : q * b ≤ a) (h2 : a < q * b + b) : nst a b = if b ≤ 2 * (a - q * b) then q + 1 else q := by
  unfold nst
  have e1 : ∀ z : Int, z * (2 * b) = 2 * (z * b) := fun z => by rw [Int.mul_left_comm]
  split
  · refine div_is (by omega) ?_ ?_
    · rw [e1, Int.add_mul]; omega
    · rw [e1, Int.add_mul]; omega
  · refine div_is (by omega) ?_ ?_
    · rw [e1]; omega
    · rw [e1]; omega
/-- The second loop: up, and to the nearest. -/
theorem near_up (r : Nat) : ∀ (q : Int) (k l m n : Nat) (a b : Int), Fl k a → Fl l b → Fl m q → 0 < b → b ≤ 4398046511104 → -4398046511104 ≤ a → a ≤ 4398046511104 → q * b ≤ a → -1125899906842624 ≤ q * b → -1125899906842624 ≤ q → a / b - q = r → r < n →
    ∃ v, Fl v (nst a b) ∧ Fin Try.prog Try.f42 (fl v) (inK nearB n) (nearS k l m) [] := by
  induction r with
  | zero =>
    intro q k l m n a b fk fb fm hb hb2 ha1 ha2 hq1 hq2 hq3 hr hn
    obtain ⟨n, rfl⟩ : ∃ j, n = j + 1 := ⟨n - 1, by omega⟩
    have hqd : a / b = q := by omega
    have hlt : a < q * b + b := by
      have := Int.lt_ediv_add_one_mul_self a hb
      rw [hqd, Int.add_mul] at this
      omega
    have hqa : q ≤ 4398046511104 := le_of_mul hb (by omega) (by omega)
    obtain ⟨n0, g0, f0⟩ := fl_add fm fl_one (by omega)
    obtain ⟨n1, g1, f1⟩ := fl_mul f0 fb (by rw [Int.add_mul]; omega)
    have c1 : (FloatKind.f64.format.order n1 k == some Ordering.lt || FloatKind.f64.format.order n1 k == some Ordering.eq) = false := by
      rw [ord_lt f1 fk, ord_eq f1 fk, Int.add_mul]
      simp
      omega
    obtain ⟨n2, g2, f2⟩ := fl_mul fm fb (by omega)
    obtain ⟨n3, g3, f3⟩ := fl_sub fk f2 (by omega)
    obtain ⟨n4, g4, f4⟩ := fl_mul fl_two f3 (by omega)
    have hN := nst_of hb hq1 hlt
    by_cases hc : b ≤ 2 * (a - q * b)
    · rw [if_pos hc] at hN
      refine ⟨n0, by rw [hN]; exact f0, fin_round ?_⟩
      refine near2_2 k l m n n0 n1 n2 n3 n4 n0 g0 g1 c1 g2 g3 g4 ?_ g0
      rw [ord_gt f4 fb, ord_eq f4 fb]
      simp
      omega
    · rw [if_neg hc] at hN
      refine ⟨m, by rw [hN]; exact fm, fin_round ?_⟩
      refine near2_3 k l m n n0 n1 n2 n3 n4 g0 g1 c1 g2 g3 g4 ?_
      rw [ord_gt f4 fb, ord_eq f4 fb]
      simp
      omega
  | succ r ih =>
    intro q k l m n a b fk fb fm hb hb2 ha1 ha2 hq1 hq2 hq3 hr hn
    obtain ⟨n, rfl⟩ : ∃ j, n = j + 1 := ⟨n - 1, by omega⟩
    have hqa : q ≤ 4398046511104 := le_of_mul hb (by omega) (by omega)
    have hle : q * b + b ≤ a := by
      have h1 : (q + 1) * b ≤ a / b * b := Int.mul_le_mul_of_nonneg_right (by omega) (by omega)
      have h2 := Int.ediv_mul_le a (b := b) (by omega)
      rw [Int.add_mul] at h1
      omega
    obtain ⟨n0, g0, f0⟩ := fl_add fm fl_one (by omega)
    obtain ⟨n1, g1, f1⟩ := fl_mul f0 fb (by rw [Int.add_mul]; omega)
    have c1 : (FloatKind.f64.format.order n1 k == some Ordering.lt || FloatKind.f64.format.order n1 k == some Ordering.eq) = true := by
      rw [ord_lt f1 fk, ord_eq f1 fk, Int.add_mul]
      simp
      omega
    obtain ⟨v, hv, hF⟩ := ih (q + 1) k l n0 n a b fk fb f0 hb hb2 ha1 ha2 (by rw [Int.add_mul]; omega) (by rw [Int.add_mul]; omega) (by omega) (by omega) (by omega)
    exact ⟨v, hv, fin_round (near2_1 k l m n n0 n1 n0 g0 g1 c1 g0 _ hF)⟩
/-- The first loop: down. -/
theorem near_down (r : Nat) : ∀ (q : Int) (k l m n : Nat) (a b : Int), Fl k a → Fl l b → Fl m q → 0 < b → b ≤ 4398046511104 → -4398046511104 ≤ a → a ≤ 4398046511104 → q * b ≤ 1125899906842624 → -1125899906842624 ≤ q * b → -1125899906842624 ≤ q → q ≤ 1125899906842624 → (q - a / b).toNat ≤ r → r < n →
    ∃ v, Fl v (nst a b) ∧ Fin Try.prog Try.f42 (fl v) (inK nearA n) (nearS k l m) [] := by
  have done : ∀ (q : Int) (k l m n : Nat) (a b : Int), Fl k a → Fl l b → Fl m q → 0 < b → b ≤ 4398046511104 → -4398046511104 ≤ a → a ≤ 4398046511104 → q * b ≤ a → -1125899906842624 ≤ q * b → -1125899906842624 ≤ q → 
      ∃ v, Fl v (nst a b) ∧ Fin Try.prog Try.f42 (fl v) (inK nearA (n + 1)) (nearS k l m) [] := by
    intro q k l m n a b fk fb fm hb hb2 ha1 ha2 h1 h2 h3
    have hqd : q ≤ a / b := Int.le_ediv_of_mul_le hb h1
    obtain ⟨v, hv, hF⟩ := near_up (a / b - q).toNat q k l m ((a / b - q).toNat + 1) a b fk fb fm hb hb2 ha1 ha2 h1 h2 h3 (by omega) (by omega)
    obtain ⟨n0, g0, f0⟩ := fl_mul fm fb (by omega)
    refine ⟨v, hv, fin_round (near1_2 k l m n n0 g0 ?_ _ (fin_loop _ hF))⟩
    rw [ord_gt f0 fk]
    simp
    omega
  induction r with
  | zero =>
    intro q k l m n a b fk fb fm hb hb2 ha1 ha2 h1 h2 h3 h4 hr hn
    obtain ⟨n, rfl⟩ : ∃ j, n = j + 1 := ⟨n - 1, by omega⟩
    have h5 : q * b ≤ a := by
      have g1 : q * b ≤ a / b * b := Int.mul_le_mul_of_nonneg_right (by omega) (by omega)
      have g2 := Int.ediv_mul_le a (b := b) (by omega)
      omega
    exact done q k l m n a b fk fb fm hb hb2 ha1 ha2 h5 h2 h3
  | succ r ih =>
    intro q k l m n a b fk fb fm hb hb2 ha1 ha2 h1 h2 h3 h4 hr hn
    obtain ⟨n, rfl⟩ : ∃ j, n = j + 1 := ⟨n - 1, by omega⟩
    by_cases h5 : q * b ≤ a
    · exact done q k l m n a b fk fb fm hb hb2 ha1 ha2 h5 h2 h3
    · have hqd : a / b < q := Int.ediv_lt_of_lt_mul hb (by omega)
      obtain ⟨n0, g0, f0⟩ := fl_mul fm fb (by omega)
      obtain ⟨n1, g1, f1⟩ := fl_sub fm fl_one (by omega)
      have hqm : (q - 1) * b = q * b - b := by rw [Int.sub_mul]; omega
      have hq5 : -4398046511105 ≤ q := by
        have := le_of_mul (q := -q) hb (C := 4398046511104) (by omega) (by rw [Int.neg_mul]; omega)
        omega
      obtain ⟨v, hv, hF⟩ := ih (q - 1) k l n1 n a b fk fb f1 hb hb2 ha1 ha2 (by omega) (by omega) (by omega) (by omega) (by omega) (by omega)
      refine ⟨v, hv, fin_round (near1_1 k l m n n0 n1 g0 ?_ g1 _ hF)⟩
      rw [ord_gt f0 fk]
      simp
      omega
theorem near_spec {k l : Nat} {a b : Int} (fk : Fl k a) (fb : Fl l b) (hb : 0 < b) (hb2 : b ≤ 4398046511104) (ha1 : -4398046511104 ≤ a) (ha2 : a ≤ 4398046511104) : ∃ v, Does Try.prog 42 [fl k, fl l] (fl v) ∧ Fl v (nst a b) := by
  obtain ⟨r, s, m, e, h1, h2, h3, h4⟩ := fl_quo fk fb hb
  obtain ⟨w, q, d1, f1, hq⟩ := Floor_spec (N := b.natAbs) (A := a.natAbs) h2 h3 (by omega) h4 (by omega)
  have hqb : (q.natAbs) * b.natAbs ≤ 8 * a.natAbs + b.natAbs := by
    have g1 : q.natAbs * b.natAbs ≤ (q.natAbs - 1 + 1) * b.natAbs := Nat.mul_le_mul_right _ (by omega)
    rw [Nat.add_mul] at g1
    omega
  have hqb2 : (q * b).natAbs ≤ 8 * a.natAbs + b.natAbs := by rw [Int.natAbs_mul]; exact hqb
  have hq1 : q.natAbs ≤ 8 * a.natAbs + b.natAbs := by
    have : q.natAbs * 1 ≤ q.natAbs * b.natAbs := Nat.mul_le_mul_left _ (by omega)
    omega
  obtain ⟨v, hv, hF⟩ := near_down (q - a / b).toNat q k l w ((q - a / b).toNat + 1) a b fk fb f1 hb hb2 ha1 ha2 (by omega) (by omega) (by omega) (by omega) (by omega) (by omega)
  refine ⟨v, does_of_fin (fn := Try.f42) (c := bd Try.f42) rfl (by kernel_rfl) rfl ?_, hv⟩
  exact near0_1 k l r w h1 d1 _ (fin_loop _ hF)
end Go.Proofs.YtjndejlbkmeppaaG
