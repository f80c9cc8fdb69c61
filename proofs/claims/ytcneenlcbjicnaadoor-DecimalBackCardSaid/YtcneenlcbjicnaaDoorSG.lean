/- The program's rounded quotient of 128 bits, bit by bit. -/
import Derived.Test.YtcneenlcbjicnaaDoorSF
namespace Go.Proofs.YtcneenlcbjicnaaDoorC
open Go.Proofs Go.Proofs.YtcneenlcbjicnaaDoorSx
set_option maxRecDepth 100000
set_option linter.unusedVariables false
theorem orE {e b : Int} (h0 : 0 ≤ e) (h1 : e < 18446744073709551616) (he : e % 2 = 0) (hb : 0 ≤ b ∧ b ≤ 1) : IntKind.u64.wrap ↑(BitVec.ofInt 64 e ||| BitVec.ofInt 64 b).toNat = e + b := by
  rw [BitVec.toNat_or, BitVec.toNat_ofInt, BitVec.toNat_ofInt]
  have a1 : (e % ((2 ^ 64 : Nat) : Int)).toNat = (e / 2).toNat <<< 1 := by rw [Nat.shiftLeft_eq]; omega
  have a2 : (b % ((2 ^ 64 : Nat) : Int)).toNat = b.toNat := by omega
  rw [a1, a2, ← Nat.shiftLeft_add_eq_or_of_lt (by omega), Nat.shiftLeft_eq, wrapU]
  omega
theorem and1 {z : Int} (h0 : 0 ≤ z) : IntKind.u64.wrap ↑(BitVec.ofInt 64 z &&& BitVec.ofInt 64 1).toNat = z % 2 := by
  rw [BitVec.toNat_and, BitVec.toNat_ofInt, BitVec.toNat_ofInt]
  have e : ((1 : Int) % ((2 ^ 64 : Nat) : Int)).toNat = 1 := by decide
  rw [e, Nat.and_one_is_mod, wrapU]
  omega
theorem fdivp {z : Int} (k : Nat) : z.fdiv (2 ^ k) = z / 2 ^ k := Int.fdiv_eq_ediv_of_nonneg _ (Int.le_of_lt (pow2_pos k))
theorem low_bits64 (q d : Int) (r : Nat) (hr : r < 64) : (18446744073709551616 * q + d) / 2 ^ r % 2 = d / 2 ^ r % 2 := by
  have e : (18446744073709551616 : Int) = 2 ^ r * (2 * 2 ^ (63 - r)) := by
    rw [← Int.mul_assoc, Int.mul_comm (2 ^ r) 2, Int.mul_assoc, ← Int.pow_add, show r + (63 - r) = 63 by omega]
    decide
  have e2 : 18446744073709551616 * q + d = d + 2 ^ r * (2 * (2 ^ (63 - r) * q)) := by
    rw [e]
    grind
  have hp : (2 : Int) ^ r ≠ 0 := Int.ne_of_gt (pow2_pos r)
  rw [e2, Int.add_mul_ediv_left _ _ hp]
  generalize 2 ^ (63 - r) * q = z
  omega
/-- The bit that a round takes. -/
theorem bit_low {x : Int} (hx : 0 ≤ x) {i : Nat} (h1 : 64 ≤ i) (h2 : i < 128) :
    IntKind.u64.wrap ↑(BitVec.ofInt 64 ((x % 18446744073709551616).fdiv (2 ^ Min.min (IntKind.i64.wrap (127 - (i : Int))).toNat 64)) &&& BitVec.ofInt 64 1).toNat = x / 2 ^ (127 - i) % 2 := by
  have ew : (IntKind.i64.wrap (127 - (i : Int))).toNat = 127 - i := by rw [wrap64 (by omega) (by omega)]; omega
  rw [ew, min64 (by omega), fdivp, and1 (Int.ediv_nonneg (by omega) (Int.le_of_lt (pow2_pos _)))]
  have hx0 := Int.mul_ediv_add_emod x 18446744073709551616
  conv => rhs; rw [← hx0]
  exact (low_bits64 _ _ _ (by omega)).symm
theorem bit_high {x : Int} (hx : 0 ≤ x) {i : Nat} (h1 : i < 64) :
    IntKind.u64.wrap ↑(BitVec.ofInt 64 ((x / 18446744073709551616).fdiv (2 ^ Min.min (IntKind.i64.wrap (63 - (i : Int))).toNat 64)) &&& BitVec.ofInt 64 1).toNat = x / 2 ^ (127 - i) % 2 := by
  have ew : (IntKind.i64.wrap (63 - (i : Int))).toNat = 63 - i := by rw [wrap64 (by omega) (by omega)]; omega
  rw [ew, min64 (by omega), fdivp, and1 (Int.ediv_nonneg (by omega) (Int.le_of_lt (pow2_pos _))), ediv2 _ (by decide)]
  have e : (18446744073709551616 : Int) * 2 ^ (63 - i) = 2 ^ (127 - i) := by
    have h1 : (18446744073709551616 : Int) = 2 ^ 64 := by decide
    rw [h1, ← Int.pow_add]
    congr 1
    omega
  rw [e]
/-- Twice a number, and a bit more. -/
theorem dbl_hi {R : Int} (h0 : 0 ≤ R) (h1 : R < 170141183460469231731687303715884105728) :
    IntKind.u64.wrap ↑(BitVec.ofInt 64 (IntKind.u64.wrap (R / 18446744073709551616 * 2 ^ 1)) ||| BitVec.ofInt 64 ((R % 18446744073709551616).fdiv (2 ^ 63))).toNat = (2 * R) / 18446744073709551616 := by
  have e1 : (2 : Int) ^ 1 = 2 := rfl
  have e2 : (2 : Int) ^ 63 = 9223372036854775808 := by decide
  rw [fdivp, e1, e2, wrU (x := R / 18446744073709551616 * 2) (by omega) (by omega), orE (by omega) (by omega) (by omega) (by omega)]
  omega
theorem dbl_lo {R : Int} : IntKind.u64.wrap (R % 18446744073709551616 * 2 ^ 1) = (2 * R) % 18446744073709551616 := by
  have e1 : (2 : Int) ^ 1 = 2 := rfl
  rw [e1, wrapU]
  omega
theorem dbl_bit {R b : Int} (hb : 0 ≤ b ∧ b ≤ 1) :
    IntKind.u64.wrap ↑(BitVec.ofInt 64 (IntKind.u64.wrap (R % 18446744073709551616 * 2 ^ 1)) ||| BitVec.ofInt 64 b).toNat = (2 * R + b) % 18446744073709551616 := by
  rw [dbl_lo, orE (by omega) (by omega) (by omega) hb]
  omega
theorem dbl_hib {R b : Int} (hb : 0 ≤ b ∧ b ≤ 1) : (2 * R) / 18446744073709551616 = (2 * R + b) / 18446744073709551616 := by omega
abbrev byV (x y : Int) (s t : Bool) (Q R : Int) : Tab cE := byT (x / 18446744073709551616) (x % 18446744073709551616) (y / 18446744073709551616) (y % 18446744073709551616) s t (Q / 18446744073709551616) (Q % 18446744073709551616) (R / 18446744073709551616) (R % 18446744073709551616)
theorem by_end {x y Q R : Int} (hx : 0 ≤ x ∧ x < big128) (hy : 0 < y) (hy2 : y < 170141183460469231731687303715884105728) (s t : Bool) (hQ : Q = x / y) (hR : R = x % y) (m : Nat) :
    Fin cE Tryd.f45 0 (.v (Bv (rnd x y) s)) [] 0 (bodyK byK m) (byS 128) (byV x y s t Q R) 5 := by
  have h2 := Int.emod_nonneg x (Int.ne_of_gt hy)
  have h3 := Int.emod_lt_of_pos x hy
  have h5 := Int.ediv_nonneg hx.1 (Int.le_of_lt hy)
  have hr := rnd_le hx.1 hy
  have hc := pcompare_does (2 * R) y false t
  unfold Bv at hc
  rw [← dbl_hi (R := R) (by omega) (by omega), ← dbl_lo] at hc
  have hone : Does cE 53 [] 0 [.v (Bv Q false), .v (bg 0 1 false)] (.v (Bv (Q + 1) false)) [] 0 ∨ ¬ (Q + 1 < big128) := by
    by_cases h : Q + 1 < big128
    · left
      have := pplus_does (x := Q) (y := 1) (by omega) (by decide) h false false
      exact this
    · exact .inr h
  have plus1 : rnd x y = Q + 1 → Does cE 53 [] 0 [.v (Bv Q false), .v (bg 0 1 false)] (.v (Bv (Q + 1) false)) [] 0 := by
    intro e
    rcases hone with h | h
    · exact h
    · omega
  unfold cmpI at hc
  have hodd : IntKind.u64.wrap ↑(BitVec.ofInt 64 (Q % 18446744073709551616) &&& BitVec.ofInt 64 1).toNat = Q % 2 := by
    rw [and1 (by omega)]
    omega
  by_cases c1 : 2 * R > y
  · rw [if_neg (by omega), if_pos c1] at hc
    have e : rnd x y = Q + 1 := by unfold rnd; rw [if_pos (.inl (by omega)), hQ]
    have := byb_5 (h := x / 18446744073709551616) (l := x % 18446744073709551616) (g := y / 18446744073709551616) (k := y % 18446744073709551616) (s := s) (t := t) (qh := Q / 18446744073709551616) (ql := Q % 18446744073709551616) (rh := R / 18446744073709551616) (rl := R % 18446744073709551616) (i := 128) (m := m)
      (h0 := by decide) (h1 := hc) (h2 := by decide) (h3 := plus1 e)
    rw [e]
    exact this
  · by_cases c2 : 2 * R < y
    · rw [if_pos c2] at hc
      have e : rnd x y = Q := by unfold rnd; rw [if_neg (by omega), hQ]
      have := byb_8 (h := x / 18446744073709551616) (l := x % 18446744073709551616) (g := y / 18446744073709551616) (k := y % 18446744073709551616) (s := s) (t := t) (qh := Q / 18446744073709551616) (ql := Q % 18446744073709551616) (rh := R / 18446744073709551616) (rl := R % 18446744073709551616) (i := 128) (m := m)
        (h0 := by decide) (h1 := hc) (h2 := by decide) (h3 := by decide)
      rw [e]
      exact this
    · rw [if_neg c2, if_neg c1] at hc
      by_cases c3 : Q % 2 = 1
      · have e : rnd x y = Q + 1 := by unfold rnd; rw [if_pos (.inr ⟨by omega, by rw [← hQ]; exact c3⟩), hQ]
        have := byb_6 (h := x / 18446744073709551616) (l := x % 18446744073709551616) (g := y / 18446744073709551616) (k := y % 18446744073709551616) (s := s) (t := t) (qh := Q / 18446744073709551616) (ql := Q % 18446744073709551616) (rh := R / 18446744073709551616) (rl := R % 18446744073709551616) (i := 128) (m := m)
          (h0 := by decide) (h1 := hc) (h2 := by decide) (h3 := by decide) (h4 := by rw [hodd, c3]; rfl) (h5 := plus1 e)
        rw [e]
        exact this
      · have e : rnd x y = Q := by unfold rnd; rw [if_neg (by rw [← hQ]; omega), hQ]
        have := byb_7 (h := x / 18446744073709551616) (l := x % 18446744073709551616) (g := y / 18446744073709551616) (k := y % 18446744073709551616) (s := s) (t := t) (qh := Q / 18446744073709551616) (ql := Q % 18446744073709551616) (rh := R / 18446744073709551616) (rl := R % 18446744073709551616) (i := 128) (m := m)
          (h0 := by decide) (h1 := hc) (h2 := by decide) (h3 := by decide) (h4 := by rw [hodd]; exact beq_false_of_ne c3)
        rw [e]
        exact this
theorem psub_hi {X y : Int} (hy : 0 ≤ y) (hle : y ≤ X) (hX : X < big128) :
    IntKind.u64.wrap (IntKind.u64.wrap (X / 18446744073709551616 - y / 18446744073709551616) - (if X % 18446744073709551616 < y % 18446744073709551616 then 1 else 0)) = (X - y) / 18446744073709551616 := by
  unfold big128 at hX
  rw [wrU (x := X / 18446744073709551616 - y / 18446744073709551616) (by omega) (by omega)]
  by_cases h : X % 18446744073709551616 < y % 18446744073709551616
  · rw [if_pos h, wrU (by omega) (by omega)]
    omega
  · rw [if_neg h, wrU (by omega) (by omega)]
    omega
theorem by_loop {x y : Int} (hx : 0 ≤ x ∧ x < big128) (hy : 0 < y) (hy2 : y < 170141183460469231731687303715884105728) (s : Bool) : ∀ (r i : Nat) (Q R : Int) (t : Bool), i + r = 128 → 0 ≤ Q → 0 ≤ R ∧ R < y → x / 2 ^ r = Q * y + R → ∀ m,
    Fin cE Tryd.f45 0 (.v (Bv (rnd x y) s)) [] 0 (inK byK (m + r + 1)) (byS i) (byV x y s t Q R) 5
  | 0, i, Q, R, t, hi, hQ, hR, hv, m => by
    refine fin_round ?_
    have e : i = 128 := by omega
    subst e
    have e1 : (2 : Int) ^ 0 = 1 := rfl
    rw [e1, Int.ediv_one] at hv
    refine by_end hx hy hy2 s t ?_ ?_ m
    · rw [hv, Int.add_comm, Int.add_mul_ediv_right _ _ (by omega), Int.ediv_eq_zero_of_lt hR.1 hR.2]
      omega
    · rw [hv, Int.add_comm, Int.add_mul_emod_self_right, Int.emod_eq_of_lt hR.1 hR.2]
  | r + 1, i, Q, R, t, hi, hQ, hR, hv, m => by
    refine fin_round ?_
    have hbig : big128 = 340282366920938463463374607431768211456 := rfl
    have hstep := half_step x r
    have hle : x / 2 ^ (r + 1) ≤ x / 2 := by
      rw [Int.pow_succ, Int.mul_comm, ← ediv2 _ (by decide)]
      exact Int.ediv_le_self _ (by omega)
    rw [hv] at hstep hle
    have hQb : Q ≤ Q * y := by
      have := Int.mul_le_mul_of_nonneg_left (show (1 : Int) ≤ y by omega) hQ
      omega
    have er : r = 127 - i := by omega
    have hb01 : 0 ≤ x / 2 ^ r % 2 ∧ x / 2 ^ r % 2 ≤ 1 := by omega
    have hbit1 : 64 ≤ i → IntKind.u64.wrap ↑(BitVec.ofInt 64 ((x % 18446744073709551616).fdiv (2 ^ Min.min (IntKind.i64.wrap (127 - (i : Int))).toNat 64)) &&& BitVec.ofInt 64 1).toNat = x / 2 ^ r % 2 := by
      intro h
      rw [er]
      exact bit_low hx.1 h (by omega)
    have hbit2 : i < 64 → IntKind.u64.wrap ↑(BitVec.ofInt 64 ((x / 18446744073709551616).fdiv (2 ^ Min.min (IntKind.i64.wrap (63 - (i : Int))).toNat 64)) &&& BitVec.ofInt 64 1).toNat = x / 2 ^ r % 2 := by
      intro h
      rw [er]
      exact bit_high hx.1 h
    generalize x / 2 ^ r % 2 = bt at hstep hb01 hbit1 hbit2
    have hR1 := dbl_hi (R := R) (by omega) (by omega)
    have hR2 := dbl_bit (R := R) hb01
    have hQ1 := dbl_hi (R := Q) (by omega) (by omega)
    have hQ2 := dbl_bit (R := Q) (b := 1) (by omega)
    rw [dbl_hib hb01] at hR1
    have hc := pcompare_does (2 * R + bt) y false false
    unfold cmpI at hc
    have w127 : IntKind.i64.wrap (127 - (i : Int)) = 127 - (i : Int) := wrap64 (by omega) (by omega)
    have w63 : i < 64 → IntKind.i64.wrap (63 - (i : Int)) = 63 - (i : Int) := fun _ => wrap64 (by omega) (by omega)
    have hs := step64 (i := i) (by omega)
    by_cases hlt : 2 * R + bt < y
    · rw [if_pos hlt] at hc
      have ih := fun (v : Bool) => by_loop hx hy hy2 s r (i + 1) (2 * Q) (2 * R + bt) v (by omega) (by omega) ⟨by omega, hlt⟩ (by rw [hstep]; grind) m
      by_cases h64 : 64 ≤ i
      · have h := fun g3 => byb_2 (h := x / 18446744073709551616) (l := x % 18446744073709551616) (g := y / 18446744073709551616) (k := y % 18446744073709551616) (s := s) (t := t) (qh := Q / 18446744073709551616) (ql := Q % 18446744073709551616) (rh := R / 18446744073709551616) (rl := R % 18446744073709551616) (i := i) (m := m + (r + 1))
          (i0 := -1) (res := .v (Bv (rnd x y) s)) (T' := []) (n' := 0) (h0 := by simp; omega) (h1 := by simp; omega) (h2 := by rw [w127]; simp; omega) (h3 := g3) (h4 := by decide)
        rw [hbit1 h64, hR1, hR2, hQ1, dbl_lo, hs] at h
        exact h hc (ih false)
      · have h := fun g3 => byb_4 (h := x / 18446744073709551616) (l := x % 18446744073709551616) (g := y / 18446744073709551616) (k := y % 18446744073709551616) (s := s) (t := t) (qh := Q / 18446744073709551616) (ql := Q % 18446744073709551616) (rh := R / 18446744073709551616) (rl := R % 18446744073709551616) (i := i) (m := m + (r + 1))
          (i0 := -1) (res := .v (Bv (rnd x y) s)) (T' := []) (n' := 0) (h0 := by simp; omega) (h1 := by simp; omega) (h2 := by rw [w63 (by omega)]; simp; omega) (h3 := g3) (h4 := by decide)
        rw [hbit2 (by omega), hR1, hR2, hQ1, dbl_lo, hs] at h
        exact h hc (ih false)
    · rw [if_neg hlt] at hc
      have ih := fun (v : Bool) => by_loop hx hy hy2 s r (i + 1) (2 * Q + 1) (2 * R + bt - y) v (by omega) (by omega) ⟨by omega, by omega⟩ (by rw [hstep]; grind) m
      have hsub := sub64_does (x := (2 * R + bt) % 18446744073709551616) (y := y % 18446744073709551616) (by unfold U64; omega) (by unfold U64; omega)
      have hsh := psub_hi (X := 2 * R + bt) (y := y) (by omega) (by omega) (by omega)
      have hsl : ((2 * R + bt) % 18446744073709551616 - y % 18446744073709551616) % 18446744073709551616 = (2 * R + bt - y) % 18446744073709551616 := by omega
      rw [hsl] at hsub
      have hq : (2 * Q) / 18446744073709551616 = (2 * Q + 1) / 18446744073709551616 := by omega
      by_cases h64 : 64 ≤ i
      · have h := fun g3 g5 => byb_1 (h := x / 18446744073709551616) (l := x % 18446744073709551616) (g := y / 18446744073709551616) (k := y % 18446744073709551616) (s := s) (t := t) (qh := Q / 18446744073709551616) (ql := Q % 18446744073709551616) (rh := R / 18446744073709551616) (rl := R % 18446744073709551616) (i := i) (m := m + (r + 1))
          (i0 := if 2 * R + bt > y then 1 else 0) (i1 := (2 * R + bt - y) % 18446744073709551616) (i2 := if (2 * R + bt) % 18446744073709551616 < y % 18446744073709551616 then 1 else 0) (res := .v (Bv (rnd x y) s)) (T' := []) (n' := 0) (h0 := by simp; omega) (h1 := by simp; omega) (h2 := by rw [w127]; simp; omega) (h3 := g3) (h4 := by split <;> decide) (h5 := g5)
        rw [hbit1 h64, hR1, hR2, hQ1, hQ2, hs, hsh, hq] at h
        exact h hc hsub (ih false)
      · have h := fun g3 g5 => byb_3 (h := x / 18446744073709551616) (l := x % 18446744073709551616) (g := y / 18446744073709551616) (k := y % 18446744073709551616) (s := s) (t := t) (qh := Q / 18446744073709551616) (ql := Q % 18446744073709551616) (rh := R / 18446744073709551616) (rl := R % 18446744073709551616) (i := i) (m := m + (r + 1))
          (i0 := if 2 * R + bt > y then 1 else 0) (i1 := (2 * R + bt - y) % 18446744073709551616) (i2 := if (2 * R + bt) % 18446744073709551616 < y % 18446744073709551616 then 1 else 0) (res := .v (Bv (rnd x y) s)) (T' := []) (n' := 0) (h0 := by simp; omega) (h1 := by simp; omega) (h2 := by rw [w63 (by omega)]; simp; omega) (h3 := g3) (h4 := by split <;> decide) (h5 := g5)
        rw [hbit2 (by omega), hR1, hR2, hQ1, hQ2, hs, hsh, hq] at h
        exact h hc hsub (ih false)
theorem by_does {x y : Int} (hx : 0 ≤ x ∧ x < big128) (hy : 0 < y) (hy2 : y < 170141183460469231731687303715884105728) (s t : Bool) : Does cE 45 [] 0 [.v (Bv x s), .v (Bv y t)] (.v (Bv (rnd x y) s)) [] 0 := by
  refine does_of_fin (fn := Tryd.f45) (c := bd Tryd.f45) rfl (by kernel_rfl) rfl ?_
  refine bya_1 _ _ _ _ s t _ _ _ ?_
  refine fin_loop (0 + 128 + 1) ?_
  exact by_loop hx hy hy2 s 128 0 0 0 t (by omega) (by omega) (by omega) (by
    have : (2 : Int) ^ 128 = big128 := by decide
    rw [this, Int.ediv_eq_zero_of_lt hx.1 hx.2]
    omega) 0
end Go.Proofs.YtcneenlcbjicnaaDoorC
