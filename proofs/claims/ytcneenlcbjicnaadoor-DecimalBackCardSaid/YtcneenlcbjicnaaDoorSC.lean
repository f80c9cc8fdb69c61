/- What the reference's functions come to: parts, rounded, of, Power, scaled, sum, back. -/
import Derived.Test.YtcneenlcbjicnaaDoorSB
import Derived.Test.YtcneenlcbjicnaaDoorPB2
import Derived.Test.YtcneenlcbjicnaaDoorPC1
import Derived.Test.YtcneenlcbjicnaaDoorPD0
namespace Go.Proofs.YtcneenlcbjicnaaDoorC
open Go.Proofs Go.Proofs.YtcneenlcbjicnaaDoorSx
set_option maxRecDepth 100000
set_option linter.unusedVariables false
theorem val_W (n : Int) (h0 : 0 ≤ n) (h1 : n < big192) : val (dg 6 n) = n := val_dg 6 n h0 (by rw [big_pow]; exact h1)
theorem W_plus {x y : Int} (hx : 0 ≤ x) (hy : 0 ≤ y) (h : x + y < big192) (s t : Bool) : Does cE 58 [] 0 [.v (W x s), .v (W y t)] (.v (W (x + y) false)) [] 0 := by
  have h1 := plus_does (dg_dig x) (dg_dig y) s t
  rw [val_W x hx (by omega), val_W y hy (by omega)] at h1
  exact h1 h
theorem W_minus {x y : Int} (hy : 0 ≤ y) (hx : x < big192) (h : y ≤ x) (s t : Bool) : Does cE 68 [] 0 [.v (W x s), .v (W y t)] (.v (W (x - y) false)) [] 0 := by
  have h1 := minus_does (dg_dig x) (dg_dig y) s t
  rw [val_W x (by omega) hx, val_W y hy (by omega)] at h1
  exact h1 h
theorem W_times {x y : Int} (hx : 0 ≤ x ∧ x < big192) (hy : 0 ≤ y ∧ y < big192) (h : x * y < big192) (s t : Bool) : Does cE 48 [] 0 [.v (W x s), .v (W y t)] (.v (W (x * y) false)) [] 0 := by
  have h1 := times_does (dg_dig x) (dg_dig y) s t
  rw [val_W x hx.1 hx.2, val_W y hy.1 hy.2] at h1
  exact h1 h
theorem W_less {x y : Int} (hx : 0 ≤ x ∧ x < big192) (hy : 0 ≤ y ∧ y < big192) (s t : Bool) : Does cE 66 [] 0 [.v (W x s), .v (W y t)] (.v (.bool (decide (x < y)))) [] 0 := by
  have h1 := less_does (dg_dig x) (dg_dig y) s t
  rw [val_W x hx.1 hx.2, val_W y hy.1 hy.2] at h1
  exact h1
theorem W_zero {x : Int} (hx : 0 ≤ x ∧ x < big192) (s : Bool) : Does cE 55 [] 0 [.v (W x s)] (.v (.bool (decide (x = 0)))) [] 0 := by
  have h1 := zero_does (dg_dig x) s
  rw [val_W x hx.1 hx.2] at h1
  exact h1
/-! ### Bits -/
theorem ediv2 (a : Int) {b c : Int} (hb : 0 < b) : a / b / c = a / (b * c) := by
  rw [Int.ediv_ediv, if_neg (fun h => by omega)]
  omega
theorem pow2_pos (k : Nat) : (0 : Int) < 2 ^ k := Int.pow_pos (by decide)
theorem val_at : ∀ (k : Nat) {l : List Int}, Rng l → val l / 4294967296 ^ k % 4294967296 = l.getD k 0
  | k, [], _ => by simp [val]
  | 0, x :: l, h => by
    have hx := h x List.mem_cons_self
    simp [val]
    omega
  | k + 1, x :: l, h => by
    have hx := h x List.mem_cons_self
    have ih := val_at k (l := l) fun y hy => h y (List.mem_cons_of_mem _ hy)
    rw [Int.pow_succ, Int.mul_comm, ← ediv2 _ (by decide)]
    simp only [val, List.getD_cons_succ]
    have e : (x + 4294967296 * val l) / 4294967296 = val l := by omega
    rw [e, ih]
theorem low_bits (q d : Int) (r : Nat) (hr : r < 32) : (4294967296 * q + d) / 2 ^ r % 2 = d / 2 ^ r % 2 := by
  have e : (4294967296 : Int) = 2 ^ r * (2 * 2 ^ (31 - r)) := by
    rw [← Int.mul_assoc, Int.mul_comm (2 ^ r) 2, Int.mul_assoc, ← Int.pow_add, show r + (31 - r) = 31 by omega]
    decide
  have e2 : 4294967296 * q + d = d + 2 ^ r * (2 * (2 ^ (31 - r) * q)) := by
    rw [e]
    grind
  have hp : (2 : Int) ^ r ≠ 0 := Int.ne_of_gt (Int.pow_pos (by decide))
  rw [e2, Int.add_mul_ediv_left _ _ hp]
  generalize 2 ^ (31 - r) * q = z
  omega
theorem bit_at {a : List Int} (ha : Rng a) (i : Nat) : a.getD (i / 32) 0 / 2 ^ (i % 32) % 2 = val a / 2 ^ i % 2 := by
  have e : (2 : Int) ^ i = 4294967296 ^ (i / 32) * 2 ^ (i % 32) := by
    have h1 : (4294967296 : Int) = 2 ^ 32 := by decide
    rw [h1, ← Int.pow_mul, ← Int.pow_add]
    congr 1
    omega
  rw [e, ← ediv2 _ (Int.pow_pos (by decide)), ← val_at (i / 32) ha]
  generalize val a / 4294967296 ^ (i / 32) = X
  have hx := Int.mul_ediv_add_emod X 4294967296
  conv => rhs; rw [← hx]
  exact (low_bits _ _ _ (Nat.mod_lt _ (by decide))).symm
theorem half_step (A : Int) (i : Nat) : A / 2 ^ i = 2 * (A / 2 ^ (i + 1)) + A / 2 ^ i % 2 := by
  rw [Int.pow_succ, ← ediv2 _ (Int.pow_pos (by decide))]
  omega
theorem min64 {k : Nat} (h : k ≤ 64) : Min.min k 64 = k := Nat.min_eq_left h
theorem bit_text (a : List Int) (ha : Dig a) (i : Nat) (hi : i < 192) : ((a.getD (IntKind.i64.wrap (((i : Int)).tdiv 32)).toNat (0 : Int)).fdiv (2 ^ Min.min (IntKind.u64.wrap (((i : Int)).tmod 32)).toNat 64)).tmod 2 = val a / 2 ^ i % 2 := by
  have r := rng_get ha.rng (i / 32)
  rw [Int.tdiv_eq_ediv_of_nonneg (a := (i : Int)) (by omega), Int.tmod_eq_emod_of_nonneg (a := (i : Int)) (by omega), wrap64 (by omega) (by omega), wrU (x := (i : Int) % 32) (by omega) (by omega)]
  have e1 : ((i : Int) / 32).toNat = i / 32 := by omega
  have e2 : ((i : Int) % 32).toNat = i % 32 := by omega
  rw [e1, e2, min64 (by omega), Int.fdiv_eq_ediv_of_nonneg _ (Int.le_of_lt (Int.pow_pos (by decide))), Int.tmod_eq_emod_of_nonneg (Int.ediv_nonneg r.1 (Int.le_of_lt (Int.pow_pos (by decide)))), bit_at ha.rng]
/-! ### Parts -/
theorem dg6 (n v : Int) (s : Bool) : wv ((dg 6 n).set 0 v) s = .agg #[iu v, iu ((dg 6 n).getD 1 0), iu ((dg 6 n).getD 2 0), iu ((dg 6 n).getD 3 0), iu ((dg 6 n).getD 4 0), iu ((dg 6 n).getD 5 0), .bool s] := rfl
theorem set_low {n v : Int} (h0 : 0 ≤ n) (h1 : n + v < big192) (hv : 0 ≤ v) (hlow : n % 4294967296 + v < 4294967296) : (dg 6 n).set 0 (n % 4294967296 + v) = dg 6 (n + v) := by
  have hd : Dig ((dg 6 n).set 0 (n % 4294967296 + v)) := ⟨by simp [dg_len], rng_set (dg_rng 6 n) (by omega)⟩
  rw [hd.eq, val_set (by rw [dg_len]; omega), val_W n h0 (by omega)]
  congr 1
  simp [dg]
  omega
theorem pa_loop {a b : List Int} (ha : Dig a) (hb : Dig b) (s t : Bool) (hpos : 0 < val b) (hb2 : 2 * val b ≤ big192) : ∀ (j : Nat) (Q R : Int), j ≤ 192 → 0 ≤ Q → 0 ≤ R ∧ R < val b → val a / 2 ^ j = Q * val b + R → ∀ m,
    Fin cE Tryd.f65 0 (.v (.tuple #[W (val a / val b) false, W (val a % val b) false])) [] 0 (inK paK (m + j + 1)) (paS ((j : Int) - 1)) (paT a b (dg 6 Q) (dg 6 R) s t) 6
  | 0, Q, R, hj, hQ, hR, hv, m => by
    refine fin_round ?_
    have h := pac_1 a b (dg 6 Q) (dg 6 R) s t m
    have e1 : (2 : Int) ^ 0 = 1 := rfl
    rw [e1, Int.ediv_one] at hv
    have e2 : val a / val b = Q := by
      rw [hv, Int.add_comm, Int.add_mul_ediv_right _ _ (by omega), Int.ediv_eq_zero_of_lt hR.1 hR.2]
      omega
    have e3 : val a % val b = R := by
      rw [hv, Int.add_comm, Int.add_mul_emod_self_right, Int.emod_eq_of_lt hR.1 hR.2]
    rw [e2, e3]
    exact h
  | i + 1, Q, R, hj, hQ, hR, hv, m => by
    refine fin_round ?_
    have hA := val_rng ha.rng
    rw [ha.len, big_pow] at hA
    have hstep := half_step (val a) i
    have hbit := bit_text a ha i (by omega)
    have hb01 : 0 ≤ val a / 2 ^ i % 2 ∧ val a / 2 ^ i % 2 ≤ 1 := by omega
    have hle : val a / 2 ^ i ≤ val a := Int.ediv_le_self _ hA.1
    rw [hv] at hstep
    have hQb : Q ≤ Q * val b := by
      have := Int.mul_le_mul_of_nonneg_left (show (1 : Int) ≤ val b by omega) hQ
      omega
    generalize hbt : val a / 2 ^ i % 2 = bt at hstep hbit hb01
    have h2R : R * 2 < big192 := by omega
    have p1 := W_plus (x := R) (y := R) hR.1 hR.1 (by omega) false false
    have p2 := W_plus (x := Q) (y := Q) hQ hQ (by omega) false false
    have hlow : ∀ {n : Int} {v : Int}, 0 ≤ v ∧ v ≤ 1 → (n + n) % 4294967296 + v < 4294967296 := by intro n v hv; omega
    have eR := set_low (n := R + R) (v := bt) (by omega) (by omega) hb01.1 (hlow hb01)
    have dR := dg6 (R + R) ((R + R) % 4294967296 + bt) false
    rw [eR] at dR
    have hw : IntKind.u64.wrap ((R + R) % 4294967296 + bt) = (R + R) % 4294967296 + bt := wrU (by omega) (by omega)
    have hl := W_less (x := R + R + bt) (y := val b) (by omega) (by have := val_rng hb.rng; rw [hb.len, big_pow] at this; exact this) false t
    have eb : W (val b) t = wv b t := by rw [W, ← hb.eq]
    rw [eb] at hl
    have ej : ((i + 1 : Nat) : Int) - 1 = (i : Int) := by omega
    rw [ej]
    have w1 : IntKind.i64.wrap ((i : Int) - 1) = (i : Int) - 1 := wrap64 (by omega) (by omega)
    have wd : IntKind.i64.wrap (((i : Int)).tdiv 32) = ((i / 32 : Nat) : Int) := by rw [Int.tdiv_eq_ediv_of_nonneg (a := (i : Int)) (by omega), wrap64 (by omega) (by omega)]; omega
    by_cases hlt : R + R + bt < val b
    · have hd : decide (R + R + bt < val b) = true := by simpa using hlt
      rw [hd] at hl
      have h := fun g1 g2 => pab_2 a b (dg 6 Q) (dg 6 R) s t i (m + (i + 1)) _ _ _ _ _ _ _ _ _ _ _ _ _ _ true (.v (.tuple #[W (val a / val b) false, W (val a % val b) false])) [] 0 p1 g1 g2 p2
      rw [pre_wc ha.len, hbit, w1, wd] at h
      have h := h ⟨by omega, by omega⟩ (lt6 ha (by omega))
      have e0 : (dg 6 (R + R)).getD 0 0 = (R + R) % 4294967296 := rfl
      rw [e0, hw, ← dR] at h
      refine h hl rfl ?_
      have ih := pa_loop ha hb s t hpos hb2 i (Q + Q) (R + R + bt) (by omega) (by omega) ⟨by omega, hlt⟩ (by rw [hstep]; grind) m
      rw [← eR] at ih
      exact ih
    · have hd : decide (R + R + bt < val b) = false := by simpa using hlt
      rw [hd] at hl
      have pm := W_minus (x := R + R + bt) (y := val b) (by omega) (by omega) (by omega) false t
      rw [eb] at pm
      have h := fun g1 g2 g3 => pab_1 a b (dg 6 Q) (dg 6 R) s t i (m + (i + 1)) _ _ _ _ _ _ _ _ _ _ _ _ _ _ false ((dg 6 (R + R + bt - val b)).getD 0 0) ((dg 6 (R + R + bt - val b)).getD 1 0) ((dg 6 (R + R + bt - val b)).getD 2 0) ((dg 6 (R + R + bt - val b)).getD 3 0) ((dg 6 (R + R + bt - val b)).getD 4 0) ((dg 6 (R + R + bt - val b)).getD 5 0) false (.v (.tuple #[W (val a / val b) false, W (val a % val b) false])) [] 0 p1 g1 g2 p2 g3
      rw [pre_wc ha.len, hbit, w1, wd] at h
      have h := h ⟨by omega, by omega⟩ (lt6 ha (by omega))
      have e0 : (dg 6 (R + R)).getD 0 0 = (R + R) % 4294967296 := rfl
      rw [e0, hw, ← dR] at h
      have h := h hl rfl pm
      have eQ := set_low (n := Q + Q) (v := 1) (by omega) (by omega) (by omega) (hlow (by omega))
      have e1 : (dg 6 (Q + Q)).getD 0 0 = (Q + Q) % 4294967296 := rfl
      have hw1 : IntKind.u64.wrap ((Q + Q) % 4294967296 + 1) = (Q + Q) % 4294967296 + 1 := wrU (by omega) (by omega)
      rw [e1, hw1] at h
      refine h ?_
      have ih := pa_loop ha hb s t hpos hb2 i (Q + Q + 1) (R + R + bt - val b) (by omega) (by omega) ⟨by omega, by omega⟩ (by rw [hstep]; grind) m
      rw [← eQ] at ih
      exact ih
end Go.Proofs.YtcneenlcbjicnaaDoorC
