/- What the reference's functions come to, all on numbers with a sign. -/
import Derived.Test.YtcneenlcbjicnaaDoorSC
namespace Go.Proofs.YtcneenlcbjicnaaDoorC
open Go.Proofs Go.Proofs.YtcneenlcbjicnaaDoorSx
set_option maxRecDepth 100000
set_option linter.unusedVariables false
abbrev I64 (n : Int) : Prop := -9223372036854775808 ≤ n ∧ n ≤ 9223372036854775807
def ab (n : Int) : Int := (n.natAbs : Int)
theorem ab_spec (n : Int) : (n < 0 ∧ ab n = -n) ∨ (0 ≤ n ∧ ab n = n) := by unfold ab; omega
abbrev ng (n : Int) : Bool := decide (n < 0)
theorem parts_does {x y : Int} (hx : 0 ≤ x ∧ x < big192) (hy : 0 < y) (hy2 : 2 * y ≤ big192) (s t : Bool) : Does cE 65 [] 0 [.v (W x s), .v (W y t)] (.v (.tuple #[W (x / y) false, W (x % y) false])) [] 0 := by
  refine does_of_fin (fn := Tryd.f65) (c := bd Tryd.f65) rfl (by kernel_rfl) rfl ?_
  refine paa_1 (dg 6 x) (dg 6 y) s t _ _ _ ?_
  refine fin_loop (0 + 192 + 1) ?_
  have vx := val_W x hx.1 hx.2
  have vy := val_W y (by omega) (by omega)
  have h := pa_loop (dg_dig x) (dg_dig y) s t (by rw [vy]; exact hy) (by rw [vy]; exact hy2) 192 0 0 (by omega) (by omega) (by rw [vy]; omega) (by
    rw [vx]
    have : (2 : Int) ^ 192 = big192 := by decide
    rw [this, Int.ediv_eq_zero_of_lt hx.1 hx.2]
    omega) 0
  rw [vx, vy] at h
  exact h
/-- Rounded: of two as near to the even one. -/
def rnd (x y : Int) : Int := if y < 2 * (x % y) ∨ (y = 2 * (x % y) ∧ x / y % 2 = 1) then x / y + 1 else x / y
theorem rnd_nonneg {x y : Int} (hx : 0 ≤ x) (hy : 0 < y) : 0 ≤ rnd x y := by
  have := Int.ediv_nonneg hx (Int.le_of_lt hy)
  unfold rnd
  split <;> omega
theorem rnd_le {x y : Int} (hx : 0 ≤ x) (hy : 0 < y) : rnd x y ≤ x := by
  have h1 := Int.ediv_le_self y hx
  have h2 := Int.emod_nonneg x (Int.ne_of_gt hy)
  have h3 := Int.emod_lt_of_pos x hy
  have h4 := Int.mul_ediv_add_emod x y
  have h5 := Int.ediv_nonneg hx (Int.le_of_lt hy)
  unfold rnd
  split
  · rename_i hc
    have : 1 ≤ x % y := by omega
    have h6 : x / y ≤ y * (x / y) := by
      have := Int.mul_le_mul_of_nonneg_right (show (1 : Int) ≤ y by omega) h5
      omega
    omega
  · omega
theorem one_W : Does cE 49 [] 0 [.v (it 1)] (.v (W 1 false)) [] 0 := by
  have := rof_2 1 (by decide)
  exact this
theorem rounded_does {x y : Int} (hx : 0 ≤ x ∧ x < big192) (hy : 0 < y) (hy2 : 2 * y ≤ big192) (s t : Bool) : Does cE 50 [] 0 [.v (W x s), .v (W y t)] (.v (W (rnd x y) s)) [] 0 := by
  have hp := parts_does hx hy hy2 s t
  have h2 := Int.emod_nonneg x (Int.ne_of_gt hy)
  have h3 := Int.emod_lt_of_pos x hy
  have h5 := Int.ediv_nonneg hx.1 (Int.le_of_lt hy)
  have h6 := Int.ediv_le_self y hx.1
  have hr := rnd_le hx.1 hy
  have ht := W_plus (x := x % y) (y := x % y) h2 h2 (by omega) false false
  have l1 := W_less (x := y) (y := x % y + x % y) (by omega) (by omega) t false
  have l2 := W_less (x := x % y + x % y) (y := y) (by omega) (by omega) false t
  have hodd : (dg 6 (x / y)).getD 0 0 = x / y % 4294967296 := rfl
  by_cases c1 : y < x % y + x % y
  · have d1 : decide (y < x % y + x % y) = true := by simpa using c1
    rw [d1] at l1
    have e : rnd x y = x / y + 1 := by unfold rnd; rw [if_pos (.inl (by omega))]
    rw [e] at hr ⊢
    exact rrnd_1 (h0 := hp) (h1 := ht) (h2 := l1) (h3 := rfl) (h4 := one_W) (h5 := W_plus h5 (by decide) (by omega) false false)
  · have d1 : decide (y < x % y + x % y) = false := by simpa using c1
    rw [d1] at l1
    by_cases c2 : x % y + x % y < y
    · have d2 : decide (x % y + x % y < y) = true := by simpa using c2
      rw [d2] at l2
      have e : rnd x y = x / y := by unfold rnd; rw [if_neg (by omega)]
      rw [e]
      exact rrnd_4 (h0 := hp) (h1 := ht) (h2 := l1) (h3 := rfl) (h4 := l2) (h5 := rfl)
    · have d2 : decide (x % y + x % y < y) = false := by simpa using c2
      rw [d2] at l2
      by_cases c3 : x / y % 2 = 1
      · have e : rnd x y = x / y + 1 := by unfold rnd; rw [if_pos (.inr ⟨by omega, c3⟩)]
        rw [e] at hr ⊢
        refine rrnd_2 (h0 := hp) (h1 := ht) (h2 := l1) (h3 := rfl) (h4 := l2) (h5 := rfl) (h6 := ?_) (h7 := one_W) (h8 := W_plus h5 (by decide) (by omega) false false)
        rw [hodd, Int.tmod_eq_emod_of_nonneg (by omega)]
        simp
        omega
      · have e : rnd x y = x / y := by unfold rnd; rw [if_neg (by omega)]
        rw [e]
        refine rrnd_3 (h0 := hp) (h1 := ht) (h2 := l1) (h3 := rfl) (h4 := l2) (h5 := rfl) (h6 := ?_)
        rw [hodd, Int.tmod_eq_emod_of_nonneg (by omega)]
        simp
        omega
/-! ### Numbers of 64 bits -/
theorem dg_small {n : Int} (h0 : 0 ≤ n) (h1 : n < 18446744073709551616) : dg 6 n = [n % 4294967296, n / 4294967296, 0, 0, 0, 0] := by
  simp only [dg]
  have e1 : n / 4294967296 % 4294967296 = n / 4294967296 := by omega
  have e2 : n / 4294967296 / 4294967296 = 0 := by omega
  rw [e1, e2]
  rfl
theorem wrap_abs {n : Int} (hn : I64 n) (h : n < 0) : IntKind.u64.wrap (0 - IntKind.u64.wrap n) = ab n := by
  have ha := ab_spec n
  rw [wrapU, wrapU]
  omega
theorem wrap_pos {n : Int} (hn : I64 n) (h : ¬ n < 0) : IntKind.u64.wrap n = ab n := by
  have ha := ab_spec n
  rw [wrapU]
  omega
theorem rof_does {n : Int} (hn : I64 n) : Does cE 49 [] 0 [.v (it n)] (.v (W (ab n) (ng n))) [] 0 := by
  have ha := ab_spec n
  have hs := dg_small (n := ab n) (by omega) (by omega)
  unfold W
  rw [hs]
  by_cases h : n < 0
  · have h1 := rof_1 n (by simpa using h)
    rw [wrap_abs hn h, Int.tmod_eq_emod_of_nonneg (by omega), Int.tdiv_eq_ediv_of_nonneg (by omega), wrU (x := ab n / 4294967296) (by omega) (by omega)] at h1
    exact h1
  · have h1 := rof_2 n (by simpa using h)
    rw [wrap_pos hn h, Int.tmod_eq_emod_of_nonneg (by omega), Int.tdiv_eq_ediv_of_nonneg (by omega), wrU (x := ab n / 4294967296) (by omega) (by omega)] at h1
    exact h1
theorem p10_bound {n : Nat} (h : n ≤ 18) : 1 ≤ (10 : Int) ^ n ∧ (10 : Int) ^ n ≤ 1000000000000000000 := by
  have h1 : (10 : Nat) ^ n ≤ 10 ^ 18 := Nat.pow_le_pow_right (by decide) h
  have h2 : 0 < (10 : Nat) ^ n := Nat.pow_pos (by decide)
  have h3 : ((10 ^ n : Nat) : Int) = (10 : Int) ^ n := by simp
  omega
theorem po_loop (n : Nat) (hn : n ≤ 18) : ∀ (r i : Nat), i + r = n → ∀ m, Fin cE Tryd.f16 0 (.v (it (10 ^ n))) [] 0 (inK poK (m + r + 1)) ([.v (it n), .na, .na, .v (it (10 ^ i)), .v (it i)] ++ List.replicate 8 .na) [] 0
  | 0, i, hi, m => by
    refine fin_round ?_
    have e : i = n := by omega
    subst e
    exact pob_2 _ _ i m (by simp)
  | r + 1, i, hi, m => by
    refine fin_round ?_
    have hb := p10_bound (n := i + 1) (by omega)
    refine pob_1 _ _ i (m + (r + 1)) _ _ _ (by simp; omega) ?_
    have e : IntKind.i64.wrap (10 * 10 ^ i) = 10 ^ (i + 1) := by
      rw [Int.pow_succ] at hb ⊢
      rw [wrap64 (by omega) (by omega)]
      omega
    rw [e, step64 (by omega)]
    exact po_loop n hn r (i + 1) (by omega) m
theorem power_does (n : Nat) (hn : n ≤ 18) : Does cE 16 [] 0 [.v (it n)] (.v (it (10 ^ n))) [] 0 := by
  refine does_of_fin (fn := Tryd.f16) (c := bd Tryd.f16) rfl (by kernel_rfl) rfl ?_
  refine poa_1 _ _ _ _ ?_
  refine fin_loop (0 + n + 1) ?_
  exact po_loop n hn n 0 (by omega) 0
theorem mul_small {a b A B : Int} (ha : 0 ≤ a ∧ a ≤ A) (hb : 0 ≤ b ∧ b ≤ B) : 0 ≤ a * b ∧ a * b ≤ A * B :=
  ⟨Int.mul_nonneg ha.1 hb.1, Int.le_trans (Int.mul_le_mul_of_nonneg_right ha.2 hb.1) (Int.mul_le_mul_of_nonneg_left hb.2 (by omega))⟩
theorem rscaled_does {u x sc : Int} (hu : I64 u) (d : Nat) (hd : d ≤ 18) (hx : I64 x) (he : sc - x = d) : Does cE 52 [] 0 [.v (dc u x), .v (it sc)] (.v (W (ab u * 10 ^ d) (ng u))) [] 0 := by
  have ha := ab_spec u
  have hb := p10_bound hd
  have hc := ab_spec (10 ^ d)
  have hm := mul_small (a := ab u) (b := 10 ^ d) (A := 9223372036854775808) (B := 1000000000000000000) (by omega) (by omega)
  have h1 := rof_does (n := 10 ^ d) (by omega)
  have e1 : ab (10 ^ d) = 10 ^ d := by omega
  have e2 : ng (10 ^ d) = false := by simp; omega
  rw [e1, e2] at h1
  have ew : IntKind.i64.wrap (sc - x) = (d : Int) := by rw [he, wrap64 (by omega) (by omega)]
  have hp := power_does d hd
  have hw := W_times (x := ab u) (y := 10 ^ d) (by unfold big192; omega) (by unfold big192; omega) (by unfold big192; omega) (ng u) false
  exact rscl_1 (h0 := rof_does hu) (h1 := by rw [ew]; exact hp) (h2 := h1) (h3 := hw)
/-- A sum, with signs. -/
def addM (x : Int) (s : Bool) (y : Int) (t : Bool) : Int × Bool := if s = t then (x + y, s) else if x < y then (y - x, t) else (x - y, s)
theorem rsum_does {x y : Int} (hx : 0 ≤ x) (hy : 0 ≤ y) (h : x + y < big192) (s t : Bool) : Does cE 54 [] 0 [.v (W x s), .v (W y t)] (.v (W (addM x s y t).1 (addM x s y t).2)) [] 0 := by
  unfold addM
  by_cases hs : s = t
  · rw [if_pos hs]
    subst hs
    exact rsum_1 (h0 := by simp) (h1 := W_plus hx hy h s s)
  · rw [if_neg hs]
    have hl := W_less (x := x) (y := y) (by omega) (by omega) s t
    by_cases hlt : x < y
    · rw [if_pos hlt]
      have d1 : decide (x < y) = true := by simpa using hlt
      rw [d1] at hl
      exact rsum_2 (h0 := by simpa using hs) (h1 := hl) (h2 := rfl) (h3 := W_minus (x := y) (y := x) (by omega) (by omega) (by omega) t s)
    · rw [if_neg hlt]
      have d1 : decide (x < y) = false := by simpa using hlt
      rw [d1] at hl
      exact rsum_3 (h0 := by simpa using hs) (h1 := hl) (h2 := rfl) (h3 := W_minus (x := x) (y := y) (by omega) (by omega) (by omega) s t)
/-! ### Back -/
def fits (x : Int) (s : Bool) : Prop := x ≤ (if s then 9223372036854775808 else 9223372036854775807)
instance (x : Int) (s : Bool) : Decidable (fits x s) := by unfold fits; infer_instance
abbrev sg (x : Int) (s : Bool) : Int := if s then -x else x
/-- Units and scale, and how it ended. -/
def fitP (x : Int) (s : Bool) (sc : Int) : Int × Int × Int := if fits x s then (sg x s, sc, 0) else (0, 0, 32)
abbrev ans (p : Int × Int × Int) : Value := .tuple #[dc p.1 p.2.1, it p.2.2]
theorem dg_get {x : Int} (h0 : 0 ≤ x) (h1 : x < big192) : x = (dg 6 x).getD 0 0 + 4294967296 * ((dg 6 x).getD 1 0 + 4294967296 * ((dg 6 x).getD 2 0 + 4294967296 * ((dg 6 x).getD 3 0 + 4294967296 * ((dg 6 x).getD 4 0 + 4294967296 * (dg 6 x).getD 5 0)))) := by
  have := val6 (dg_dig x)
  rw [val_W x h0 h1] at this
  exact this
theorem rback_does {x : Int} (h0 : 0 ≤ x) (h1 : x < big192) (s : Bool) (sc : Int) : Does cE 51 [] 0 [.v (W x s), .v (it sc)] (.v (ans (fitP x s sc))) [] 0 := by
  have hv := dg_get h0 h1
  have a0 := rng_get (dg_rng 6 x) 0
  have a1 := rng_get (dg_rng 6 x) 1
  have a2 := rng_get (dg_rng 6 x) 2
  have a3 := rng_get (dg_rng 6 x) 3
  have a4 := rng_get (dg_rng 6 x) 4
  have a5 := rng_get (dg_rng 6 x) 5
  have big : ∀ (P : Value → Prop), (18446744073709551616 ≤ x → P (.tuple #[dc 0 0, it 32])) → 18446744073709551616 ≤ x → P (ans (fitP x s sc)) := by
    intro P hP hx
    have : ¬ fits x s := by unfold fits; cases s <;> simp <;> omega
    unfold fitP
    rw [if_neg this]
    exact hP hx
  by_cases h2 : (dg 6 x).getD 2 0 = 0
  · by_cases h3 : (dg 6 x).getD 3 0 = 0
    · by_cases h4 : (dg 6 x).getD 4 0 = 0
      · by_cases h5 : (dg 6 x).getD 5 0 = 0
        · have w : IntKind.u64.wrap (IntKind.u64.wrap ((dg 6 x).getD 1 0 * 4294967296) + (dg 6 x).getD 0 0) = x := by
            rw [wrU (x := (dg 6 x).getD 1 0 * 4294967296) (by omega) (by omega), wrU (by omega) (by omega)]
            omega
          have hx : x < 18446744073709551616 := by omega
          unfold fitP
          cases s with
          | true =>
            by_cases hle : x ≤ 9223372036854775808
            · have h := rbk_1 (dg 6 x) true sc (by rw [h2]; rfl) (by rw [h3]; rfl) (by rw [h4]; rfl) (by rw [h5]; rfl) rfl
              rw [w] at h
              have e : IntKind.i64.wrap (IntKind.u64.wrap (0 - x)) = -x := by rw [wrapU, IntKind.wrap_i64]; omega
              rw [e] at h
              rw [if_pos (by unfold fits; simpa using hle)]
              exact h (by simpa using hle)
            · have h := rbk_2 (dg 6 x) true sc (by rw [h2]; rfl) (by rw [h3]; rfl) (by rw [h4]; rfl) (by rw [h5]; rfl) rfl
              rw [w] at h
              rw [if_neg (by unfold fits; simpa using hle)]
              exact h (by simpa using hle) (by simp; omega)
          | false =>
            by_cases hle : x ≤ 9223372036854775807
            · have h := rbk_5 (dg 6 x) false sc (by rw [h2]; rfl) (by rw [h3]; rfl) (by rw [h4]; rfl) (by rw [h5]; rfl) rfl
              rw [w, wrap64 (by omega) (by omega)] at h
              rw [if_pos (by unfold fits; simpa using hle)]
              exact h (by simp; omega)
            · have h := rbk_4 (dg 6 x) false sc (by rw [h2]; rfl) (by rw [h3]; rfl) (by rw [h4]; rfl) (by rw [h5]; rfl) rfl
              rw [w] at h
              rw [if_neg (by unfold fits; simpa using hle)]
              exact h (by simp; omega)
        · exact big (fun v => Does cE 51 [] 0 [.v (W x s), .v (it sc)] (.v v) [] 0) (fun _ => rbk3_1 (dg 6 x) s sc (by rw [h2]; rfl) (by rw [h3]; rfl) (by rw [h4]; rfl) (bne_iff_ne.2 h5)) (by omega)
      · exact big (fun v => Does cE 51 [] 0 [.v (W x s), .v (it sc)] (.v v) [] 0) (fun _ => rbk2_1 (dg 6 x) s sc (by rw [h2]; rfl) (by rw [h3]; rfl) (bne_iff_ne.2 h4)) (by omega)
    · exact big (fun v => Does cE 51 [] 0 [.v (W x s), .v (it sc)] (.v v) [] 0) (fun _ => rbk1_1 (dg 6 x) s sc (by rw [h2]; rfl) (bne_iff_ne.2 h3)) (by omega)
  · exact big (fun v => Does cE 51 [] 0 [.v (W x s), .v (it sc)] (.v v) [] 0) (fun _ => rbk0_1 (dg 6 x) s sc (bne_iff_ne.2 h2)) (by omega)
end Go.Proofs.YtcneenlcbjicnaaDoorC
