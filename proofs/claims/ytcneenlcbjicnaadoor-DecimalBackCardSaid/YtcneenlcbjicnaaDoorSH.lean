/- What the program's decimals come to. -/
import Derived.Test.YtcneenlcbjicnaaDoorSG
import Derived.Test.YtcneenlcbjicnaaDoorPD1
namespace Go.Proofs.YtcneenlcbjicnaaDoorC
open Go.Proofs Go.Proofs.YtcneenlcbjicnaaDoorSx
set_option maxRecDepth 100000
set_option linter.unusedVariables false
def p10 (z : Int) : Int := 10 ^ z.toNat
abbrev sc6 (x : Int) : Prop := 0 ≤ x ∧ x ≤ 6
theorem p10_le {z : Int} (h : z ≤ 12) : 1 ≤ p10 z ∧ p10 z ≤ 1000000000000 := by
  unfold p10
  have h1 : (10 : Nat) ^ z.toNat ≤ 10 ^ 12 := Nat.pow_le_pow_right (by decide) (by omega)
  have h2 : 0 < (10 : Nat) ^ z.toNat := Nat.pow_pos (by decide)
  have h3 : ((10 ^ z.toNat : Nat) : Int) = (10 : Int) ^ z.toNat := by simp
  omega
theorem p10_get {z : Int} (h0 : 0 ≤ z) (h : z ≤ 12) : pow10.getD (0 + z.toNat * 1) 0 = p10 z := by
  have hp := pow10_get ⟨z.toNat, by omega⟩
  simp only at hp
  rw [Nat.zero_add, Nat.mul_one, hp]
  rfl
theorem p10_lt {z : Int} (h0 : 0 ≤ z) (h : z ≤ 12) : (0 + z.toNat * 1).succ.le pow10.length := by
  show 0 + z.toNat * 1 < 13
  omega
/-! ### What each comes to -/
def rescM (u x sc : Int) : Int × Int × Int :=
  if sc6 x ∧ sc6 sc then (if sc ≥ x then fitP (ab u * p10 (sc - x)) (ng u) sc else fitP (rnd (ab u) (p10 (x - sc))) (ng u) sc) else (0, 0, 1)
abbrev mx (x y : Int) : Int := if y > x then y else x
def sumM (u x v y : Int) (t : Bool) : Int × Int × Int :=
  if sc6 x ∧ sc6 y then fitP (addM (ab u * p10 (mx x y - x)) (ng u) (ab v * p10 (mx x y - y)) (ng v != t)).1 (addM (ab u * p10 (mx x y - x)) (ng u) (ab v * p10 (mx x y - y)) (ng v != t)).2 (mx x y) else (0, 0, 1)
def mulM (u x v y : Int) : Int × Int × Int :=
  if sc6 x ∧ sc6 y then (if x + y > 6 then fitP (rnd (ab u * ab v) (p10 (x + y - 6))) (ng u != ng v) 6 else fitP (ab u * ab v) (ng u != ng v) (x + y)) else (0, 0, 1)
def divM (u x v y sc : Int) : Int × Int × Int :=
  if sc6 x ∧ sc6 y ∧ sc6 sc then (if v = 0 then (0, 0, 33) else fitP (rnd (ab u * p10 (y + sc)) (ab v * p10 x)) (ng u != ng v) sc) else (0, 0, 1)
def cmpM (u x v y : Int) : Int :=
  if sc6 x ∧ sc6 y then (if (addM (ab u * p10 (6 - x)) (ng u) (ab v * p10 (6 - y)) (!ng v)).1 = 0 then 0 else if (addM (ab u * p10 (6 - x)) (ng u) (ab v * p10 (6 - y)) (!ng v)).2 then -1 else 1) else 0
theorem all1 (x y : Int) : [x, y].all inS = decide (sc6 x ∧ sc6 y) := by
  simp [sc6]
theorem all2 (x y z : Int) : [x, y, z].all inS = decide (sc6 x ∧ sc6 y ∧ sc6 z) := by
  simp [sc6]
theorem sc2_does (x y : Int) : Does cE 41 [(0, .ro 3 ([x, y] : List Int) false)] 1 [.o 0] (.v (.bool (decide (sc6 x ∧ sc6 y)))) [] 1 := by
  have := scales_does [x, y] (by simp)
  rw [all1] at this
  exact this
theorem sc3_does (x y z : Int) : Does cE 41 [(0, .ro 3 ([x, y, z] : List Int) false)] 1 [.o 0] (.v (.bool (decide (sc6 x ∧ sc6 y ∧ sc6 z)))) [] 1 := by
  have := scales_does [x, y, z] (by simp)
  rw [all2] at this
  exact this
theorem ab_bound {u : Int} (hu : I64 u) : 0 ≤ ab u ∧ ab u ≤ 9223372036854775808 := by
  have := ab_spec u
  omega
theorem up_mul {u z : Int} (hu : I64 u) (h : z ≤ 12) : 0 ≤ ab u * p10 z ∧ ab u * p10 z ≤ 9223372036854775808000000000000 := by
  have := mul_small (ab_bound hu) (b := p10 z) (B := 1000000000000) (by have := p10_le h; omega)
  omega
theorem up_does {u x sc : Int} (hu : I64 u) (h0 : 0 ≤ sc - x) (h1 : sc - x ≤ 12) : Does cE 42 [] 0 [.v (dc u x), .v (it sc)] (.v (Bv (ab u * p10 (sc - x)) (ng u))) [] 0 :=
  pup_does hu (sc - x).toNat (by omega) (by omega)
theorem Bv_small {n : Int} (h0 : 0 ≤ n) (h1 : n < 18446744073709551616) (s : Bool) : Bv n s = bg 0 n s := by
  have e1 : n / 18446744073709551616 = 0 := by omega
  have e2 : n % 18446744073709551616 = n := by omega
  unfold Bv
  rw [e1, e2]
theorem presc_does {u x sc : Int} (hu : I64 u) (hx : I64 x) (hs : I64 sc) : Does cE 12 [] 0 [.v (dc u x), .v (it sc)] (.v (ans (rescM u x sc))) [] 0 := by
  have hsc := sc2_does x sc
  have hb := ab_bound hu
  unfold rescM
  by_cases hok : sc6 x ∧ sc6 sc
  · rw [decide_eq_true hok] at hsc
    rw [if_pos hok]
    by_cases hge : sc ≥ x
    · rw [if_pos hge]
      have hm := up_mul (z := sc - x) hu (by omega)
      exact resc_2 (h0 := hsc) (h1 := rfl) (h2 := by simpa using hge) (h3 := up_does hu (by omega) (by omega)) (h4 := pback_does hm.1 (by unfold big128; omega) _ _)
    · rw [if_neg hge]
      have hp := p10_le (z := x - sc) (by omega)
      have w : IntKind.i64.wrap (x - sc) = x - sc := wrap64 (by omega) (by omega)
      have hr := rnd_le hb.1 (y := p10 (x - sc)) (by omega)
      have hrn := rnd_nonneg hb.1 (y := p10 (x - sc)) (by omega)
      have hby := by_does (x := ab u) (y := p10 (x - sc)) (by unfold big128; omega) (by omega) (by omega) (ng u) false
      rw [Bv_small (n := p10 (x - sc)) (by omega) (by omega)] at hby
      have hback := pback_does (x := rnd (ab u) (p10 (x - sc))) hrn (by unfold big128; omega) (ng u) sc
      have hg := p10_get (z := x - sc) (by omega) (by omega)
      rw [← hg, ← w] at hby
      exact resc_3 (h0 := hsc) (h1 := rfl) (h2 := by simpa using hge) (h3 := pof_does hu) (h4 := by rw [w]; omega) (h5 := by rw [w]; exact p10_lt (by omega) (by omega)) (h6 := hby) (h7 := by rw [w, hg]; exact hback)
  · rw [decide_eq_false hok] at hsc
    rw [if_neg hok]
    exact resc_1 u x sc false hsc rfl
theorem addM_bound {x y B : Int} (hx : 0 ≤ x) (hy : 0 ≤ y) (s t : Bool) : 0 ≤ (addM x s y t).1 ∧ (addM x s y t).1 ≤ x + y := by
  unfold addM
  split
  · simp only; omega
  · split <;> (simp only; omega)
theorem psum_does {u x v y : Int} (hu : I64 u) (hx : I64 x) (hv : I64 v) (hy : I64 y) (t : Bool) : Does cE 46 [] 0 [.v (dc u x), .v (dc v y), .v (.bool t)] (.v (ans (sumM u x v y t))) [] 0 := by
  have hsc := sc2_does x y
  unfold sumM
  by_cases hok : sc6 x ∧ sc6 y
  · rw [decide_eq_true hok] at hsc
    rw [if_pos hok]
    have hmx : mx x y ≤ 6 ∧ x ≤ mx x y ∧ y ≤ mx x y := by unfold mx; split <;> omega
    have m1 := up_mul (z := mx x y - x) hu (by omega)
    have m2 := up_mul (z := mx x y - y) hv (by omega)
    have hb := addM_bound (B := 0) m1.1 m2.1 (ng u) (ng v != t)
    exact psum_2 (h0 := hsc) (h1 := rfl) (h2 := up_does hu (by omega) (by omega)) (h3 := up_does hv (by omega) (by omega)) (h4 := pplus_does m1.1 m2.1 (by unfold big128; omega) _ _) (h5 := pback_does hb.1 (by unfold big128; omega) _ _)
  · rw [decide_eq_false hok] at hsc
    rw [if_neg hok]
    exact psum_1 u x v y t false hsc rfl
theorem padd_does {u x v y : Int} (hu : I64 u) (hx : I64 x) (hv : I64 v) (hy : I64 y) : Does cE 27 [] 0 [.v (dc u x), .v (dc v y)] (.v (ans (sumM u x v y false))) [] 0 :=
  padd_1 (h0 := psum_does hu hx hv hy false)
theorem psub_does {u x v y : Int} (hu : I64 u) (hx : I64 x) (hv : I64 v) (hy : I64 y) : Does cE 17 [] 0 [.v (dc u x), .v (dc v y)] (.v (ans (sumM u x v y true))) [] 0 :=
  psub_1 (h0 := psum_does hu hx hv hy true)
theorem pneg_does {u x : Int} (hu : I64 u) (hx : I64 x) : Does cE 26 [] 0 [.v (dc u x)] (.v (ans (sumM 0 x u x true))) [] 0 :=
  pneg_1 (h0 := psub_does (by decide) hx hu hx)
theorem pmul_does {u x v y : Int} (hu : I64 u) (hx : I64 x) (hv : I64 v) (hy : I64 y) : Does cE 18 [] 0 [.v (dc u x), .v (dc v y)] (.v (ans (mulM u x v y))) [] 0 := by
  have hsc := sc2_does x y
  have hbu := ab_bound hu
  have hbv := ab_bound hv
  have hm := mul_small hbu hbv
  unfold mulM
  by_cases hok : sc6 x ∧ sc6 y
  · rw [decide_eq_true hok] at hsc
    rw [if_pos hok]
    have ht := ptimes_does (x := ab u) (n := ab v) hbu.1 (by unfold U64; omega) (by unfold big128; omega) (by unfold big128; omega) (ng u)
    have hov := pof_does hv
    rw [Bv_small hbv.1 (by omega)] at hov
    have w1 : IntKind.i64.wrap (x + y) = x + y := wrap64 (by omega) (by omega)
    have w2 : IntKind.i64.wrap (x + y - 6) = x + y - 6 := wrap64 (by omega) (by omega)
    by_cases h6 : x + y > 6
    · rw [if_pos h6]
      have hp := p10_le (z := x + y - 6) (by omega)
      have hr := rnd_le hm.1 (y := p10 (x + y - 6)) (by omega)
      have hrn := rnd_nonneg hm.1 (y := p10 (x + y - 6)) (by omega)
      have hby := by_does (x := ab u * ab v) (y := p10 (x + y - 6)) (by unfold big128; omega) (by omega) (by omega) (ng u != ng v) false
      rw [Bv_small (n := p10 (x + y - 6)) (by omega) (by omega)] at hby
      have hback := pback_does (x := rnd (ab u * ab v) (p10 (x + y - 6))) hrn (by unfold big128; omega) (ng u != ng v) 6
      have hg := p10_get (z := x + y - 6) (by omega) (by omega)
      have h := fun g5 g6 g7 g8 => pmul_2 (h0 := hsc) (h1 := rfl) (h2 := pof_does hu) (h3 := hov) (h4 := ht) (h5 := g5) (h6 := g6) (h7 := g7) (h8 := g8) (h9 := hback)
      rw [w1, w2, hg] at h
      exact h (by simpa using h6) ⟨by omega, by omega⟩ (p10_lt (by omega) (by omega)) hby
    · rw [if_neg h6]
      have hback := pback_does (x := ab u * ab v) hm.1 (by unfold big128; omega) (ng u != ng v) (x + y)
      have h := fun g5 => pmul_3 (h0 := hsc) (h1 := rfl) (h2 := pof_does hu) (h3 := hov) (h4 := ht) (h5 := g5) (h6 := by rw [w1]; exact hback)
      rw [w1] at h
      exact h (by simpa using h6)
  · rw [decide_eq_false hok] at hsc
    rw [if_neg hok]
    exact pmul_1 u x v y false hsc rfl
theorem ab_pos {v : Int} (h : v ≠ 0) : 0 < ab v := by
  have := ab_spec v
  omega
theorem pdiv_does {u x v y sc : Int} (hu : I64 u) (hx : I64 x) (hv : I64 v) (hy : I64 y) (hs : I64 sc) : Does cE 20 [] 0 [.v (dc u x), .v (dc v y), .v (it sc)] (.v (ans (divM u x v y sc))) [] 0 := by
  have hsc := sc3_does x y sc
  have hbu := ab_bound hu
  have hbv := ab_bound hv
  unfold divM
  by_cases hok : sc6 x ∧ sc6 y ∧ sc6 sc
  · rw [decide_eq_true hok] at hsc
    rw [if_pos hok]
    by_cases hv0 : v = 0
    · rw [if_pos hv0]
      exact pdiv_2 u x v y sc true hsc rfl (by simpa using hv0)
    · rw [if_neg hv0]
      have w1 : IntKind.i64.wrap (y + sc) = y + sc := wrap64 (by omega) (by omega)
      have hp1 := p10_le (z := y + sc) (by omega)
      have hp2 := p10_le (z := x) (by omega)
      have m1 := up_mul (z := y + sc) hu (by omega)
      have m2 := up_mul (z := x) hv (by omega)
      have hpos : 0 < ab v * p10 x := Int.mul_pos (ab_pos hv0) (by omega)
      have m3 : ab v * p10 x ≤ 9223372036854775808000000 * 1000000 := by omega
      have t1 := ptimes_does (x := ab u) (n := p10 (y + sc)) hbu.1 (by unfold U64; omega) (by unfold big128; omega) (by unfold big128; omega) (ng u)
      have t2 := ptimes_does (x := ab v) (n := p10 x) hbv.1 (by unfold U64; omega) (by unfold big128; omega) (by unfold big128; omega) (ng v)
      have hr := rnd_le m1.1 hpos
      have hrn := rnd_nonneg m1.1 hpos
      have hby := by_does (x := ab u * p10 (y + sc)) (y := ab v * p10 x) (by unfold big128; omega) hpos (by omega) (ng u != ng v) (ng v)
      have hback := pback_does (x := rnd (ab u * p10 (y + sc)) (ab v * p10 x)) hrn (by unfold big128; omega) (ng u != ng v) sc
      have h := fun g4 g5 g6 g8 g9 g10 => pdiv_3 (h0 := hsc) (h1 := rfl) (h2 := by simpa using hv0) (h3 := pof_does hu) (h4 := g4) (h5 := g5) (h6 := g6) (h7 := pof_does hv) (h8 := g8) (h9 := g9) (h10 := g10) (h11 := hby) (h12 := hback)
      rw [w1, p10_get (by omega) (by omega), p10_get (by omega) (by omega)] at h
      exact h ⟨by omega, by omega⟩ (p10_lt (by omega) (by omega)) t1 ⟨by omega, by omega⟩ (p10_lt (by omega) (by omega)) t2
  · rw [decide_eq_false hok] at hsc
    rw [if_neg hok]
    exact pdiv_1 u x v y sc false hsc rfl
theorem or_zero {a b : Int} (ha : U64 a) (hb : U64 b) : (IntKind.u64.wrap ↑(BitVec.ofInt 64 a ||| BitVec.ofInt 64 b).toNat == 0) = decide (a = 0 ∧ b = 0) := by
  rw [BitVec.toNat_or, BitVec.toNat_ofInt, BitVec.toNat_ofInt]
  have a1 : (a % ((2 ^ 64 : Nat) : Int)).toNat = a.toNat := by unfold U64 at ha; omega
  have a2 : (b % ((2 ^ 64 : Nat) : Int)).toNat = b.toNat := by unfold U64 at hb; omega
  rw [a1, a2]
  have hlt : a.toNat ||| b.toNat < 2 ^ 64 := Nat.or_lt_two_pow (by unfold U64 at ha; omega) (by unfold U64 at hb; omega)
  rw [wrU (by omega) (by omega)]
  unfold U64 at ha hb
  by_cases h : a = 0 ∧ b = 0
  · rw [decide_eq_true h, h.1, h.2]
    rfl
  · rw [decide_eq_false h]
    refine beq_false_of_ne fun h0 => h ?_
    have h1 : a.toNat ||| b.toNat = 0 := by omega
    have h2 := @Nat.left_le_or a.toNat b.toNat
    have h3 := @Nat.right_le_or a.toNat b.toNat
    omega
theorem pcmp_does {u x v y : Int} (hu : I64 u) (hx : I64 x) (hv : I64 v) (hy : I64 y) : Does cE 25 [] 0 [.v (dc u x), .v (dc v y)] (.v (it (cmpM u x v y))) [] 0 := by
  have hsc := sc2_does x y
  unfold cmpM
  by_cases hok : sc6 x ∧ sc6 y
  · rw [decide_eq_true hok] at hsc
    rw [if_pos hok]
    have m1 := up_mul (z := 6 - x) hu (by omega)
    have m2 := up_mul (z := 6 - y) hv (by omega)
    have hb := addM_bound (B := 0) m1.1 m2.1 (ng u) (!ng v)
    have hpl := pplus_does m1.1 m2.1 (by unfold big128; omega) (ng u) (!ng v)
    generalize addM (ab u * p10 (6 - x)) (ng u) (ab v * p10 (6 - y)) (!ng v) = D at hb hpl
    obtain ⟨d, e⟩ := D
    simp only at hb hpl ⊢
    have hz : decide (d / 18446744073709551616 = 0 ∧ d % 18446744073709551616 = 0) = decide (d = 0) := by rw [decide_eq_decide]; omega
    have ho := or_zero (a := d / 18446744073709551616) (b := d % 18446744073709551616) (by unfold U64; omega) (by unfold U64; omega)
    rw [hz] at ho
    by_cases h0 : d = 0
    · rw [if_pos h0]
      rw [decide_eq_true h0] at ho
      exact pcmp_2 (h0 := hsc) (h1 := rfl) (h2 := up_does hu (by omega) (by omega)) (h3 := up_does hv (by omega) (by omega)) (h4 := hpl) (h5 := ho)
    · rw [if_neg h0]
      rw [decide_eq_false h0] at ho
      cases e with
      | true => exact pcmp_3 (h0 := hsc) (h1 := rfl) (h2 := up_does hu (by omega) (by omega)) (h3 := up_does hv (by omega) (by omega)) (h4 := hpl) (h5 := ho) (h6 := rfl)
      | false => exact pcmp_4 (h0 := hsc) (h1 := rfl) (h2 := up_does hu (by omega) (by omega)) (h3 := up_does hv (by omega) (by omega)) (h4 := hpl) (h5 := ho) (h6 := rfl)
  · rw [decide_eq_false hok] at hsc
    rw [if_neg hok]
    exact pcmp_1 u x v y false hsc rfl
theorem paddi_does {u v : Int} (hu : I64 u) (hv : I64 v) : Does cE 33 [] 0 [.v (it u), .v (it v)] (.v (.tuple #[it (sumM u 0 v 0 false).1, it (sumM u 0 v 0 false).2.2])) [] 0 :=
  paddi_1 (h0 := padd_does hu (by decide) hv (by decide))
theorem pmuli_does {u v : Int} (hu : I64 u) (hv : I64 v) : Does cE 35 [] 0 [.v (it u), .v (it v)] (.v (.tuple #[it (mulM u 0 v 0).1, it (mulM u 0 v 0).2.2])) [] 0 :=
  pmuli_1 (h0 := pmul_does hu (by decide) hv (by decide))
end Go.Proofs.YtcneenlcbjicnaaDoorC
