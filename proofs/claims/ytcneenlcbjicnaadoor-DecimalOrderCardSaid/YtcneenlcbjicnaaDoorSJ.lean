/- The program's decimals, told by numbers with their sign. -/
import Derived.Test.YtcneenlcbjicnaaDoorSI
import Derived.Test.YtcneenlcbjicnaaDoorLA
namespace Go.Proofs.YtcneenlcbjicnaaDoorC
open Go.Proofs Go.Proofs.YtcneenlcbjicnaaDoorSx
set_option maxRecDepth 100000
set_option linter.unusedVariables false
def fitZ (z sc : Int) : Int × Int × Int := if -9223372036854775808 ≤ z ∧ z ≤ 9223372036854775807 then (z, sc, 0) else (0, 0, 32)
theorem fitP_eq {N : Int} (h : 0 ≤ N) (s : Bool) (sc : Int) : fitP N s sc = fitZ (sg N s) sc := by
  unfold fitP fitZ
  cases s with
  | true =>
    have e : fits N true ↔ (-9223372036854775808 ≤ -N ∧ -N ≤ 9223372036854775807) := by
      unfold fits
      simp
      omega
    by_cases hf : fits N true
    · rw [if_pos hf, if_pos (by simpa [sg] using e.1 hf)]
    · rw [if_neg hf, if_neg (fun h => hf (e.2 (by simpa [sg] using h)))]
  | false =>
    have e : fits N false ↔ (-9223372036854775808 ≤ N ∧ N ≤ 9223372036854775807) := by
      unfold fits
      simp
      omega
    by_cases hf : fits N false
    · rw [if_pos hf, if_pos (by simpa [sg] using e.1 hf)]
    · rw [if_neg hf, if_neg (fun h => hf (e.2 (by simpa [sg] using h)))]
theorem sg_mul (u p : Int) : sg (ab u * p) (ng u) = u * p := by
  rcases ab_spec u with ⟨h1, h2⟩ | ⟨h1, h2⟩
  · rw [show ng u = true from decide_eq_true h1, h2]
    simp only [sg, if_pos]
    rw [Int.neg_mul]
    omega
  · rw [show ng u = false from decide_eq_false (by omega), h2]
    simp [sg]
theorem sg_mulT (u p : Int) (t : Bool) : sg (ab u * p) (ng u != t) = if t then -(u * p) else u * p := by
  rcases ab_spec u with ⟨h1, h2⟩ | ⟨h1, h2⟩
  · rw [show ng u = true from decide_eq_true h1, h2]
    cases t <;> simp [sg, Int.neg_mul]
  · rw [show ng u = false from decide_eq_false (by omega), h2]
    cases t <;> simp [sg]
theorem addM_sg {x y : Int} (hx : 0 ≤ x) (hy : 0 ≤ y) (s t : Bool) : sg (addM x s y t).1 (addM x s y t).2 = sg x s + sg y t := by
  unfold addM
  by_cases h : s = t
  · subst h
    rw [if_pos rfl]
    cases s <;> simp [sg] <;> omega
  · rw [if_neg h]
    by_cases hlt : x < y
    · rw [if_pos hlt]
      cases s <;> cases t <;> simp [sg] at h ⊢ <;> omega
    · rw [if_neg hlt]
      cases s <;> cases t <;> simp [sg] at h ⊢ <;> omega
theorem sumZ {u x v y : Int} (hu : I64 u) (hv : I64 v) (hx : sc6 x) (hy : sc6 y) (t : Bool) : sumM u x v y t = fitZ (u * p10 (mx x y - x) + (if t then -(v * p10 (mx x y - y)) else v * p10 (mx x y - y))) (mx x y) := by
  have hmx : mx x y ≤ 6 ∧ x ≤ mx x y ∧ y ≤ mx x y := by unfold mx; split <;> omega
  have m1 := up_mul (z := mx x y - x) hu (by omega)
  have m2 := up_mul (z := mx x y - y) hv (by omega)
  have hb := addM_bound (B := 0) m1.1 m2.1 (ng u) (ng v != t)
  unfold sumM
  rw [if_pos ⟨hx, hy⟩, fitP_eq hb.1, addM_sg m1.1 m2.1, sg_mul, sg_mulT]
theorem sum_bad {u x v y : Int} (h : ¬ (sc6 x ∧ sc6 y)) (t : Bool) : sumM u x v y t = (0, 0, 1) := by
  unfold sumM
  rw [if_neg h]
theorem negZ {u x : Int} (hu : I64 u) (hx : sc6 x) : sumM 0 x u x true = fitZ (-u) x := by
  have e : mx x x = x := by unfold mx; split <;> rfl
  rw [sumZ (by decide) hu hx hx, e, show x - x = 0 by omega, p10_zero]
  simp
theorem cmpZ {u x v y : Int} (hu : I64 u) (hv : I64 v) (hx : sc6 x) (hy : sc6 y) : cmpM u x v y = cmpI (u * p10 (6 - x)) (v * p10 (6 - y)) := by
  have m1 := up_mul (z := 6 - x) hu (by omega)
  have m2 := up_mul (z := 6 - y) hv (by omega)
  have hb := addM_bound (B := 0) m1.1 m2.1 (ng u) (!ng v)
  have hs := addM_sg m1.1 m2.1 (ng u) (!ng v)
  have e : (!ng v) = (ng v != true) := by simp
  rw [e] at hs hb
  rw [sg_mul, sg_mulT] at hs
  unfold cmpM cmpI
  rw [if_pos ⟨hx, hy⟩, e]
  generalize addM (ab u * p10 (6 - x)) (ng u) (ab v * p10 (6 - y)) (ng v != true) = D at hs hb
  obtain ⟨d, n⟩ := D
  simp only [if_pos] at hs hb ⊢
  by_cases h0 : d = 0
  · rw [if_pos h0]
    have : u * p10 (6 - x) = v * p10 (6 - y) := by
      cases n <;> simp [sg] at hs <;> omega
    rw [if_neg (by omega), if_neg (by omega)]
  · rw [if_neg h0]
    cases n with
    | true =>
      simp [sg] at hs
      rw [if_pos rfl, if_pos (by omega)]
    | false =>
      simp [sg] at hs
      rw [if_neg (by decide), if_neg (by omega), if_pos (by omega)]
theorem mulZ {u x v y : Int} (hu : I64 u) (hv : I64 v) (hx : sc6 x) (hy : sc6 y) (h6 : x + y ≤ 6) : mulM u x v y = fitZ (u * v) (x + y) := by
  have hm := mul_small (ab_bound hu) (ab_bound hv)
  unfold mulM
  rw [if_pos ⟨hx, hy⟩, if_neg (by omega), fitP_eq hm.1]
  congr 1
  rcases ab_spec u with ⟨h1, h2⟩ | ⟨h1, h2⟩ <;> rcases ab_spec v with ⟨h3, h4⟩ | ⟨h3, h4⟩
  · rw [show ng u = true from decide_eq_true h1, show ng v = true from decide_eq_true h3, h2, h4]
    simp only [sg]
    simp [Int.neg_mul, Int.mul_neg]
  · rw [show ng u = true from decide_eq_true h1, show ng v = false from decide_eq_false (by omega), h2, h4]
    simp [sg, Int.neg_mul]
  · rw [show ng u = false from decide_eq_false (by omega), show ng v = true from decide_eq_true h3, h2, h4]
    simp [sg, Int.mul_neg]
  · rw [show ng u = false from decide_eq_false (by omega), show ng v = false from decide_eq_false (by omega), h2, h4]
    simp [sg]
/-! ### Rounding -/
theorem rnd_near {x y : Int} (hx : 0 ≤ x) (hy : 0 < y) : -y ≤ 2 * (x - rnd x y * y) ∧ 2 * (x - rnd x y * y) ≤ y ∧ ((2 * (x - rnd x y * y) = y ∨ 2 * (x - rnd x y * y) = -y) → rnd x y % 2 = 0) := by
  have h4 := Int.mul_ediv_add_emod x y
  have h2 := Int.emod_nonneg x (Int.ne_of_gt hy)
  have h3 := Int.emod_lt_of_pos x hy
  unfold rnd
  generalize x / y = q at h4
  generalize x % y = r at h4 h2 h3
  by_cases hc : y < 2 * r ∨ (y = 2 * r ∧ q % 2 = 1)
  · rw [if_pos hc]
    have e : x - (q + 1) * y = r - y := by rw [← h4]; grind
    rw [e]
    omega
  · rw [if_neg hc]
    have e : x - q * y = r := by rw [← h4]; grind
    rw [e]
    omega
theorem rnd_mul {q y : Int} (hy : 0 < y) : rnd (q * y) y = q := by
  unfold rnd
  rw [Int.mul_ediv_cancel _ (Int.ne_of_gt hy), Int.mul_emod_left, if_neg (by omega)]
def rz (u p : Int) : Int := sg (rnd (ab u) p) (ng u)
theorem rescZ {u x sc : Int} (hu : I64 u) (hx : sc6 x) (hs : sc6 sc) : rescM u x sc = if sc ≥ x then fitZ (u * p10 (sc - x)) sc else fitZ (rz u (p10 (x - sc))) sc := by
  unfold rescM
  rw [if_pos ⟨hx, hs⟩]
  by_cases h : sc ≥ x
  · rw [if_pos h, if_pos h, fitP_eq (up_mul hu (by omega)).1, sg_mul]
  · have hp := p10_le (z := x - sc) (by omega)
    rw [if_neg h, if_neg h, fitP_eq (rnd_nonneg (ab_bound hu).1 (by omega))]
    rfl
theorem rz_near {u p : Int} (hp : 0 < p) : -p ≤ 2 * (u - rz u p * p) ∧ 2 * (u - rz u p * p) ≤ p ∧ ((2 * (u - rz u p * p) = p ∨ 2 * (u - rz u p * p) = -p) → rz u p % 2 = 0) := by
  have h := rnd_near (x := ab u) (y := p) (by have := ab_spec u; omega) hp
  unfold rz
  rcases ab_spec u with ⟨h1, h2⟩ | ⟨h1, h2⟩
  · rw [show ng u = true from decide_eq_true h1]
    rw [h2] at h ⊢
    simp only [sg, if_pos]
    generalize rnd (-u) p = q at h
    rw [Int.neg_mul]
    generalize q * p = z at h ⊢
    omega
  · rw [show ng u = false from decide_eq_false (by omega)]
    rw [h2] at h ⊢
    simp only [sg]
    generalize rnd u p = q at h ⊢
    generalize hz : q * p = z at h
    simp [hz]
    omega
end Go.Proofs.YtcneenlcbjicnaaDoorC
