import Derived.Test.YtjndejlbkmeppaaSpec2
/- Norms, conjugates. -/
namespace Go.Proofs.YtjndejlbkmeppaaG
open Go.Proofs Go.Proofs.YtjndejlbkmeppaaSx Go.Fl Ieee
set_option maxRecDepth 100000
theorem neg_parts (x : Nat) : (x ^^^ 2 ^ 63) % 2 ^ 63 = x % 2 ^ 63 ∧ ((x ^^^ 2 ^ 63) / 2 ^ 63 % 2 == 1) = !(x / 2 ^ 63 % 2 == 1) := by
  constructor
  · rw [Nat.xor_mod_two_pow]
    simp
  · rw [Nat.xor_div_two_pow]
    have h1 : 2 ^ 63 / 2 ^ 63 = 1 := by decide
    rw [h1]
    have h2 : (x / 2 ^ 63 ^^^ 1) % 2 = (x / 2 ^ 63 % 2) ^^^ 1 := by
      have := Nat.xor_mod_two_pow (a := x / 2 ^ 63) (b := 1) (n := 1)
      simpa using this
    rw [h2]
    rcases Nat.mod_two_eq_zero_or_one (x / 2 ^ 63) with h | h <;> rw [h] <;> rfl
theorem read_neg {x : Nat} {s : Bool} {m : Nat} {e : Int} (h : double.read x = .number s m e) : double.read (Op.negFloat .f64 x) = .number (!s) m e := by
  have h1 := neg_parts x
  have e0 : Op.negFloat .f64 x = x ^^^ 2 ^ 63 := rfl
  rw [e0]
  unfold Format.read at h ⊢
  rw [signW] at h ⊢
  have e1 : (9223372036854775808 : Nat) = 2 ^ 63 := by decide
  rw [e1] at h ⊢
  simp only [h1.1, h1.2]
  simp only at h
  split at h
  · rename_i hc
    rw [if_pos hc]
    simp only [Datum.number.injEq] at h ⊢
    exact ⟨by rw [h.1], h.2⟩
  · rename_i hc
    rw [if_neg hc]
    split at h
    · rename_i hd
      rw [if_pos hd]
      simp only [Datum.number.injEq] at h ⊢
      exact ⟨by rw [h.1], h.2⟩
    · split at h <;> cases h
theorem fl_neg {x : Nat} {n : Int} (hx : Fl x n) : Fl (Op.negFloat .f64 x) (-n) := by
  obtain ⟨s, m, e, h1, h2⟩ := hx
  exact ⟨!s, m, e, read_neg h1, core_neg h2⟩
theorem conj_spec {k l : Nat} {x y : Int} (hk : Fl k x) (hl : Fl l y) : ∃ a b, Does Try.prog 39 [cx k l] (cx a b) ∧ Fl a x ∧ Fl b (-y) := ⟨_, _, conj_1 k l, hk, fl_neg hl⟩
theorem Conj_spec (x y : Int) : Does Try.prog 27 [pt x y] (bif rt x y then pt x (-y) else pt 0 0) := by
  cases h1 : rt x y with
  | false => exact Conj_1 x y false (h1 ▸ Right_spec x y) rfl
  | true =>
    obtain ⟨a, b, e1, fa, fb⟩ := z_spec h1
    obtain ⟨c, d, e2, fc, fd⟩ := conj_spec fa fb
    have h2 := rt_iff.1 h1
    exact Conj_2 x y true a b c d x (-y) (h1 ▸ Right_spec x y) rfl e1 e2 (of_spec fc fd (by omega) (by omega))
def nrm (x y : Int) : Int := bif rt x y then x * x + y * y else 0
theorem Norm_spec (x y : Int) : Does Try.prog 22 [pt x y] (it (nrm x y)) := by
  unfold nrm
  cases h1 : rt x y with
  | false => exact Norm_1 x y false (h1 ▸ Right_spec x y) rfl
  | true =>
    obtain ⟨a, b, e1, fa, fb⟩ := z_spec h1
    obtain ⟨c, d, e2, fc, fd⟩ := conj_spec fa fb
    have h2 := rt_iff.1 h1
    have a1 := cmul_bound (x := x) (y := x) (by omega) (by omega)
    have a2 := cmul_bound (x := y) (y := -y) (by omega) (by omega)
    have a3 := cmul_bound (x := x) (y := -y) (by omega) (by omega)
    have a4 := cmul_bound (x := y) (y := x) (by omega) (by omega)
    obtain ⟨e, f, e3, fe, ff⟩ := product_spec fa fb fc fd (by omega) (by omega) (by omega) (by omega)
    have e4 : x * x - y * -y = x * x + y * y := by rw [Int.mul_neg]; omega
    rw [e4] at fe
    have a5 := cmul_bound (x := y) (y := y) (by omega) (by omega)
    exact Norm_2 x y true a b a b c d e f (x * x + y * y) (h1 ▸ Right_spec x y) rfl e1 e1 e2 e3 (fl_int fe (by omega) (by omega))
theorem rNorm_spec (x y : Int) : Does Try.prog 29 [pt x y] (it (nrm x y)) := by
  unfold nrm
  cases h1 : rt x y with
  | false => exact rNorm_1 x y false (h1 ▸ rRight_spec x y) rfl
  | true =>
    have h2 := rt_iff.1 h1
    have a1 := cmul_bound (x := x) (y := x) (by omega) (by omega)
    have a2 := cmul_bound (x := y) (y := y) (by omega) (by omega)
    have h := rNorm_2 x y true (h1 ▸ rRight_spec x y) rfl
    rw [wr (n := x * x) (by omega) (by omega), wr (n := y * y) (by omega) (by omega), wr (by omega) (by omega)] at h
    exact h
end Go.Proofs.YtjndejlbkmeppaaG
