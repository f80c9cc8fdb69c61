import Derived.Test.YtjndejlbkmeppaaPaths
import Derived.Test.YtjndejlbkmeppaaFl
/- What the functions of gauss come to. -/
namespace Go.Proofs.YtjndejlbkmeppaaG
open Go.Proofs Go.Proofs.YtjndejlbkmeppaaSx Go.Fl
set_option maxRecDepth 100000
def rt (x y : Int) : Bool := decide (x ≥ -1048576) && (decide (x ≤ 1048576) && (decide (y ≥ -1048576) && decide (y ≤ 1048576)))
theorem rt_iff {x y : Int} : rt x y = true ↔ (-1048576 ≤ x ∧ x ≤ 1048576 ∧ -1048576 ≤ y ∧ y ≤ 1048576) := by
  simp [rt]
theorem Right_spec (x y : Int) : Does Try.prog 18 [pt x y] (.bool (rt x y)) := by
  unfold rt
  cases h0 : decide (x ≥ -1048576) with
  | false => exact Right_4 x y h0
  | true =>
    cases h1 : decide (x ≤ 1048576) with
    | false => exact Right_3 x y h0 h1
    | true =>
      cases h2 : decide (y ≥ -1048576) with
      | false => exact Right_2 x y h0 h1 h2
      | true => exact Right_1 x y h0 h1 h2
theorem rRight_spec (x y : Int) : Does Try.prog 19 [pt x y] (.bool (rt x y)) := by
  unfold rt
  cases h0 : decide (x ≥ -1048576) with
  | false => exact rRight_4 x y h0
  | true =>
    cases h1 : decide (x ≤ 1048576) with
    | false => exact rRight_3 x y h0 h1
    | true =>
      cases h2 : decide (y ≥ -1048576) with
      | false => exact rRight_2 x y h0 h1 h2
      | true => exact rRight_1 x y h0 h1 h2
theorem same_spec (x y z u : Int) : Does Try.prog 20 [pt x y, pt z u] (.bool (x == z && y == u)) := by
  cases h : x == z with
  | true => exact same_1 x y z u h
  | false => exact same_2 x y z u h
theorem z_spec {x y : Int} (h : rt x y = true) : ∃ a b, Does Try.prog 37 [pt x y] (cx a b) ∧ Fl a x ∧ Fl b y := by
  rw [rt_iff] at h
  exact ⟨_, _, z_1 x y, fl_ofInt x (by omega), fl_ofInt y (by omega)⟩
theorem of_spec {a b : Nat} {x y : Int} (ha : Fl a x) (hb : Fl b y) (hx : x.natAbs ≤ 2 ^ 53) (hy : y.natAbs ≤ 2 ^ 53) : Does Try.prog 38 [cx a b] (pt x y) :=
  of_1 a b x y (fl_int ha (by omega) (by omega)) (fl_int hb (by omega) (by omega))
theorem product_spec {k l m n : Nat} {x y z u : Int} (hk : Fl k x) (hl : Fl l y) (hm : Fl m z) (hn : Fl n u) (h1 : (x * z).natAbs ≤ 2 ^ 52) (h2 : (y * u).natAbs ≤ 2 ^ 52) (h3 : (x * u).natAbs ≤ 2 ^ 52) (h4 : (y * z).natAbs ≤ 2 ^ 52) :
    ∃ a b, Does Try.prog 33 [cx k l, cx m n] (cx a b) ∧ Fl a (x * z - y * u) ∧ Fl b (x * u + y * z) := by
  obtain ⟨n0, e0, f0⟩ := fl_mul hk hm (by omega)
  obtain ⟨n1, e1, f1⟩ := fl_mul hl hn (by omega)
  obtain ⟨n2, e2, f2⟩ := fl_sub f0 f1 (by omega)
  obtain ⟨n3, e3, f3⟩ := fl_mul hk hn (by omega)
  obtain ⟨n4, e4, f4⟩ := fl_mul hl hm (by omega)
  obtain ⟨n5, e5, f5⟩ := fl_add f3 f4 (by omega)
  exact ⟨n2, n5, product_1 k l m n n0 n1 n2 n3 n4 n5 e0 e1 e2 e3 e4 e5, f2, f5⟩
theorem mul_bound {x y : Int} {A B : Nat} (hx : x.natAbs ≤ A) (hy : y.natAbs ≤ B) : (x * y).natAbs ≤ A * B := by
  rw [Int.natAbs_mul]
  exact Nat.mul_le_mul hx hy
theorem cmul_bound {x y : Int} (hx : x.natAbs ≤ 1048576) (hy : y.natAbs ≤ 1048576) : (x * y).natAbs ≤ 1099511627776 := mul_bound hx hy
/-- What 'both' answers, the exact result being (X, Y). -/
def ans (x y z u X Y : Int) : Value := bif rt x y && rt z u then (bif rt X Y then pe X Y 0 else pe 0 0 32) else pe 0 0 1
theorem both_spec {x y z u X Y : Int} {k : Nat} (hX : rt x y = true → rt z u = true → X.natAbs ≤ 2 ^ 53 ∧ Y.natAbs ≤ 2 ^ 53)
    (hf : rt x y = true → rt z u = true → ∀ a b c d, Fl a x → Fl b y → Fl c z → Fl d u → ∃ e f, Does Try.prog k [cx a b, cx c d] (cx e f) ∧ Fl e X ∧ Fl f Y) : Does Try.prog 31 [pt x y, pt z u, fv k] (ans x y z u X Y) := by
  unfold ans
  cases h1 : rt x y with
  | false => exact both_1 x y z u k false (h1 ▸ Right_spec x y) rfl
  | true =>
    cases h2 : rt z u with
    | false => exact both_2 x y z u k true false (h1 ▸ Right_spec x y) rfl (h2 ▸ Right_spec z u) rfl
    | true =>
      obtain ⟨a, b, e1, fa, fb⟩ := z_spec h1
      obtain ⟨c, d, e2, fc, fd⟩ := z_spec h2
      obtain ⟨e, f, e3, fe, ff⟩ := hf h1 h2 a b c d fa fb fc fd
      obtain ⟨hx, hy⟩ := hX h1 h2
      have e4 := of_spec fe ff hx hy
      cases h3 : rt X Y with
      | false => exact both_3 x y z u k true true a b c d e f X Y false (h1 ▸ Right_spec x y) rfl (h2 ▸ Right_spec z u) rfl e1 e2 e3 e4 (h3 ▸ Right_spec X Y) rfl
      | true => exact both_4 x y z u k true true a b c d e f X Y true (h1 ▸ Right_spec x y) rfl (h2 ▸ Right_spec z u) rfl e1 e2 e3 e4 (h3 ▸ Right_spec X Y) rfl
theorem Add_spec (x y z u : Int) : Does Try.prog 11 [pt x y, pt z u] (ans x y z u (x + z) (y + u)) := by
  have h := both_spec (x := x) (y := y) (z := z) (u := u) (X := x + z) (Y := y + u) (k := 34) (fun h1 h2 => by rw [rt_iff] at h1 h2; omega) (fun h1 h2 a b c d fa fb fc fd => by
    rw [rt_iff] at h1 h2
    obtain ⟨n0, e0, f0⟩ := fl_add fa fc (by omega)
    obtain ⟨n1, e1, f1⟩ := fl_add fb fd (by omega)
    exact ⟨n0, n1, Add1_1 a b c d n0 n1 (by simp [cSumBits, e0, e1]), f0, f1⟩)
  unfold ans at h ⊢
  revert h
  cases rt x y <;> cases rt z u <;> cases rt (x + z) (y + u) <;> exact fun h => Add_1 x y z u _ _ _ h
theorem Sub_spec (x y z u : Int) : Does Try.prog 15 [pt x y, pt z u] (ans x y z u (x - z) (y - u)) := by
  have h := both_spec (x := x) (y := y) (z := z) (u := u) (X := x - z) (Y := y - u) (k := 36) (fun h1 h2 => by rw [rt_iff] at h1 h2; omega) (fun h1 h2 a b c d fa fb fc fd => by
    rw [rt_iff] at h1 h2
    obtain ⟨n0, e0, f0⟩ := fl_sub fa fc (by omega)
    obtain ⟨n1, e1, f1⟩ := fl_sub fb fd (by omega)
    exact ⟨n0, n1, Sub1_1 a b c d n0 n1 (by simp [cSumBits, e0, e1]), f0, f1⟩)
  unfold ans at h ⊢
  revert h
  cases rt x y <;> cases rt z u <;> cases rt (x - z) (y - u) <;> exact fun h => Sub_1 x y z u _ _ _ h
theorem Mul_spec (x y z u : Int) : Does Try.prog 9 [pt x y, pt z u] (ans x y z u (x * z - y * u) (x * u + y * z)) := by
  have h := both_spec (x := x) (y := y) (z := z) (u := u) (X := x * z - y * u) (Y := x * u + y * z) (k := 32) (fun h1 h2 => by
      rw [rt_iff] at h1 h2
      have a1 := cmul_bound (x := x) (y := z) (by omega) (by omega)
      have a2 := cmul_bound (x := y) (y := u) (by omega) (by omega)
      have a3 := cmul_bound (x := x) (y := u) (by omega) (by omega)
      have a4 := cmul_bound (x := y) (y := z) (by omega) (by omega)
      omega) (fun h1 h2 a b c d fa fb fc fd => by
    rw [rt_iff] at h1 h2
    have a1 := cmul_bound (x := x) (y := z) (by omega) (by omega)
    have a2 := cmul_bound (x := y) (y := u) (by omega) (by omega)
    have a3 := cmul_bound (x := x) (y := u) (by omega) (by omega)
    have a4 := cmul_bound (x := y) (y := z) (by omega) (by omega)
    obtain ⟨n0, n1, e, f0, f1⟩ := product_spec fa fb fc fd (by omega) (by omega) (by omega) (by omega)
    exact ⟨n0, n1, Mul1_1 a b c d n0 n1 e, f0, f1⟩)
  unfold ans at h ⊢
  revert h
  cases rt x y <;> cases rt z u <;> cases rt (x * z - y * u) (x * u + y * z) <;> exact fun h => Mul_1 x y z u _ _ _ h
end Go.Proofs.YtjndejlbkmeppaaG
