import Derived.Test.YtjndejlbkmeppaaSpec
import Derived.Test.YtjndejlbkmeppaaSegs
import Derived.Laws.BitsLemmas
/- Turns; the document's sums; what 'knows' knows. -/
namespace Go.Proofs.YtjndejlbkmeppaaG
open Go.Proofs Go.Proofs.YtjndejlbkmeppaaSx Go.Fl
set_option maxRecDepth 100000
theorem wr {n : Int} (h0 : -9223372036854775808 ≤ n) (h1 : n ≤ 9223372036854775807) : IntKind.i64.wrap n = n := by
  rw [IntKind.wrap_i64]
  omega
def rotN : Nat → Int × Int → Int × Int
  | 0, p => p
  | n + 1, p => rotN n (-p.2, p.1)
abbrev ptp (p : Int × Int) : Value := pt p.1 p.2
theorem fl_one : Fl 4607182418800017408 1 := by
  have := fl_ofInt 1 (by decide)
  have e : floatOfInt .f64 1 = 4607182418800017408 := by decide +kernel
  rwa [e] at this
theorem fl_nil : Fl 0 0 := by
  have := fl_ofInt 0 (by decide)
  have e : floatOfInt .f64 0 = 0 := by decide +kernel
  rwa [e] at this
theorem product_i {k l : Nat} {x y : Int} (hk : Fl k x) (hl : Fl l y) (hx : x.natAbs ≤ 1048576) (hy : y.natAbs ≤ 1048576) : ∃ a b, Does Try.prog 33 [cx k l, cx 0 4607182418800017408] (cx a b) ∧ Fl a (-y) ∧ Fl b x := by
  obtain ⟨a, b, h, fa, fb⟩ := product_spec hk hl fl_nil fl_one (by omega) (by omega) (by omega) (by omega)
  refine ⟨a, b, h, ?_, ?_⟩
  · have : x * 0 - y * 1 = -y := by omega
    rwa [this] at fa
  · have : x * 1 + y * 0 = x := by omega
    rwa [this] at fb
theorem turn_loop (r : Nat) : ∀ (X Y a b z u : Int) (k l n : Nat), Fl k X → Fl l Y → X.natAbs ≤ 1048576 → Y.natAbs ≤ 1048576 → z - u = r → 0 ≤ u → z ≤ 4 → r < n →
    Fin Try.prog Try.f21 (ptp (rotN r (X, Y))) (inK turnK n) [.x, .x, .x, .x, .p 4 0, .v (cx k l), .x, .x, .x, .x, .x, .x, .x, .x, .x, .v (it z), .v (it u), .x, .x, .x, .x, .x, .x] [(4, ⟨24, [it a, it b]⟩)] := by
  induction r with
  | zero =>
    intro X Y a b z u k l n hk hl hX hY hr hu hz hn
    obtain ⟨n, rfl⟩ : ∃ m, n = m + 1 := ⟨n - 1, by omega⟩
    refine fin_round ?_
    exact turn1_2 X Y z u a b k l n X Y (by simp; omega) (of_spec hk hl (by omega) (by omega))
  | succ r ih =>
    intro X Y a b z u k l n hk hl hX hY hr hu hz hn
    obtain ⟨n, rfl⟩ : ∃ m, n = m + 1 := ⟨n - 1, by omega⟩
    refine fin_round ?_
    obtain ⟨c, d, h, fc, fd⟩ := product_i hk hl hX hY
    refine turn1_1 X Y z u a b k l n c d (by simp; omega) h _ ?_
    rw [wr (by omega) (by omega)]
    exact ih (-Y) X a b z (u + 1) c d n fc fd (by omega) hX (by omega) (by omega) hz (by omega)
/-- How many turns. -/
def times (n : Int) : Nat := ((n.tmod 4 + 4).tmod 4).toNat
theorem tmod_eq (n : Int) : (0 ≤ n → n.tmod 4 = n % 4) ∧ (n ≤ 0 → n.tmod 4 = -((-n) % 4)) := by
  refine ⟨fun h => Int.tmod_eq_emod_of_nonneg h, fun h => ?_⟩
  have h1 := Int.neg_tmod (a := -n) (b := 4)
  have h2 : (-n).tmod 4 = (-n) % 4 := Int.tmod_eq_emod_of_nonneg (by omega)
  rw [Int.neg_neg, h2] at h1
  exact h1
theorem times_lt (n : Int) : 0 ≤ (n.tmod 4 + 4).tmod 4 ∧ (n.tmod 4 + 4).tmod 4 < 4 ∧ -4 < n.tmod 4 ∧ n.tmod 4 < 4 := by
  have h1 := tmod_eq n
  have h2 := tmod_eq (n.tmod 4 + 4)
  omega
theorem Turn_spec (x y n : Int) : Does Try.prog 21 [pt x y, it n] (bif rt x y then ptp (rotN (times n) (x, y)) else pt 0 0) := by
  refine does_of_fin (fn := Try.f21) (c := bd Try.f21) rfl (by kernel_rfl) rfl ?_
  cases h1 : rt x y with
  | false => exact turn0_1 x y n false (h1 ▸ Right_spec x y) rfl
  | true =>
    obtain ⟨a, b, e1, fa, fb⟩ := z_spec h1
    refine turn0_2 x y n true a b (h1 ▸ Right_spec x y) rfl e1 _ (fin_loop 5 ?_)
    have := times_lt n
    rw [rt_iff] at h1
    rw [wr (by omega) (by omega)]
    exact turn_loop (times n) x y 0 0 _ 0 a b 5 fa fb (by omega) (by omega) (by unfold times; omega) (by omega) (by omega) (by unfold times; omega)
theorem answer_spec (x y : Int) : Does Try.prog 35 [pt x y] (bif rt x y then pe x y 0 else pe 0 0 32) := by
  cases h1 : rt x y with
  | false => exact answer_1 x y false (h1 ▸ rRight_spec x y) rfl
  | true => exact answer_2 x y true (h1 ▸ rRight_spec x y) rfl
theorem rAdd_spec (x y z u : Int) : Does Try.prog 14 [pt x y, pt z u] (ans x y z u (x + z) (y + u)) := by
  unfold ans
  cases h1 : rt x y with
  | false => exact rAdd_1 x y z u false (h1 ▸ rRight_spec x y) rfl
  | true =>
    cases h2 : rt z u with
    | false => exact rAdd_2 x y z u true false (h1 ▸ rRight_spec x y) rfl (h2 ▸ rRight_spec z u) rfl
    | true =>
      have b1 := rt_iff.1 h1
      have b2 := rt_iff.1 h2
      have h := answer_spec (x + z) (y + u)
      have w1 : IntKind.i64.wrap (x + z) = x + z := wr (by omega) (by omega)
      have w2 : IntKind.i64.wrap (y + u) = y + u := wr (by omega) (by omega)
      have r := fun a b c hh => rAdd_3 x y z u true true a b c (h1 ▸ rRight_spec x y) rfl (h2 ▸ rRight_spec z u) rfl hh
      rw [w1, w2] at r
      revert h
      cases rt (x + z) (y + u) <;> exact fun h => r _ _ _ h
theorem rSub_spec (x y z u : Int) : Does Try.prog 16 [pt x y, pt z u] (ans x y z u (x - z) (y - u)) := by
  unfold ans
  cases h1 : rt x y with
  | false => exact rSub_1 x y z u false (h1 ▸ rRight_spec x y) rfl
  | true =>
    cases h2 : rt z u with
    | false => exact rSub_2 x y z u true false (h1 ▸ rRight_spec x y) rfl (h2 ▸ rRight_spec z u) rfl
    | true =>
      have b1 := rt_iff.1 h1
      have b2 := rt_iff.1 h2
      have h := answer_spec (x - z) (y - u)
      have w1 : IntKind.i64.wrap (x - z) = x - z := wr (by omega) (by omega)
      have w2 : IntKind.i64.wrap (y - u) = y - u := wr (by omega) (by omega)
      have r := fun a b c hh => rSub_3 x y z u true true a b c (h1 ▸ rRight_spec x y) rfl (h2 ▸ rRight_spec z u) rfl hh
      rw [w1, w2] at r
      revert h
      cases rt (x - z) (y - u) <;> exact fun h => r _ _ _ h
theorem rMul_spec (x y z u : Int) : Does Try.prog 17 [pt x y, pt z u] (ans x y z u (x * z - y * u) (x * u + y * z)) := by
  unfold ans
  cases h1 : rt x y with
  | false => exact rMul_1 x y z u false (h1 ▸ rRight_spec x y) rfl
  | true =>
    cases h2 : rt z u with
    | false => exact rMul_2 x y z u true false (h1 ▸ rRight_spec x y) rfl (h2 ▸ rRight_spec z u) rfl
    | true =>
      have b1 := rt_iff.1 h1
      have b2 := rt_iff.1 h2
      have a1 := cmul_bound (x := x) (y := z) (by omega) (by omega)
      have a2 := cmul_bound (x := y) (y := u) (by omega) (by omega)
      have a3 := cmul_bound (x := x) (y := u) (by omega) (by omega)
      have a4 := cmul_bound (x := y) (y := z) (by omega) (by omega)
      have h := answer_spec (x * z - y * u) (x * u + y * z)
      have r := fun a b c hh => rMul_3 x y z u true true a b c (h1 ▸ rRight_spec x y) rfl (h2 ▸ rRight_spec z u) rfl hh
      rw [wr (n := x * z) (by omega) (by omega), wr (n := y * u) (by omega) (by omega), wr (n := x * u) (by omega) (by omega), wr (n := y * z) (by omega) (by omega),
        wr (n := x * z - y * u) (by omega) (by omega), wr (n := x * u + y * z) (by omega) (by omega)] at r
      revert h
      cases rt (x * z - y * u) (x * u + y * z) <;> exact fun h => r _ _ _ h
theorem knows_spec : Does Try.prog 13 [] (.bool true) :=
  knows_1 5 5 0 0 (-1) 2 (Mul_spec 1 2 3 (-1)) (num_1 0) rfl rfl (Turn_spec 2 1 1)
end Go.Proofs.YtjndejlbkmeppaaG
