import Derived.Test.YtjndejlbkmeppaaSpec3
import Derived.Test.YtjndejlbkmeppaaPTurns
/- GaussTurns answers true: four turns are none, a turn leaves the norm, a turn there and one back is none. -/
namespace Go.Proofs.YtjndejlbkmeppaaG
open Go.Proofs Go.Proofs.YtjndejlbkmeppaaSx
theorem rt_turn (x y : Int) : rt (-y) x = rt x y := by
  rw [Bool.eq_iff_iff, rt_iff, rt_iff]
  omega
theorem rt_rot (k : Nat) : ∀ (p : Int × Int), rt (rotN k p).1 (rotN k p).2 = rt p.1 p.2 := by
  induction k with
  | zero => intro p; rfl
  | succ k ih => intro p; rw [rotN, ih]; exact rt_turn p.1 p.2
theorem nrm_turn (x y : Int) : nrm (-y) x = nrm x y := by
  unfold nrm
  rw [rt_turn, Int.neg_mul_neg, Int.add_comm]
theorem nrm_rot (k : Nat) : ∀ (p : Int × Int), nrm (rotN k p).1 (rotN k p).2 = nrm p.1 p.2 := by
  induction k with
  | zero => intro p; rfl
  | succ k ih => intro p; rw [rotN, ih]; exact nrm_turn p.1 p.2
theorem rot_add (a b : Nat) : ∀ (p : Int × Int), rotN (a + b) p = rotN b (rotN a p) := by
  induction a with
  | zero => intro p; rw [Nat.zero_add]; rfl
  | succ a ih => intro p; rw [Nat.add_right_comm, rotN, ih]; rfl
theorem rot_four (p : Int × Int) : rotN 4 p = p := by
  obtain ⟨x, y⟩ := p
  simp [rotN]
theorem rot_more (a : Nat) (p : Int × Int) : rotN (a + 4) p = rotN a p := by
  rw [Nat.add_comm, rot_add, rot_four]
theorem rot_mod (a : Nat) (p : Int × Int) : rotN a p = rotN (a % 4) p := by
  have h : ∀ q r : Nat, rotN (4 * q + r) p = rotN r p := by
    intro q r
    induction q with
    | zero => rw [Nat.mul_zero, Nat.zero_add]
    | succ q ih => rw [show 4 * (q + 1) + r = (4 * q + r) + 4 by omega, rot_more, ih]
  have := h (a / 4) (a % 4)
  rw [Nat.div_add_mod] at this
  exact this
theorem times_eq (n : Int) : times n = (n % 4).toNat := by
  unfold times
  have h1 := tmod_eq n
  have h2 := tmod_eq (n.tmod 4 + 4)
  have h3 := times_lt n
  congr 1
  omega
theorem toV {P : Program} {f : Nat} {l : List Value} {v u : Value} (h : Does P f l v) (e : v = u) : Does P f l u := e ▸ h
theorem turn_in {x y : Int} (h : rt x y = true) (n : Int) : Does Try.prog 21 [pt x y, it n] (ptp (rotN (n % 4).toNat (x, y))) := by
  have := Turn_spec x y n
  rwa [h, times_eq] at this
theorem turns_true (x y n m : Int) : Gives Try.prog 5 [pt x y, it n, it m] (.bool true) := by
  cases h : rt x y with
  | false =>
    exact Turns1 (m := m) (h0 := toV (rRight_spec x y) (by rw [h])) (h1 := rfl) (h2 := own_1 x y) (h3 := toV (Turn_spec x y n) (by rw [h]; rfl)) (h4 := rfl) (h5 := knows_spec)
  | true =>
    have hn : -1000 < n.tmod 1000 ∧ n.tmod 1000 < 1000 := ⟨by have := Int.lt_tmod_of_pos n (b := 1000) (by decide); omega, Int.tmod_lt_of_pos n (by decide)⟩
    have hm : -1000 < m.tmod 1000 ∧ m.tmod 1000 < 1000 := ⟨by have := Int.lt_tmod_of_pos m (b := 1000) (by decide); omega, Int.tmod_lt_of_pos m (by decide)⟩
    obtain ⟨N, hN⟩ : ∃ N, n.tmod 1000 = N := ⟨_, rfl⟩
    obtain ⟨M, hM⟩ : ∃ M, m.tmod 1000 = M := ⟨_, rfl⟩
    rw [hN] at hn
    rw [hM] at hm
    have w1 : IntKind.i64.wrap (0 - N) = -N := by rw [wr (by omega) (by omega)]; omega
    have w2 : IntKind.i64.wrap (N + M) = N + M := wr (by omega) (by omega)
    have ha : rt (rotN (N % 4).toNat (x, y)).1 (rotN (N % 4).toNat (x, y)).2 = true := by rw [rt_rot]; exact h
    have t1 := turn_in h N
    have t2 := turn_in ha (-N)
    have t3 := turn_in ha M
    have t4 := turn_in h (N + M)
    have t5 := turn_in h 4
    have c2 : rotN (-N % 4).toNat ((rotN (N % 4).toNat (x, y)).1, (rotN (N % 4).toNat (x, y)).2) = (x, y) := by
      show rotN (-N % 4).toNat (rotN (N % 4).toNat (x, y)) = (x, y)
      rw [← rot_add, rot_mod]
      have : ((N % 4).toNat + (-N % 4).toNat) % 4 = 0 := by omega
      rw [this]; rfl
    have c3 : rotN (M % 4).toNat ((rotN (N % 4).toNat (x, y)).1, (rotN (N % 4).toNat (x, y)).2) = rotN ((N + M) % 4).toNat (x, y) := by
      show rotN (M % 4).toNat (rotN (N % 4).toNat (x, y)) = _
      rw [← rot_add, rot_mod, rot_mod ((N + M) % 4).toNat]
      congr 1
      omega
    rw [c2] at t2
    rw [c3] at t3
    obtain ⟨X, Y, e⟩ : ∃ X Y, rotN (N % 4).toNat (x, y) = (X, Y) := ⟨_, _, rfl⟩
    obtain ⟨Z, U, e'⟩ : ∃ Z U, rotN ((N + M) % 4).toNat (x, y) = (Z, U) := ⟨_, _, rfl⟩
    have e4 : rotN ((4 : Int) % 4).toNat (x, y) = (x, y) := rfl
    have hnm : nrm X Y = nrm x y := by have := nrm_rot (N % 4).toNat (x, y); rwa [e] at this
    rw [e] at t1 t2 t3
    rw [e'] at t3 t4
    rw [e4] at t5
    exact Turns2 (n := n) (m := m) (h0 := toV (rRight_spec x y) (by rw [h])) (h1 := rfl) (h2 := own_1 x y) (h3 := by rw [hN]; exact t1) (h4 := Norm_spec X Y) (h5 := own_1 x y) (h6 := Norm_spec x y) (h7 := by simp [hnm])
      (h8 := by rw [hN, w1]; exact t2) (h9 := own_1 x y) (h10 := by simp) (h11 := by rw [hM]; exact t3) (h12 := own_1 x y) (h13 := by rw [hN, hM, w2]; exact t4) (h14 := by simp)
      (h15 := own_1 x y) (h16 := t5) (h17 := own_1 x y) (h18 := by simp) (h19 := knows_spec)
end Go.Proofs.YtjndejlbkmeppaaG
