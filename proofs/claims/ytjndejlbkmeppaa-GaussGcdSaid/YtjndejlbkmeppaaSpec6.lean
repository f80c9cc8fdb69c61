import Derived.Test.YtjndejlbkmeppaaSpec5
/- The document's quotients and rests, conjugates and turns. -/
namespace Go.Proofs.YtjndejlbkmeppaaG
open Go.Proofs Go.Proofs.YtjndejlbkmeppaaSx Go.Fl
set_option maxRecDepth 100000
theorem tdiv_floor {n d : Int} (hd : 0 < d) : (n.tmod d < 0 → n.tdiv d - 1 = n / d) ∧ (¬ n.tmod d < 0 → n.tdiv d = n / d) := by
  have h1 := Int.mul_tdiv_add_tmod n d
  have h2 := Int.tmod_lt_of_pos n hd
  have h3 := Int.lt_tmod_of_pos n hd
  rw [Int.mul_comm] at h1
  refine ⟨fun h => (div_is hd ?_ ?_).symm, fun h => (div_is hd ?_ ?_).symm⟩
  · rw [Int.sub_mul]; omega
  · rw [Int.sub_mul]; omega
  · omega
  · omega
theorem rnearest_spec {x y : Int} (h1 : -4398046511104 ≤ x) (h2 : x ≤ 4398046511104) (h3 : 0 < y) (h4 : y ≤ 4398046511104) : Does Try.prog 43 [it x, it y] (it (nst x y)) := by
  have w1 : IntKind.i64.wrap (2 * x) = 2 * x := wr (by omega) (by omega)
  have w2 : IntKind.i64.wrap (2 * y) = 2 * y := wr (by omega) (by omega)
  have w3 : IntKind.i64.wrap (2 * x + y) = 2 * x + y := wr (by omega) (by omega)
  have r1 := rnearest_1 x y
  have r2 := rnearest_2 x y
  rw [w1, w2, w3] at r1 r2
  have hd := tdiv_floor (n := 2 * x + y) (d := 2 * y) (by omega)
  have hb : -8796093022210 ≤ nst x y ∧ nst x y ≤ 8796093022210 := by
    have h5 := nst_le (a := x) h3
    have h6 : nst x y ≤ 8796093022210 := le_of_mul h3 (by omega) (by omega)
    have h7 : -nst x y ≤ 8796093022210 := le_of_mul h3 (by omega) (by rw [Int.neg_mul]; omega)
    omega
  unfold nst at hb ⊢
  by_cases hc : (2 * x + y).tmod (2 * y) < 0
  · have e := hd.1 hc
    have r := r1 (by simp; omega) (by simpa using hc)
    rw [wr (n := (2 * x + y).tdiv (2 * y)) (by omega) (by omega), e, wr (by omega) (by omega)] at r
    exact r
  · have e := hd.2 hc
    have r := r2 (by simp; omega) (by simpa using hc)
    rw [e, wr (by omega) (by omega)] at r
    exact r
theorem rparts_pre {x y z u : Int} (b1 : -1048576 ≤ x ∧ x ≤ 1048576 ∧ -1048576 ≤ y ∧ y ≤ 1048576) (b2 : -1048576 ≤ z ∧ z ≤ 1048576 ∧ -1048576 ≤ u ∧ u ≤ 1048576) (hn : 0 < z * z + u * u) :
    Does Try.prog 43 [it (IntKind.i64.wrap (IntKind.i64.wrap (x * z) + IntKind.i64.wrap (y * u))), it (z * z + u * u)] (it (nst (x * z + y * u) (z * z + u * u))) ∧
    Does Try.prog 43 [it (IntKind.i64.wrap (IntKind.i64.wrap (y * z) - IntKind.i64.wrap (x * u))), it (z * z + u * u)] (it (nst (y * z - x * u) (z * z + u * u))) := by
  have a1 := cmul_bound (x := z) (y := z) (by omega) (by omega)
  have a5 := cmul_bound (x := x) (y := z) (by omega) (by omega)
  have a6 := cmul_bound (x := y) (y := u) (by omega) (by omega)
  have a7 := cmul_bound (x := x) (y := u) (by omega) (by omega)
  have a8 := cmul_bound (x := y) (y := z) (by omega) (by omega)
  have a9 := cmul_bound (x := u) (y := u) (by omega) (by omega)
  rw [wr (n := x * z) (by omega) (by omega), wr (n := y * u) (by omega) (by omega), wr (n := y * z) (by omega) (by omega), wr (n := x * u) (by omega) (by omega),
    wr (n := x * z + y * u) (by omega) (by omega), wr (n := y * z - x * u) (by omega) (by omega)]
  exact ⟨rnearest_spec (by omega) (by omega) hn (by omega), rnearest_spec (by omega) (by omega) hn (by omega)⟩
theorem rparts_post {x y z u C D : Int} (b1 : -1048576 ≤ x ∧ x ≤ 1048576 ∧ -1048576 ≤ y ∧ y ≤ 1048576)
    (q1 : (z * C).natAbs ≤ 8388608) (q2 : (u * C).natAbs ≤ 8388608) (q3 : (z * D).natAbs ≤ 8388608) (q4 : (u * D).natAbs ≤ 8388608) :
    IntKind.i64.wrap (x - IntKind.i64.wrap (IntKind.i64.wrap (z * C) - IntKind.i64.wrap (u * D))) = x - (z * C - u * D) ∧ IntKind.i64.wrap (y - IntKind.i64.wrap (IntKind.i64.wrap (z * D) + IntKind.i64.wrap (u * C))) = y - (z * D + u * C) := by
  generalize z * C = p1 at *
  generalize u * D = p2 at *
  generalize z * D = p3 at *
  generalize u * C = p4 at *
  rw [wr (n := p1) (by omega) (by omega), wr (n := p2) (by omega) (by omega), wr (n := p3) (by omega) (by omega), wr (n := p4) (by omega) (by omega),
    wr (n := p1 - p2) (by omega) (by omega), wr (n := p3 + p4) (by omega) (by omega),
    wr (n := x - (p1 - p2)) (by omega) (by omega), wr (n := y - (p3 + p4)) (by omega) (by omega)]
  exact ⟨rfl, rfl⟩
theorem rparts_spec {x y z u : Int} (h1 : rt x y = true) (h2 : rt z u = true) (hn : 0 < z * z + u * u) :
    Does Try.prog 41 [pt x y, pt z u] (.tuple #[pt (qx x y z u) (qy x y z u), pt (rx x y z u) (ry x y z u)]) := by
  obtain ⟨q1, q2, q3, q4, q5, q6⟩ := quo_bounds h1 h2 hn
  have hN : nrm z u = z * z + u * u := by unfold nrm; rw [h2]; rfl
  have e0 := rNorm_spec z u
  rw [hN] at e0
  obtain ⟨e1, e2⟩ := rparts_pre (rt_iff.1 h1) (rt_iff.1 h2) hn
  have r := rparts_1 x y z u (z * z + u * u) (qx x y z u) (qy x y z u) e0 e1 e2
  obtain ⟨p1, p2⟩ := rparts_post (rt_iff.1 h1) q1 q2 q3 q4
  rw [p1, p2] at r
  exact r
theorem nrm_zero {z u : Int} (h : rt z u = true) : (nrm z u == 0) = (z == 0 && u == 0) := by
  cases h0 : (z == 0 && u == 0) with
  | true =>
    simp at h0
    unfold nrm
    rw [h, h0.1, h0.2]
    rfl
  | false =>
    have := nn_pos h0
    unfold nrm
    rw [h]
    simp only [cond_true]
    simp
    omega
theorem rDiv_spec (x y z u : Int) : Does Try.prog 25 [pt x y, pt z u] (divA x y z u) := by
  unfold divA
  cases h1 : rt x y with
  | false => exact rDiv_1 x y z u false (h1 ▸ rRight_spec x y) rfl
  | true =>
    cases h2 : rt z u with
    | false => exact rDiv_2 x y z u true false (h1 ▸ rRight_spec x y) rfl (h2 ▸ rRight_spec z u) rfl
    | true =>
      have hz := nrm_zero h2
      cases h0 : (z == 0 && u == 0) with
      | true => exact rDiv_3 x y z u true true _ (h1 ▸ rRight_spec x y) rfl (h2 ▸ rRight_spec z u) rfl (rNorm_spec z u) (by rw [hz, h0])
      | false =>
        have hn := nn_pos h0
        have e3 := rparts_spec h1 h2 hn
        cases h3 : rt (qx x y z u) (qy x y z u) with
        | false => exact rDiv_4 x y z u true true _ _ _ _ _ false (h1 ▸ rRight_spec x y) rfl (h2 ▸ rRight_spec z u) rfl (rNorm_spec z u) (by rw [hz, h0]) e3 (h3 ▸ rRight_spec _ _) rfl
        | true =>
          cases h4 : rt (rx x y z u) (ry x y z u) with
          | false => exact rDiv_5 x y z u true true _ _ _ _ _ true false (h1 ▸ rRight_spec x y) rfl (h2 ▸ rRight_spec z u) rfl (rNorm_spec z u) (by rw [hz, h0]) e3 (h3 ▸ rRight_spec _ _) rfl (h4 ▸ rRight_spec _ _) rfl
          | true => exact rDiv_6 x y z u true true _ _ _ _ _ true true (h1 ▸ rRight_spec x y) rfl (h2 ▸ rRight_spec z u) rfl (rNorm_spec z u) (by rw [hz, h0]) e3 (h3 ▸ rRight_spec _ _) rfl (h4 ▸ rRight_spec _ _) rfl
theorem rConj_spec (x y : Int) : Does Try.prog 28 [pt x y] (bif rt x y then pt x (-y) else pt 0 0) := by
  cases h1 : rt x y with
  | false => exact rConj_1 x y false (h1 ▸ rRight_spec x y) rfl
  | true =>
    have h2 := rt_iff.1 h1
    have r := rConj_2 x y true (h1 ▸ rRight_spec x y) rfl
    rw [wr (by omega) (by omega), Int.zero_sub] at r
    exact r
theorem rturn_loop (r : Nat) : ∀ (X Y a b z u : Int) (n : Nat), X.natAbs ≤ 1048576 → Y.natAbs ≤ 1048576 → (z.tmod 4 + 4).tmod 4 - u = r → 0 ≤ u → u ≤ 4 → r < n →
    Fin Try.prog Try.f30 (ptp (rotN r (X, Y))) (inK rturnK n) [.x, .v (it z), .p 2 0, .x, .p 4 0, .v (it u), .x, .x, .x, .x, .x, .x, .x, .x, .x, .x, .x, .x, .x, .x, .x, .x, .x, .x, .x] [(2, ⟨23, [it X, it Y]⟩), (4, ⟨23, [it a, it b]⟩)] := by
  induction r with
  | zero =>
    intro X Y a b z u n hX hY hr hu hu2 hn
    obtain ⟨n, rfl⟩ : ∃ m, n = m + 1 := ⟨n - 1, by omega⟩
    have ht := times_lt z
    refine fin_round (rturn1_2 X Y z u a b n ?_)
    rw [wr (by omega) (by omega)]
    simp
    omega
  | succ r ih =>
    intro X Y a b z u n hX hY hr hu hu2 hn
    obtain ⟨n, rfl⟩ : ∃ m, n = m + 1 := ⟨n - 1, by omega⟩
    have ht := times_lt z
    refine fin_round (rturn1_1 X Y z u a b n ?_ _ ?_)
    · rw [wr (by omega) (by omega)]
      simp
      omega
    · rw [wr (by omega) (by omega), wr (by omega) (by omega), Int.zero_sub]
      exact ih (-Y) X a b z (u + 1) n (by omega) hX (by omega) (by omega) (by omega) (by omega)
theorem rTurn_spec (x y n : Int) : Does Try.prog 30 [pt x y, it n] (bif rt x y then ptp (rotN (times n) (x, y)) else pt 0 0) := by
  refine does_of_fin (fn := Try.f30) (c := bd Try.f30) rfl (by kernel_rfl) rfl ?_
  cases h1 : rt x y with
  | false => exact rturn0_1 x y n false (h1 ▸ rRight_spec x y) rfl
  | true =>
    have h2 := rt_iff.1 h1
    have ht := times_lt n
    refine rturn0_2 x y n true (h1 ▸ rRight_spec x y) rfl _ (fin_loop 5 ?_)
    exact rturn_loop (times n) x y 0 0 n 0 5 (by omega) (by omega) (by unfold times; omega) (by omega) (by omega) (by unfold times; omega)
end Go.Proofs.YtjndejlbkmeppaaG
