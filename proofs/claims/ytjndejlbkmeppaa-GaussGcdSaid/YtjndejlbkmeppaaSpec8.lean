import Derived.Test.YtjndejlbkmeppaaSpec7
/- Gcd, the program's and the document's. -/
namespace Go.Proofs.YtjndejlbkmeppaaG
open Go.Proofs Go.Proofs.YtjndejlbkmeppaaSx Go.Fl
set_option maxRecDepth 100000
theorem eu_right (r : Nat) : ∀ (p q : Int × Int), rt p.1 p.2 = true → rt q.1 q.2 = true → rt (eu r p q).1 (eu r p q).2 = true := by
  induction r with
  | zero => intro p q h1 h2; exact h1
  | succ r ih =>
    intro p q h1 h2
    unfold eu
    cases h0 : (q.1 == 0 && q.2 == 0) with
    | true => exact h1
    | false => exact ih q _ h2 (rest_right h2 (nn_pos h0))
def gcdA' (x y z u : Int) : Value := bif rt x y && rt z u then pe (firstQ 3 (eu 42 (x, y) (z, u))).1 (firstQ 3 (eu 42 (x, y) (z, u))).2 0 else pe 0 0 1
theorem norm_small {z u : Int} (h : rt z u = true) : z * z + u * u < 2 ^ 42 := by
  rw [rt_iff] at h
  have a1 := cmul_bound (x := z) (y := z) (by omega) (by omega)
  have a2 := cmul_bound (x := u) (y := u) (by omega) (by omega)
  omega
theorem Gcd_spec (x y z u : Int) : Does Try.prog 24 [pt x y, pt z u] (gcdA' x y z u) := by
  unfold gcdA'
  refine does_of_fin (fn := Try.f24) (c := bd Try.f24) rfl (by kernel_rfl) rfl ?_
  cases h1 : rt x y with
  | false => exact gcd0_1 x y z u false (h1 ▸ Right_spec x y) rfl
  | true =>
    cases h2 : rt z u with
    | false => exact gcd0_2 x y z u true false (h1 ▸ Right_spec x y) rfl (h2 ▸ Right_spec z u) rfl
    | true =>
      obtain ⟨a, b, e1, fa, fb⟩ := z_spec h1
      obtain ⟨c, d, e2, fc, fd⟩ := z_spec h2
      refine gcd0_3 x y z u true true a b c d (h1 ▸ Right_spec x y) rfl (h2 ▸ Right_spec z u) rfl e1 e2 _ (fin_loop 43 ?_)
      refine gcd_loop 42 x y z u a b c d 43 _ fa fb fc fd h1 h2 (norm_small h2) (by omega) (fun j k l m fj fk => fin_loop 4 ?_)
      have hr := rt_iff.1 (eu_right 42 (x, y) (z, u) h1 h2)
      obtain ⟨E, hE⟩ : ∃ E, E = eu 42 (x, y) (z, u) := ⟨_, rfl⟩
      rw [← hE] at hr fj fk ⊢
      exact quarter_loop 3 _ _ j k l m 4 fj fk (by omega) (by omega) (firstQ_in _ _) (by omega)
/-- Of what is known, less may be kept. -/
theorem fin_keep {P : Program} {fn : Func} {v : Value} {k : List It} {s : List SV} {b : List (Nat × SBox)} (keep : List Nat) (h : Fin P fn v k (keepS keep 0 s) (keepB keep b)) : Fin P fn v k s b := by
  intro w0 m a w hS
  exact h w0 m a w ⟨hS.d, keepS_slots hS.s, keepB_mem hS.m⟩
abbrev rS (a : Int) : List SV := [.x, .x, .p 2 0, .p 3 0, .p 4 0, .x, .v (it a)] ++ List.replicate 50 .x
abbrev rS2 (a : Int) : List SV := [.x, .x, .p 2 0, .p 3 0, .p 4 0, .x, .x, .x, .x, .v (it a)] ++ List.replicate 47 .x
abbrev rB (x y z u : Int) : List (Nat × SBox) := [(2, ⟨23, [it x, it y]⟩), (3, ⟨23, [it z, it u]⟩), (4, ⟨23, [it 0, it 0]⟩)]
theorem rgcd_loop (r : Nat) : ∀ (x y z u i : Int) (n : Nat) (v : Value), rt x y = true → rt z u = true → z * z + u * u < 2 ^ r → 0 ≤ i → i + r < 100 → r < n →
    (∀ z' u', Fin Try.prog Try.f26 v rgcdB (rS2 0) (rB (eu r (x, y) (z, u)).1 (eu r (x, y) (z, u)).2 z' u')) → Fin Try.prog Try.f26 v (inK rgcdA n) (rS i) (rB x y z u) := by
  have stop : ∀ (x y z u i : Int) (n : Nat) (v : Value), rt z u = true → (z == 0 && u == 0) = true → i < 100 → Fin Try.prog Try.f26 v rgcdB (rS2 0) (rB x y z u) → Fin Try.prog Try.f26 v (inK rgcdA (n + 1)) (rS i) (rB x y z u) := by
    intro x y z u i n v h2 h0 hi hF
    have hz := nrm_zero h2
    refine fin_round (rgcd1_2 x y z u i n (nrm z u) (by simpa using hi) (rNorm_spec z u) ?_ v (fin_keep [2, 3, 4, 9] hF))
    have : (nrm z u == 0) = true := by rw [hz, h0]
    simpa using this
  induction r with
  | zero =>
    intro x y z u i n v h1 h2 hN hi hi2 hn hF
    obtain ⟨n, rfl⟩ : ∃ j, n = j + 1 := ⟨n - 1, by omega⟩
    have h0 : (z == 0 && u == 0) = true := by
      cases h0 : (z == 0 && u == 0) with
      | true => rfl
      | false =>
        have := nn_pos h0
        simp at hN
        omega
    exact stop x y z u i n v h2 h0 (by omega) (hF z u)
  | succ r ih =>
    intro x y z u i n v h1 h2 hN hi hi2 hn hF
    obtain ⟨n, rfl⟩ : ∃ j, n = j + 1 := ⟨n - 1, by omega⟩
    cases h0 : (z == 0 && u == 0) with
    | true =>
      have he : eu (r + 1) (x, y) (z, u) = (x, y) := by simp only [eu, h0, cond_true]
      rw [he] at hF
      exact stop x y z u i n v h2 h0 (by omega) (hF z u)
    | false =>
      have hp := nn_pos h0
      have he : eu (r + 1) (x, y) (z, u) = eu r (z, u) (rx x y z u, ry x y z u) := by simp only [eu, h0, cond_false]
      rw [he] at hF
      have hz := nrm_zero h2
      refine fin_round (rgcd1_1 x y z u i n (nrm z u) _ _ _ _ (by simp; omega) (rNorm_spec z u) ?_ (rparts_spec h1 h2 hp) v ?_)
      · have : (nrm z u == 0) = false := by rw [hz, h0]
        simpa using this
      · rw [wr (by omega) (by omega)]
        have h3 := rest_half (x := x) (y := y) hp
        rw [Int.pow_succ] at hN
        exact ih z u _ _ (i + 1) n v h2 (rest_right h2 hp) (by omega) (by omega) (by omega) (by omega) hF
theorem rquarter_zero (r : Nat) : ∀ (z u i : Int) (n : Nat), 0 ≤ i → i + r = 4 → r < n → Fin Try.prog Try.f26 (pe 0 0 0) (inK rgcdB n) (rS2 i) (rB 0 0 z u) := by
  induction r with
  | zero =>
    intro z u i n hi hr hn
    obtain ⟨n, rfl⟩ : ∃ j, n = j + 1 := ⟨n - 1, by omega⟩
    exact fin_round (rgcd2_4 0 0 z u i n (by simp; omega))
  | succ r ih =>
    intro z u i n hi hr hn
    obtain ⟨n, rfl⟩ : ∃ j, n = j + 1 := ⟨n - 1, by omega⟩
    refine fin_round (rgcd2_1 0 0 z u i n (by simp; omega) rfl _ ?_)
    rw [wr (n := i + 1) (by omega) (by omega), wr (n := 0 - 0) (by omega) (by omega), Int.sub_zero]
    exact ih z u (i + 1) n (by omega) (by omega) (by omega)
theorem rquarter_loop (r : Nat) : ∀ (x y z u i : Int) (n : Nat), x.natAbs ≤ 1048576 → y.natAbs ≤ 1048576 → inQ (firstQ r (x, y)) = true → 0 ≤ i → i + r < 4 → r < n →
    (x == 0 && y == 0) = false → Fin Try.prog Try.f26 (pe (firstQ r (x, y)).1 (firstQ r (x, y)).2 0) (inK rgcdB n) (rS2 i) (rB x y z u) := by
  have stop : ∀ (x y z u i : Int) (n : Nat), inQ (x, y) = true → i < 4 → (x == 0 && y == 0) = false → Fin Try.prog Try.f26 (pe x y 0) (inK rgcdB (n + 1)) (rS2 i) (rB x y z u) := by
    intro x y z u i n hq hi h0
    have hq2 : 0 < x ∧ 0 ≤ y := by simpa [inQ, h0] using hq
    exact fin_round (rgcd2_3 x y z u i n (by simpa using hi) (by simp; omega) (by simp; omega))
  induction r with
  | zero =>
    intro x y z u i n hx hy hq hi hi2 hn h0
    obtain ⟨n, rfl⟩ : ∃ j, n = j + 1 := ⟨n - 1, by omega⟩
    exact stop x y z u i n hq (by omega) h0
  | succ r ih =>
    intro x y z u i n hx hy hq hi hi2 hn h0
    obtain ⟨n, rfl⟩ : ∃ j, n = j + 1 := ⟨n - 1, by omega⟩
    cases hs : inQ (x, y) with
    | true =>
      have e : firstQ (r + 1) (x, y) = (x, y) := by simp only [firstQ, hs, cond_true]
      rw [e]
      exact stop x y z u i n hs (by omega) h0
    | false =>
      have e : firstQ (r + 1) (x, y) = firstQ r (-y, x) := by simp only [firstQ, hs, cond_false]
      rw [e] at hq ⊢
      have h0' : (-y == 0 && x == 0) = false := by
        simp at h0 ⊢
        omega
      have hr := ih (-y) x z u (i + 1) n (by omega) hx hq (by omega) (by omega) (by omega) h0'
      refine fin_round ?_
      cases hx0 : decide (x ≤ 0) with
      | true =>
        refine rgcd2_1 x y z u i n (by simp; omega) hx0 _ ?_
        rw [wr (n := i + 1) (by omega) (by omega), wr (n := 0 - y) (by omega) (by omega), Int.zero_sub]
        exact hr
      | false =>
        refine rgcd2_2 x y z u i n (by simp; omega) hx0 ?_ _ ?_
        · simp [inQ] at hx0 hs h0 ⊢
          omega
        · rw [wr (n := i + 1) (by omega) (by omega), wr (n := 0 - y) (by omega) (by omega), Int.zero_sub]
          exact hr
theorem rGcd_spec (x y z u : Int) : Does Try.prog 26 [pt x y, pt z u] (gcdA' x y z u) := by
  unfold gcdA'
  refine does_of_fin (fn := Try.f26) (c := bd Try.f26) rfl (by kernel_rfl) rfl ?_
  cases h1 : rt x y with
  | false => exact rgcd0_1 x y z u false (h1 ▸ rRight_spec x y) rfl
  | true =>
    cases h2 : rt z u with
    | false => exact rgcd0_2 x y z u true false (h1 ▸ rRight_spec x y) rfl (h2 ▸ rRight_spec z u) rfl
    | true =>
      refine rgcd0_3 x y z u true true (h1 ▸ rRight_spec x y) rfl (h2 ▸ rRight_spec z u) rfl _ (fin_loop 43 ?_)
      refine rgcd_loop 42 x y z u 0 43 _ h1 h2 (norm_small h2) (by omega) (by omega) (by omega) (fun z' u' => fin_loop 5 ?_)
      have hr := rt_iff.1 (eu_right 42 (x, y) (z, u) h1 h2)
      obtain ⟨E, hE⟩ : ∃ E, E = eu 42 (x, y) (z, u) := ⟨_, rfl⟩
      rw [← hE] at hr ⊢
      obtain ⟨X, Y⟩ := E
      cases h0 : (X == 0 && Y == 0) with
      | true =>
        have hX : X = 0 ∧ Y = 0 := by simpa using h0
        obtain ⟨rfl, rfl⟩ := hX
        exact rquarter_zero 4 z' u' 0 5 (by omega) (by omega) (by omega)
      | false => exact rquarter_loop 3 X Y z' u' 0 5 (by omega) (by omega) (firstQ_in _ _) (by omega) (by omega) (by omega) h0
end Go.Proofs.YtjndejlbkmeppaaG
