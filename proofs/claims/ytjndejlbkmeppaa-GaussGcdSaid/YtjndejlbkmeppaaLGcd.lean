import Derived.Test.YtjndejlbkmeppaaDv2
import Derived.Test.YtjndejlbkmeppaaPGcd
/- GaussGcd answers true: a gcd leaves no rest, and lies in the first quarter. -/
namespace Go.Proofs.YtjndejlbkmeppaaG
open Go.Proofs Go.Proofs.YtjndejlbkmeppaaSx
theorem toV {P : Program} {f : Nat} {l : List Value} {v u : Value} (h : Does P f l v) (e : v = u) : Does P f l u := e ▸ h
theorem nrm_pos {x y : Int} : 0 ≤ nrm x y := by
  unfold nrm
  cases rt x y with
  | false => exact Int.le_refl _
  | true =>
    have := sq_nonneg x
    have := sq_nonneg y
    simp only [cond_true]
    omega
theorem gcd_true (x y z u : Int) : Gives Try.prog 7 [pt x y, pt z u] (.bool true) := by
  cases h1 : rt x y with
  | false =>
    have q : gcdA' x y z u = pe 0 0 1 := by unfold gcdA'; rw [h1]; rfl
    exact GcdA (h0 := own_1 x y) (h1 := own_1 z u) (h2 := toV (Gcd_spec x y z u) q) (h3 := num_1 1) (h4 := rfl) (h5 := toV (rRight_spec x y) (by rw [h1])) (h6 := rfl) (h7 := knows_spec)
  | true =>
    cases h2 : rt z u with
    | false =>
      have q : gcdA' x y z u = pe 0 0 1 := by unfold gcdA'; rw [h1, h2]; rfl
      exact GcdB (h0 := own_1 x y) (h1 := own_1 z u) (h2 := toV (Gcd_spec x y z u) q) (h3 := num_1 1) (h4 := rfl) (h5 := toV (rRight_spec x y) (by rw [h1])) (h6 := rfl) (h7 := toV (rRight_spec z u) (by rw [h2])) (h8 := rfl) (h9 := knows_spec)
    | true =>
      obtain ⟨E, hE⟩ : ∃ E, E = firstQ 3 (eu 42 (x, y) (z, u)) := ⟨_, rfl⟩
      have q : gcdA' x y z u = pe E.1 E.2 0 := by unfold gcdA'; rw [h1, h2, ← hE]; rfl
      have hd := eu_dv 42 (x, y) (z, u) (norm_small h2)
      have d1 := dv_first 3 _ _ hd.1
      have d2 := dv_first 3 _ _ hd.2
      have hr : rt E.1 E.2 = true := by rw [hE, rt_first]; exact eu_right 42 (x, y) (z, u) h1 h2
      have hq : inQ E = true := by rw [hE]; exact firstQ_in _ _
      rw [← hE] at d1 d2
      obtain ⟨X, Y⟩ := E
      have hz := nrm_zero hr
      cases h0 : (X == 0 && Y == 0) with
      | true =>
        have hX : X = 0 ∧ Y = 0 := by simpa using h0
        obtain ⟨rfl, rfl⟩ := hX
        have zero : ∀ a b : Int, Dv (0, 0) (a, b) → a = 0 ∧ b = 0 := by
          intro a b h
          obtain ⟨c, d, e1, e2⟩ := h
          simp at e1 e2
          exact ⟨e1, e2⟩
        obtain ⟨rfl, rfl⟩ := zero x y d1
        obtain ⟨rfl, rfl⟩ := zero z u d2
        exact GcdC (h0 := own_1 0 0) (h1 := own_1 0 0) (h2 := toV (Gcd_spec 0 0 0 0) q) (h3 := num_1 0) (h4 := rfl) (h5 := Norm_spec 0 0) (h6 := by rw [hz, h0]) (h7 := own_1 0 0) (h8 := Norm_spec 0 0) (h9 := own_1 0 0) (h10 := Norm_spec 0 0) (h11 := by decide) (h12 := knows_spec)
      | false =>
        have hq2 : 0 < X ∧ 0 ≤ Y := by simpa [inQ, h0] using hq
        obtain ⟨a, b, k1⟩ := div_exact d1 h1 hr h0 hq
        obtain ⟨c, d, k2⟩ := div_exact d2 h2 hr h0 hq
        exact GcdD (h0 := own_1 x y) (h1 := own_1 z u) (h2 := toV (Gcd_spec x y z u) q) (h3 := num_1 0) (h4 := rfl) (h5 := Norm_spec X Y) (h6 := by rw [hz, h0]) (h7 := own_1 x y) (h8 := toV (Div_spec x y X Y) k1) (h9 := own_1 z u) (h10 := toV (Div_spec z u X Y) k2)
          (h11 := num_1 0) (h12 := num_1 0) (h13 := by decide) (h14 := Norm_spec 0 0) (h15 := Norm_spec 0 0) (h16 := by decide) (h17 := by simp; omega) (h18 := by simp; omega) (h19 := knows_spec)
end Go.Proofs.YtjndejlbkmeppaaG
