import Derived.Test.YtjndejlbkmeppaaSpec8
/- What Gcd gives divides both. -/
namespace Go.Proofs.YtjndejlbkmeppaaG
open Go.Proofs Go.Proofs.YtjndejlbkmeppaaSx
/-- g divides p: as complex whole numbers. -/
def Dv (g p : Int × Int) : Prop := ∃ c d : Int, p.1 = g.1 * c - g.2 * d ∧ p.2 = g.1 * d + g.2 * c
theorem dv_self (g : Int × Int) : Dv g g := ⟨1, 0, by simp, by simp⟩
theorem dv_zero (g : Int × Int) : Dv g (0, 0) := ⟨0, 0, by simp, by simp⟩
theorem dv_back {g q r : Int × Int} {x y c d : Int} (hq : Dv g q) (hr : Dv g r) (h1 : x = q.1 * c - q.2 * d + r.1) (h2 : y = q.1 * d + q.2 * c + r.2) : Dv g (x, y) := by
  obtain ⟨a, b, e1, e2⟩ := hq
  obtain ⟨a', b', e3, e4⟩ := hr
  refine ⟨a * c - b * d + a', a * d + b * c + b', ?_, ?_⟩
  · simp only [h1, e1, e2, e3]
    grind
  · simp only [h2, e1, e2, e4]
    grind
theorem dv_rot {g p : Int × Int} (h : Dv g p) : Dv (-g.2, g.1) p := by
  obtain ⟨c, d, e1, e2⟩ := h
  refine ⟨d, -c, ?_, ?_⟩
  · rw [e1]; grind
  · rw [e2]; grind
theorem dv_first (r : Nat) : ∀ (g p : Int × Int), Dv g p → Dv (firstQ r g) p := by
  induction r with
  | zero => intro g p h; exact h
  | succ r ih =>
    intro g p h
    unfold firstQ
    cases inQ g with
    | true => exact h
    | false => exact ih _ p (dv_rot h)
theorem eu_dv (r : Nat) : ∀ (p q : Int × Int), q.1 * q.1 + q.2 * q.2 < 2 ^ r → Dv (eu r p q) p ∧ Dv (eu r p q) q := by
  induction r with
  | zero =>
    intro p q hN
    have h0 : (q.1 == 0 && q.2 == 0) = true := by
      cases h0 : (q.1 == 0 && q.2 == 0) with
      | true => rfl
      | false =>
        have := nn_pos h0
        simp at hN
        omega
    simp at h0
    have hq : q = (0, 0) := Prod.ext h0.1 h0.2
    exact ⟨dv_self p, by rw [hq]; exact dv_zero _⟩
  | succ r ih =>
    intro p q hN
    unfold eu
    cases h0 : (q.1 == 0 && q.2 == 0) with
    | true =>
      simp at h0
      have hq : q = (0, 0) := Prod.ext h0.1 h0.2
      exact ⟨dv_self p, by rw [hq]; exact dv_zero _⟩
    | false =>
      have hp := nn_pos h0
      have hr := rest_half (x := p.1) (y := p.2) hp
      rw [Int.pow_succ] at hN
      obtain ⟨d1, d2⟩ := ih q (rx p.1 p.2 q.1 q.2, ry p.1 p.2 q.1 q.2) (by simp only; omega)
      refine ⟨?_, d1⟩
      exact dv_back (c := qx p.1 p.2 q.1 q.2) (d := qy p.1 p.2 q.1 q.2) d1 d2 (by simp only [rx]; omega) (by simp only [ry]; omega)
end Go.Proofs.YtjndejlbkmeppaaG
