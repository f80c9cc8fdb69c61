import Derived.Test.YtjndejlbkmeppaaSpec8
import Derived.Test.YtjndejlbkmeppaaPParts
/- GaussParts answers true: every quotient and rest, gcd, conjugate, norm and turn is the document's. -/
namespace Go.Proofs.YtjndejlbkmeppaaG
open Go.Proofs Go.Proofs.YtjndejlbkmeppaaSx
theorem toV {P : Program} {f : Nat} {l : List Value} {v u : Value} (h : Does P f l v) (e : v = u) : Does P f l u := e ▸ h
theorem same_self (a b : Int) : Does Try.prog 20 [pt a b, pt a b] (.bool true) := by
  have := same_spec a b a b
  simpa using this
theorem div_pe (x y z u : Int) : ∃ a b c d e, divA x y z u = p2e a b c d e := by
  unfold divA
  cases rt x y <;> cases rt z u <;> cases (z == 0 && u == 0) <;> cases rt (qx x y z u) (qy x y z u) <;> cases rt (rx x y z u) (ry x y z u) <;> exact ⟨_, _, _, _, _, rfl⟩
theorem gcd_pe (x y z u : Int) : ∃ a b e, gcdA' x y z u = pe a b e := by
  unfold gcdA'
  cases rt x y <;> cases rt z u <;> exact ⟨_, _, _, rfl⟩
theorem bif_pt (c : Bool) (a b : Int) : ∃ p q, (bif c then pt a b else pt 0 0) = pt p q := by
  cases c <;> exact ⟨_, _, rfl⟩
theorem parts_true (x y z u n : Int) : Gives Try.prog 8 [pt x y, pt z u, it n] (.bool true) := by
  obtain ⟨a, b, c, d, e, q1⟩ := div_pe x y z u
  obtain ⟨f, g, h, q2⟩ := gcd_pe x y z u
  obtain ⟨i, j, q3⟩ := bif_pt (rt x y) x (-y)
  obtain ⟨k, l, q4⟩ := bif_pt (rt x y) (rotN (times n) (x, y)).1 (rotN (times n) (x, y)).2
  exact Parts (n := n) (h0 := own_1 x y) (h1 := own_1 z u) (h2 := toV (Div_spec x y z u) q1) (h3 := toV (rDiv_spec x y z u) q1) (h4 := own_1 x y) (h5 := own_1 z u) (h6 := toV (Gcd_spec x y z u) q2) (h7 := toV (rGcd_spec x y z u) q2)
    (h8 := same_self a b) (h9 := rfl) (h10 := same_self c d) (h11 := rfl) (h12 := num_1 e) (h13 := by simp) (h14 := same_self f g) (h15 := rfl) (h16 := num_1 h) (h17 := by simp)
    (h18 := own_1 x y) (h19 := toV (Conj_spec x y) q3) (h20 := toV (rConj_spec x y) q3) (h21 := same_self i j) (h22 := rfl) (h23 := own_1 x y) (h24 := Norm_spec x y) (h25 := rNorm_spec x y) (h26 := by simp)
    (h27 := own_1 x y) (h28 := toV (Turn_spec x y n) q4) (h29 := toV (rTurn_spec x y n) q4) (h30 := same_self k l) (h31 := rfl) (h32 := knows_spec)
end Go.Proofs.YtjndejlbkmeppaaG
