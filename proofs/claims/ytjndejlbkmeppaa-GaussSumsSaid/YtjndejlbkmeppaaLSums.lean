import Derived.Test.YtjndejlbkmeppaaSpec2
import Derived.Test.YtjndejlbkmeppaaPSums
/- GaussSums answers true, whatever the points. -/
namespace Go.Proofs.YtjndejlbkmeppaaG
open Go.Proofs Go.Proofs.YtjndejlbkmeppaaSx
theorem ans_pe (x y z u X Y : Int) : ∃ a b e, ans x y z u X Y = pe a b e := by
  unfold ans
  cases rt x y <;> cases rt z u <;> cases rt X Y <;> exact ⟨_, _, _, rfl⟩
theorem same_self (a b : Int) : Does Try.prog 20 [pt a b, pt a b] (.bool true) := by
  have := same_spec a b a b
  simpa using this
theorem beq_self_int (a : Int) : (a == a) = true := by simp
theorem toV {P : Program} {f : Nat} {l : List Value} {v u : Value} (h : Does P f l v) (e : v = u) : Does P f l u := e ▸ h
theorem sums_true (x y z u : Int) : Gives Try.prog 4 [pt x y, pt z u] (.bool true) := by
  obtain ⟨a1, b1, e1, h1⟩ := ans_pe x y z u (x + z) (y + u)
  obtain ⟨a2, b2, e2, h2⟩ := ans_pe x y z u (x - z) (y - u)
  obtain ⟨a3, b3, e3, h3⟩ := ans_pe x y z u (x * z - y * u) (x * u + y * z)
  exact GaussSums x y z u x y z u a1 b1 e1 a1 b1 e1 x y z u a2 b2 e2 a2 b2 e2 x y z u a3 b3 e3 a3 b3 e3 x y (rt x y) (rt x y) true e1 true e2 true e3 true
    (own_1 x y) (own_1 z u) (toV (Add_spec x y z u) h1) (toV (rAdd_spec x y z u) h1) (own_1 x y) (own_1 z u) (toV (Sub_spec x y z u) h2) (toV (rSub_spec x y z u) h2)
    (own_1 x y) (own_1 z u) (toV (Mul_spec x y z u) h3) (toV (rMul_spec x y z u) h3) (own_1 x y) (Right_spec x y) (rRight_spec x y) (by simp)
    (same_self a1 b1) rfl (num_1 e1) (beq_self_int e1) (same_self a2 b2) rfl (num_1 e2) (beq_self_int e2) (same_self a3 b3) rfl (num_1 e3) (beq_self_int e3) knows_spec
end Go.Proofs.YtjndejlbkmeppaaG
