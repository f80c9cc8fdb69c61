/- What the program's functions on 128 bits come to. -/
import Derived.Test.YtcneenlcbjicnaaDoorSD
import Derived.Test.YtcneenlcbjicnaaDoorPE0
import Derived.Laws.MathBits
namespace Go.Proofs.YtcneenlcbjicnaaDoorC
open Go.Proofs Go.Proofs.YtcneenlcbjicnaaDoorSx
set_option maxRecDepth 100000
set_option linter.unusedVariables false
def big128 : Int := 340282366920938463463374607431768211456
abbrev Bv (n : Int) (s : Bool) : Value := bg (n / 18446744073709551616) (n % 18446744073709551616) s
abbrev U64 (n : Int) : Prop := 0 ≤ n ∧ n < 18446744073709551616
/-! ### Carries -/
theorem inPlace {g : Nat} {l : List Value} {v : Value} (h : pureRun cE.P (callFunc g l.toArray) = some (.value v)) : Does cE g [] 0 (l.map .v) (.v v) [] 0 := by
  intro S w μ vs hm hs
  have e : vs = l := by
    have : ∀ (l vs : List Value), Slots (fun k => k < 0) μ (l.map .v) vs → vs = l := by
      intro l
      induction l with
      | nil => intro vs h; exact h.nilr
      | cons a l ih =>
        intro vs h
        obtain ⟨u, r, h1, h2, h3⟩ := h.consr
        rw [h1, rel_v.1 h2, ih r h3]
    exact this l vs hs
  subst e
  exact .inl ⟨v, pureRun_run h w, rel_v.2 rfl, rfl, rfl⟩
theorem add64_does {x y : Int} (hx : U64 x) (hy : U64 y) : Does cE 67 [] 0 [.v (iu x), .v (iu y), .v (iu 0)] (.v (.tuple #[iu ((x + y) % 18446744073709551616), iu ((x + y) / 18446744073709551616)])) [] 0 := by
  have h := inPlace (g := 67) (l := [iu x, iu y, iu 0]) (v := .tuple #[iu (Int.ofNat ((x.toNat + y.toNat + 0) % 18446744073709551616)), iu (Int.ofNat ((x.toNat + y.toNat + 0) / 18446744073709551616))]) (by kernel_rfl)
  have e1 : Int.ofNat ((x.toNat + y.toNat + 0) % 18446744073709551616) = (x + y) % 18446744073709551616 := by simp; omega
  have e2 : Int.ofNat ((x.toNat + y.toNat + 0) / 18446744073709551616) = (x + y) / 18446744073709551616 := by simp; omega
  rw [e1, e2] at h
  exact h
theorem sub64_does {x y : Int} (hx : U64 x) (hy : U64 y) : Does cE 63 [] 0 [.v (iu x), .v (iu y), .v (iu 0)] (.v (.tuple #[iu ((x - y) % 18446744073709551616), iu (if x < y then 1 else 0)])) [] 0 := by
  have h := inPlace (g := 63) (l := [iu x, iu y, iu 0]) (v := .tuple #[iu (Int.ofNat ((x.toNat + 18446744073709551616 - y.toNat - 0) % 18446744073709551616)), iu (Int.ofNat (if x.toNat < y.toNat + 0 then 1 else 0))]) (by kernel_rfl)
  have e1 : Int.ofNat ((x.toNat + 18446744073709551616 - y.toNat - 0) % 18446744073709551616) = (x - y) % 18446744073709551616 := by simp; omega
  have e2 : Int.ofNat (if x.toNat < y.toNat + 0 then 1 else 0) = if x < y then 1 else 0 := by
    by_cases hlt : x < y
    · rw [if_pos hlt, if_pos (by omega)]; rfl
    · rw [if_neg hlt, if_neg (by omega)]; rfl
  rw [e1, e2] at h
  exact h
theorem low32 (z : Int) (h0 : 0 ≤ z) : IntKind.u64.wrap ↑(BitVec.ofInt 64 z &&& BitVec.ofInt 64 4294967295).toNat = z % 4294967296 := by
  rw [BitVec.toNat_and, BitVec.toNat_ofInt, BitVec.toNat_ofInt]
  have e : ((4294967295 : Int) % ((2 ^ 64 : Nat) : Int)).toNat = 2 ^ 32 - 1 := by decide
  rw [e, Nat.and_two_pow_sub_one_eq_mod, wrapU]
  have : (2 : Nat) ^ 32 = 4294967296 := by decide
  rw [this]
  omega
theorem hi32 (z : Int) (h0 : 0 ≤ z) : z.fdiv (2 ^ Min.min (Int.toNat 32) 64) = z / 4294967296 := by
  rw [Int.fdiv_eq_ediv_of_nonneg _ (by decide)]
  rfl
theorem wrap_nn (z : Int) : 0 ≤ IntKind.u64.wrap z := by rw [wrapU]; omega
theorem fdiv32 (z : Int) : z.fdiv (2 ^ 32) = z / 4294967296 := by
  rw [Int.fdiv_eq_ediv_of_nonneg _ (by decide)]
  rfl
theorem mul64_does {x y : Int} (hx : U64 x) (hy : U64 y) : Does cE 64 [] 0 [.v (iu x), .v (iu y)] (.v (.tuple #[iu (x * y / 18446744073709551616), iu (x * y % 18446744073709551616)])) [] 0 := by
  have h := mul64_1 x y
  have ha := Go.mul64_arith x y hx.1 hx.2 hy.1 hy.2
  simp only [fdiv32] at h
  rw [low32 x hx.1, low32 y hy.1, low32 _ (wrap_nn _)] at h
  simp only [wrapU] at h
  rw [ha] at h
  exact h
end Go.Proofs.YtcneenlcbjicnaaDoorC
