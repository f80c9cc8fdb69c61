/- The codec's numbers: what Number writes. -/
import Derived.Test.YtomgifkpnfgimaaPB
namespace Go.Proofs.YtomgifkpnfgimaaC
open Go.Proofs Go.Proofs.YtomgifkpnfgimaaSx
set_option maxRecDepth 100000
set_option linter.unusedVariables false
/-- Seven bits a byte, the least ones first. -/
def encF : Nat → Nat → List Int
  | 0, u => [(u : Int)]
  | f + 1, u => if u < 128 then [(u : Int)] else ((u % 128 + 128 : Nat) : Int) :: encF f (u / 128)
/-- A number without its sign: 0, -1, 1, -2, .. -/
def zz (n : Int) : Nat := if 0 ≤ n then 2 * n.toNat else 2 * (-n - 1).toNat + 1
def encN (n : Int) : List Int := encF 9 (zz n)
theorem encF_length : ∀ (f u : Nat), 1 ≤ (encF f u).length ∧ (encF f u).length ≤ f + 1
  | 0, u => by simp [encF]
  | f + 1, u => by
    unfold encF
    split
    · simp
    · have := encF_length f (u / 128)
      simp
      omega
theorem encF_ne (f u : Nat) : encF f u ≠ [] := by
  intro h
  have := (encF_length f u).1
  rw [h] at this
  simp at this
theorem encF_inj : ∀ (f u v : Nat), u < 128 ^ (f + 1) → v < 128 ^ (f + 1) → encF f u = encF f v → u = v
  | 0, u, v, hu, hv, h => by
    simp [encF] at h
    omega
  | f + 1, u, v, hu, hv, h => by
    have hd : ∀ x, x < 128 ^ (f + 1 + 1) → x / 128 < 128 ^ (f + 1) := by
      intro x hx
      refine Nat.div_lt_of_lt_mul ?_
      rw [Nat.mul_comm]
      exact hx
    unfold encF at h
    split at h <;> split at h
    · simp at h
      omega
    · simp at h
      omega
    · simp at h
      omega
    · simp only [List.cons.injEq] at h
      have := encF_inj f _ _ (hd u hu) (hd v hv) h.2
      have h1 := h.1
      omega
theorem zz_inj {a b : Int} (h : zz a = zz b) : a = b := by
  unfold zz at h
  split at h <;> split at h <;> omega
theorem zz_lt {n : Int} (h0 : -9223372036854775808 ≤ n) (h1 : n ≤ 9223372036854775807) : zz n < 18446744073709551616 := by
  unfold zz
  split <;> omega
theorem or128 : ∀ x : Fin 256, (BitVec.ofInt 8 ((x.val : Nat) : Int) ||| BitVec.ofInt 8 128).toNat = x.val % 128 + 128 := by decide
theorem wrap8 (u : Nat) : IntKind.u8.wrap (u : Int) = ((u % 256 : Nat) : Int) := by
  simp [IntKind.wrap, IntKind.bits, IntKind.signed]
theorem byte_or (u : Nat) : IntKind.u8.wrap ↑(BitVec.ofInt 8 (IntKind.u8.wrap (u : Int)) ||| BitVec.ofInt 8 128).toNat = ((u % 128 + 128 : Nat) : Int) := by
  rw [wrap8 u]
  have h := or128 ⟨u % 256, Nat.mod_lt _ (by decide)⟩
  simp only at h
  rw [h, wrap8]
  congr 1
  omega
theorem div128 (u : Nat) : (u : Int).fdiv (2 ^ 7) = ((u / 128 : Nat) : Int) := by
  rw [Int.fdiv_eq_ediv_of_nonneg _ (by decide)]
  simp
theorem room_small {n : Nat} (h : n ≤ 100000000000000) : Room n 1 := by
  unfold Room maxLen
  omega
theorem num_loop : ∀ (f u : Nat) (l : List Int), u < 128 ^ (f + 1) → l.length + f ≤ 100 → ∀ m, Fin cE Try.f15 0 (.o 0) [(0, .own 5 (l ++ encF f u))] 1 (inK numK (m + f + 1)) ([.na, .na, .na, .v (iu u), .o 0] ++ List.replicate 22 .na) [(0, .own 5 l)] 1
  | 0, u, l, hu, hl, m => by
    have h := num2_2 (u : Int) l (m + 0) (by simp; omega) (room_small (by simp; omega))
    rw [wrap8, Nat.mod_eq_of_lt (by omega)] at h
    exact fin_round h
  | f + 1, u, l, hu, hl, m => by
    by_cases hs : u < 128
    · have h := num2_2 (u : Int) l (m + (f + 1)) (by simp; omega) (room_small (by simp; omega))
      rw [wrap8, Nat.mod_eq_of_lt (by omega)] at h
      have e : encF (f + 1) u = [(u : Int)] := by unfold encF; rw [if_pos hs]
      rw [e]
      exact fin_round h
    · have ih := num_loop f (u / 128) (l ++ [((u % 128 + 128 : Nat) : Int)]) (by
        refine Nat.div_lt_of_lt_mul ?_
        rw [Nat.mul_comm]
        exact hu) (by simp; omega) m
      have e : encF (f + 1) u = ((u % 128 + 128 : Nat) : Int) :: encF f (u / 128) := by rw [encF, if_neg hs]
      have h := num2_1 (u : Int) l (m + (f + 1)) (.o 0) [(0, .own 5 (l ++ encF (f + 1) u))] 1 (by simp; omega) (room_small (by simp; omega))
      rw [byte_or, div128] at h
      refine fin_round (h ?_)
      rw [e]
      rw [List.append_assoc] at ih
      exact ih
theorem xor_ones (x : BitVec 64) : (x ^^^ BitVec.allOnes 64) = ~~~x := by
  exact BitVec.xor_allOnes
theorem zig (n : Int) (h0 : -9223372036854775808 ≤ n) (h1 : n ≤ 9223372036854775807) :
    IntKind.u64.wrap ↑(BitVec.ofInt 64 (IntKind.u64.wrap (IntKind.u64.wrap n * 2 ^ 1)) ^^^ BitVec.ofInt 64 (IntKind.u64.wrap (n.fdiv (2 ^ 63)))).toNat = ((zz n : Nat) : Int) := by
  have hw : ∀ x : Int, IntKind.u64.wrap x = x % 18446744073709551616 := by intro x; simp [IntKind.wrap, IntKind.bits, IntKind.signed]
  have hlt : ∀ b : BitVec 64, ((b.toNat : Nat) : Int) % 18446744073709551616 = (b.toNat : Int) := by
    intro b
    have := b.isLt
    omega
  rw [hw ↑(BitVec.toNat _), hlt]
  rw [Int.fdiv_eq_ediv_of_nonneg _ (by decide)]
  unfold zz
  by_cases hn : 0 ≤ n
  · rw [if_pos hn]
    have e : n / 2 ^ 63 = 0 := by omega
    have e2 : IntKind.u64.wrap (0 : Int) = 0 := by rw [hw]; rfl
    rw [e, e2]
    have e3 : BitVec.ofInt 64 0 = 0#64 := by rfl
    rw [e3, BitVec.xor_zero, BitVec.toNat_ofInt, hw, hw]
    omega
  · rw [if_neg hn]
    have e : n / 2 ^ 63 = -1 := by omega
    have e2 : BitVec.ofInt 64 (IntKind.u64.wrap (-1 : Int)) = BitVec.allOnes 64 := by rw [hw]; rfl
    rw [e, e2, xor_ones, BitVec.toNat_not, BitVec.toNat_ofInt, hw, hw]
    omega
theorem Number_spec (n : Int) (h0 : -9223372036854775808 ≤ n) (h1 : n ≤ 9223372036854775807) : Does cE 15 [] 0 [.v (it n)] (.o 0) [(0, .own 5 (encN n))] 1 := by
  have hlt := zz_lt h0 h1
  refine does_of_fin (fn := Try.f15) (c := bd Try.f15) rfl (by kernel_rfl) rfl ?_
  refine num0_1 n _ _ _ ?_
  rw [zig n h0 h1]
  generalize hz : zz n = z at hlt
  unfold encN
  rw [hz]
  by_cases hs : z < 128
  · refine fin_loop (0 + 1) (fin_round ?_)
    have h := num1_2 (z : Int) 0 (by simp; omega) (room_small (by simp))
    rw [wrap8, Nat.mod_eq_of_lt (by omega)] at h
    have e : encF 9 z = [(z : Int)] := by unfold encF; rw [if_pos hs]
    rw [e]
    exact h
  · refine fin_loop ((0 + 8 + 1) + 1) (fin_round ?_)
    have e : encF 9 z = ((z % 128 + 128 : Nat) : Int) :: encF 8 (z / 128) := by rw [encF, if_neg hs]
    have h := num1_1 (z : Int) (0 + 8 + 1) (.o 0) [(0, .own 5 (encF 9 z))] 1 (by simp; omega) (room_small (by simp))
    rw [byte_or, div128] at h
    refine h ?_
    have ih := num_loop 8 (z / 128) [((z % 128 + 128 : Nat) : Int)] (by omega) (by simp) 0
    rw [e]
    exact ih
end Go.Proofs.YtomgifkpnfgimaaC
