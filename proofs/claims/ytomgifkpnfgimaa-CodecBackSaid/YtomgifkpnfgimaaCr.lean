/- The codec's sum over 64 bits: it is linear. -/
import Derived.Test.YtomgifkpnfgimaaLOne
namespace Go.Proofs.YtomgifkpnfgimaaC
open Go.Proofs Go.Proofs.YtomgifkpnfgimaaSx Go.RowKit
set_option maxRecDepth 100000
set_option linter.unusedVariables false
abbrev W := BitVec 64
def polyB : W := 4823603603198064275#64
def bmask (c : W) : W := if c.msb then BitVec.allOnes 64 else 0#64
def bstep (c : W) : W := (c <<< 1) ^^^ (polyB &&& bmask c)
def biter : Nat → W → W
  | 0, c => c
  | n + 1, c => biter n (bstep c)
def bsh (b : Int) : W := BitVec.ofInt 64 (IntKind.u64.wrap (IntKind.u64.wrap b * 2 ^ 56))
def sumB : List Int → W → W
  | [], c => c
  | b :: l, c => sumB l (biter 8 (c ^^^ bsh b))
theorem wrapU (x : Int) : IntKind.u64.wrap x = x % 18446744073709551616 := by simp [IntKind.wrap, IntKind.bits, IntKind.signed]
theorem wrap_nat (c : W) : IntKind.u64.wrap (c.toNat : Int) = (c.toNat : Int) := by
  rw [wrapU]
  have := c.isLt
  omega
theorem ofInt_nat (c : W) : BitVec.ofInt 64 (c.toNat : Int) = c := by
  apply BitVec.eq_of_toNat_eq
  rw [BitVec.toNat_ofInt]
  have := c.isLt
  omega
theorem ofInt_wrap (x : Int) : BitVec.ofInt 64 (IntKind.u64.wrap x) = BitVec.ofInt 64 x := by
  apply BitVec.eq_of_toNat_eq
  rw [BitVec.toNat_ofInt, BitVec.toNat_ofInt, wrapU]
  omega
theorem sstep_eq (c : W) : sstep (c.toNat : Int) = ((bstep c).toNat : Int) := by
  unfold sstep bstep
  have h1 : BitVec.ofInt 64 (IntKind.u64.wrap ((c.toNat : Int) * 2 ^ 1)) = c <<< 1 := by
    apply BitVec.eq_of_toNat_eq
    rw [BitVec.toNat_ofInt, wrapU, BitVec.toNat_shiftLeft, Nat.shiftLeft_eq]
    omega
  have hlt := c.isLt
  have h2 : BitVec.ofInt 64 (IntKind.u64.wrap (0 - (c.toNat : Int).fdiv (2 ^ 63))) = bmask c := by
    rw [Int.fdiv_eq_ediv_of_nonneg _ (by decide)]
    unfold bmask
    rw [BitVec.msb_eq_decide]
    by_cases hc : 2 ^ (64 - 1) ≤ c.toNat
    · have e : (c.toNat : Int) / 2 ^ 63 = 1 := by omega
      rw [e, decide_eq_true hc, if_pos rfl, wrapU]
      rfl
    · have e : (c.toNat : Int) / 2 ^ 63 = 0 := by omega
      rw [e, decide_eq_false hc, if_neg (by simp), wrapU]
      rfl
  have h3 : BitVec.ofInt 64 4823603603198064275 = polyB := by rfl
  rw [h1, h2, h3, wrap_nat (polyB &&& bmask c), ofInt_nat, wrap_nat]
theorem iter_eq : ∀ (n : Nat) (c : W), iter n (c.toNat : Int) = ((biter n c).toNat : Int)
  | 0, c => rfl
  | n + 1, c => by
    unfold iter biter
    rw [sstep_eq, iter_eq n]
theorem bx_eq (c : W) (b : Int) : bx (c.toNat : Int) b = ((c ^^^ bsh b).toNat : Int) := by
  unfold bx bsh
  rw [ofInt_nat, wrap_nat]
theorem sum_eq : ∀ (l : List Int) (c : W), sumL l (c.toNat : Int) = ((sumB l c).toNat : Int)
  | [], c => rfl
  | b :: l, c => by
    unfold sumL sumB
    rw [bx_eq, iter_eq, sum_eq l]
theorem bmask_xor (x y : W) : bmask (x ^^^ y) = bmask x ^^^ bmask y := by
  unfold bmask
  rw [BitVec.msb_xor]
  cases x.msb <;> cases y.msb <;> decide
theorem and_xor (p x y : W) : p &&& (x ^^^ y) = (p &&& x) ^^^ (p &&& y) := by
  ext i hi
  simp only [BitVec.getElem_and, BitVec.getElem_xor]
  cases p[i] <;> simp
theorem bstep_xor (x y : W) : bstep (x ^^^ y) = bstep x ^^^ bstep y := by
  unfold bstep
  rw [bmask_xor, BitVec.shiftLeft_xor_distrib, and_xor]
  ac_rfl
theorem biter_xor : ∀ (n : Nat) (x y : W), biter n (x ^^^ y) = biter n x ^^^ biter n y
  | 0, x, y => rfl
  | n + 1, x, y => by
    unfold biter
    rw [bstep_xor, biter_xor n]
theorem bsh_eq (v : BitVec 8) : bsh (v.toNat : Int) = (v.setWidth 64) <<< 56 := by
  apply BitVec.eq_of_toNat_eq
  unfold bsh
  have := v.isLt
  rw [BitVec.toNat_ofInt, wrapU, wrapU, BitVec.toNat_shiftLeft, Nat.shiftLeft_eq, BitVec.toNat_setWidth]
  omega
def xb (x y : Int) : Int := IntKind.u8.wrap ↑(BitVec.ofInt 8 x ^^^ BitVec.ofInt 8 y).toNat
theorem bsh_xor {x y : Int} (hx : 0 ≤ x ∧ x < 256) (hy : 0 ≤ y ∧ y < 256) : bsh (xb x y) = bsh x ^^^ bsh y := by
  have ex : x = ((BitVec.ofInt 8 x).toNat : Int) := by rw [BitVec.toNat_ofInt]; omega
  have ey : y = ((BitVec.ofInt 8 y).toNat : Int) := by rw [BitVec.toNat_ofInt]; omega
  have ez : xb x y = ((BitVec.ofInt 8 x ^^^ BitVec.ofInt 8 y).toNat : Int) := by
    unfold xb
    have := (BitVec.ofInt 8 x ^^^ BitVec.ofInt 8 y).isLt
    rw [wrap8]
    omega
  rw [ez]
  conv => rhs; rw [ex, ey]
  rw [bsh_eq, bsh_eq, bsh_eq, BitVec.setWidth_xor, BitVec.shiftLeft_xor_distrib]
theorem sumB_xor : ∀ (a b : List Int) (c d : W), a.length = b.length → Byteish a → Byteish b → sumB (List.zipWith xb a b) (c ^^^ d) = sumB a c ^^^ sumB b d
  | [], [], c, d, _, _, _ => rfl
  | [], _ :: _, _, _, h, _, _ => by simp at h
  | _ :: _, [], _, _, h, _, _ => by simp at h
  | x :: a, y :: b, c, d, h, ha, hb => by
    simp only [List.zipWith_cons_cons, sumB]
    rw [bsh_xor (ha x List.mem_cons_self) (hb y List.mem_cons_self)]
    have e : c ^^^ d ^^^ (bsh x ^^^ bsh y) = (c ^^^ bsh x) ^^^ (d ^^^ bsh y) := by ac_rfl
    rw [e, biter_xor]
    exact sumB_xor a b _ _ (by simpa using h) (fun z hz => ha z (List.mem_cons_of_mem _ hz)) (fun z hz => hb z (List.mem_cons_of_mem _ hz))
theorem sum0_eq (l : List Int) : sumL l 0 = ((sumB l 0#64).toNat : Int) := sum_eq l 0#64
theorem sum_linear (a b : List Int) (h : a.length = b.length) (ha : Byteish a) (hb : Byteish b) :
    sumL (List.zipWith xb a b) 0 = IntKind.u64.wrap ↑(BitVec.ofInt 64 (sumL a 0) ^^^ BitVec.ofInt 64 (sumL b 0)).toNat := by
  rw [sum0_eq, sum0_eq, sum0_eq, ofInt_nat, ofInt_nat, wrap_nat, ← sumB_xor a b 0#64 0#64 h ha hb]
  rfl
end Go.Proofs.YtomgifkpnfgimaaC
