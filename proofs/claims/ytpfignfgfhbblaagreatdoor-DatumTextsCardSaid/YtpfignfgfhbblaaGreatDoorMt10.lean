import Derived.Test.YtpfignfgfhbblaaGreatDoorProg
import Derived.KernelRfl
import Derived.Test.YtpfignfgfhbblaaGreatDoorMt09
import Derived.Laws.FloatArith
import Derived.Shelf.Unicode.ValidAny
import Derived.Ground.NamesProg
import Derived.Test.YtpfignfgfhbblaaGreatDoorMt05
import Derived.Lib.ValidLaws
import Derived.Lib.DecodeN
import Derived.Lib.TrimUEq
import Derived.Laws.RangeAny
import Derived.WalkKit
import Derived.LoopTactic
import Derived.Laws.RangeString
import Derived.Laws.Strings
import Derived.Laws.Strings2
import Derived.Laws.Strings3
import Derived.Test.YtpfignfgfhbblaaGreatDoorMt08
import Derived.Test.YtpfignfgfhbblaaGreatDoorMt07
/- Each path of each function: on which conditions it is taken, what it gives. Printed by a program (wip/tools/sxexp.lean); Lean checks each. -/
namespace Go.Proofs.YtpfignfgfhbblaaGreatDoorGG
open Go.Proofs Go.Proofs.YtpfignfgfhbblaaGreatDoorGS1
set_option maxRecDepth 100000
set_option linter.unusedVariables false
abbrev pt (x y : Int) : Value := .agg #[.int .i64 x, .int .i64 y]
abbrev pe (x y e : Int) : Value := .tuple #[pt x y, .int .i64 e]
abbrev p2e (x y x' y' e : Int) : Value := .tuple #[pt x y, pt x' y', .int .i64 e]
abbrev fl (n : Nat) : Value := .float .f64 n
abbrev cx (n m : Nat) : Value := .complex .f64 n m
abbrev it (n : Int) : Value := .int .i64 n
abbrev fv (n : Nat) : Value := .func (.func n) #[] #[]
theorem mixed : Tryz.prog.follows .mixedOrders = true := by kernel_rfl
abbrev bd (fn : Func) : Code := fn.body.getD .skip
noncomputable abbrev up : Table := uct Tryz.prog
theorem Right_1 (x y : Int) (h0 : decide (x ≥ -1048576) = true) (h1 : decide (x ≤ 1048576) = true) (h2 : decide (y ≥ -1048576) = true) : Does Tryz.prog 99 [pt x y] (.bool (decide (y ≤ 1048576))) :=
  does_path mixed (fn := Tryz.f99) rfl (by kernel_rfl) 400 [.t, .t, .t, .t, .t, .t, .t, .t, .t, .t, .t, .t] (by kernel_rfl) (cj h0 (cj h0 (cj h0 (cj h0 (cj h1 (cj h1 (cj h1 (cj h1 (cj h2 (cj h2 (cj h2 (cj h2 cj0))))))))))))
theorem Right_2 (x y : Int) (h0 : decide (x ≥ -1048576) = true) (h1 : decide (x ≤ 1048576) = true) (h2 : decide (y ≥ -1048576) = false) : Does Tryz.prog 99 [pt x y] (.bool (false)) :=
  does_path mixed (fn := Tryz.f99) rfl (by kernel_rfl) 400 [.t, .t, .t, .t, .t, .t, .t, .t, .f, .f, .f, .f] (by kernel_rfl) (cj h0 (cj h0 (cj h0 (cj h0 (cj h1 (cj h1 (cj h1 (cj h1 (cj h2 (cj h2 (cj h2 (cj h2 cj0))))))))))))
theorem Right_3 (x y : Int) (h0 : decide (x ≥ -1048576) = true) (h1 : decide (x ≤ 1048576) = false) : Does Tryz.prog 99 [pt x y] (.bool (false)) :=
  does_path mixed (fn := Tryz.f99) rfl (by kernel_rfl) 400 [.t, .t, .t, .t, .f, .f, .f, .f, .l, .f, .f, .l] (by kernel_rfl) (cj h0 (cj h0 (cj h0 (cj h0 (cj h1 (cj h1 (cj h1 (cj h1 (cj (rfl : false = false) (cj (rfl : false = false) cj0))))))))))
theorem Right_4 (x y : Int) (h0 : decide (x ≥ -1048576) = false) : Does Tryz.prog 99 [pt x y] (.bool (false)) :=
  does_path mixed (fn := Tryz.f99) rfl (by kernel_rfl) 400 [.f, .f, .f, .f, .l, .f, .f, .f, .l, .f, .f, .l] (by kernel_rfl) (cj h0 (cj h0 (cj h0 (cj h0 (cj (rfl : false = false) (cj (rfl : false = false) (cj (rfl : false = false) (cj (rfl : false = false) (cj (rfl : false = false) cj0)))))))))
theorem rRight_1 (x y : Int) (h0 : decide (x ≥ -1048576) = true) (h1 : decide (x ≤ 1048576) = true) (h2 : decide (y ≥ -1048576) = true) : Does Tryz.prog 69 [pt x y] (.bool (decide (y ≤ 1048576))) :=
  does_path mixed (fn := Tryz.f69) rfl (by kernel_rfl) 400 [.t, .t, .t, .t, .t, .t, .t, .t, .t, .t, .t, .t] (by kernel_rfl) (cj h0 (cj h0 (cj h0 (cj h0 (cj h1 (cj h1 (cj h1 (cj h1 (cj h2 (cj h2 (cj h2 (cj h2 cj0))))))))))))
theorem rRight_2 (x y : Int) (h0 : decide (x ≥ -1048576) = true) (h1 : decide (x ≤ 1048576) = true) (h2 : decide (y ≥ -1048576) = false) : Does Tryz.prog 69 [pt x y] (.bool (false)) :=
  does_path mixed (fn := Tryz.f69) rfl (by kernel_rfl) 400 [.t, .t, .t, .t, .t, .t, .t, .t, .f, .f, .f, .f] (by kernel_rfl) (cj h0 (cj h0 (cj h0 (cj h0 (cj h1 (cj h1 (cj h1 (cj h1 (cj h2 (cj h2 (cj h2 (cj h2 cj0))))))))))))
theorem rRight_3 (x y : Int) (h0 : decide (x ≥ -1048576) = true) (h1 : decide (x ≤ 1048576) = false) : Does Tryz.prog 69 [pt x y] (.bool (false)) :=
  does_path mixed (fn := Tryz.f69) rfl (by kernel_rfl) 400 [.t, .t, .t, .t, .f, .f, .f, .f, .l, .f, .f, .l] (by kernel_rfl) (cj h0 (cj h0 (cj h0 (cj h0 (cj h1 (cj h1 (cj h1 (cj h1 (cj (rfl : false = false) (cj (rfl : false = false) cj0))))))))))
theorem rRight_4 (x y : Int) (h0 : decide (x ≥ -1048576) = false) : Does Tryz.prog 69 [pt x y] (.bool (false)) :=
  does_path mixed (fn := Tryz.f69) rfl (by kernel_rfl) 400 [.f, .f, .f, .f, .l, .f, .f, .f, .l, .f, .f, .l] (by kernel_rfl) (cj h0 (cj h0 (cj h0 (cj h0 (cj (rfl : false = false) (cj (rfl : false = false) (cj (rfl : false = false) (cj (rfl : false = false) (cj (rfl : false = false) cj0)))))))))
end Go.Proofs.YtpfignfgfhbblaaGreatDoorGG
/- Whole numbers of at most 2^53 as binary floating point: sums, differences and products that stay below that are exact. Plain facts on the model's floats: no program in sight. -/
namespace Go.Fl
open Ieee

theorem signW : double.signWeight = 9223372036854775808 := by rfl
theorem bin : double.binade = 4503599627370496 := by rfl
theorem infR : double.infRung = 9218868437227405312 := by rfl
theorem least : double.leastPlace = -1074 := by rfl

theorem pow_pos (k : Nat) : 0 < 2 ^ k := Nat.two_pow_pos k

/-- 'cut' to the nearest, where nothing is lost. -/
theorem cut_exact (neg : Bool) (k d : Nat) (hk : 0 < k) : Toward.even.cut neg (k * 2 ^ d) d = k := by
  have hd : d ≤ (k * 2 ^ d).log2 + 2 := by
    have h1 : 2 ^ d ≤ k * 2 ^ d := Nat.le_mul_of_pos_left _ hk
    have h2 : k * 2 ^ d < 2 ^ ((k * 2 ^ d).log2 + 1) := Nat.lt_log2_self
    have := (Nat.pow_lt_pow_iff_right (a := 2) (by omega)).1 (Nat.lt_of_le_of_lt h1 h2)
    omega
  unfold Toward.cut
  simp only [Nat.min_eq_left hd, Nat.one_shiftLeft, Nat.mul_div_cancel _ (pow_pos d), Nat.mul_mod_left]
  have hp := pow_pos d
  have h3 : ¬ 2 ^ d < 2 * 0 := by omega
  have h4 : (2 ^ d == 2 * 0) = false := by
    rw [beq_eq_false_iff_ne]
    omega
  simp [h4]

theorem read_word (neg : Bool) (q kept : Nat) (hq : q ≤ 53) (h1 : 4503599627370496 ≤ kept) (h2 : kept < 9007199254740992) :
    double.read (double.word neg (min ((q + 1022) * double.binade + kept) double.infRung)) = .number neg kept ((q : Int) - 52) := by
  have hm : min ((q + 1022) * double.binade + kept) double.infRung = (q + 1022) * 4503599627370496 + kept := by
    rw [bin, infR]
    omega
  rw [hm]
  have hdiv : ((q + 1022) * 4503599627370496 + kept) / 4503599627370496 = q + 1023 := by omega
  have hmod : ((q + 1022) * 4503599627370496 + kept) % 4503599627370496 = kept - 4503599627370496 := by omega
  unfold Format.read Format.word
  simp only [signW, bin, infR, least]
  cases neg
  · have a1 : (((q + 1022) * 4503599627370496 + kept) / 9223372036854775808 % 2 == 1) = false := by
      rw [beq_eq_false_iff_ne]
      omega
    have a2 : ((q + 1022) * 4503599627370496 + kept) % 9223372036854775808 = (q + 1022) * 4503599627370496 + kept := by omega
    simp only [Bool.false_eq_true, if_false, a1, a2, hdiv, hmod]
    rw [if_neg (by omega), if_pos (by omega)]
    rw [show 4503599627370496 + (kept - 4503599627370496) = kept by omega, show (-1074 : Int) + ((q + 1023 - 1 : Nat) : Int) = (q : Int) - 52 by omega]
  · have a1 : ((9223372036854775808 + ((q + 1022) * 4503599627370496 + kept)) / 9223372036854775808 % 2 == 1) = true := by
      rw [beq_iff_eq]
      omega
    have a2 : (9223372036854775808 + ((q + 1022) * 4503599627370496 + kept)) % 9223372036854775808 = (q + 1022) * 4503599627370496 + kept := by
      rw [Nat.add_mod_left]
      exact Nat.mod_eq_of_lt (by omega)
    simp only [if_true, a1, a2, hdiv, hmod]
    rw [if_neg (by omega), if_pos (by omega)]
    rw [show 4503599627370496 + (kept - 4503599627370496) = kept by omega, show (-1074 : Int) + ((q + 1023 - 1 : Nat) : Int) = (q : Int) - 52 by omega]

theorem read_zero (neg : Bool) : double.read (double.word neg 0) = .number neg 0 (-1074) := by
  cases neg <;> rfl

/-- A number that is whole and at most 2^53 is written as it is. -/
theorem read_nearest (neg : Bool) (mag : Nat) (place : Int) (N K : Nat) (hN : 0 < N) (hN2 : N ≤ 2 ^ 53) (hp : -(K : Int) ≤ place)
    (hv : mag * 2 ^ (place + K).toNat = N * 2 ^ K) :
    ∃ m e, double.read (double.nearest neg mag place) = .number neg m e ∧ 0 < m ∧ m < 2 ^ 53 ∧ -52 ≤ e ∧ e ≤ 1 ∧ m * 2 ^ (e + 52).toNat = N * 2 ^ 52 := by
  obtain ⟨p, hpp⟩ : ∃ p : Nat, p = (place + K).toNat := ⟨_, rfl⟩
  rw [← hpp] at hv
  have hpl : place = (p : Int) - K := by omega
  have hmag : 0 < mag := by
    rcases Nat.eq_zero_or_pos mag with h | h
    · subst h
      have := Nat.mul_pos hN (pow_pos K)
      omega
    · exact h
  obtain ⟨L, hL⟩ : ∃ L, L = mag.log2 := ⟨_, rfl⟩
  have l1 : 2 ^ L ≤ mag := by rw [hL]; exact Nat.log2_self_le (by omega)
  have l2 : mag < 2 ^ (L + 1) := by rw [hL]; exact Nat.lt_log2_self
  have b1 : L + p ≤ 53 + K := by
    have h1 : 2 ^ (L + p) ≤ 2 ^ (53 + K) := by
      rw [Nat.pow_add, Nat.pow_add]
      calc 2 ^ L * 2 ^ p ≤ mag * 2 ^ p := Nat.mul_le_mul_right _ l1
        _ = N * 2 ^ K := hv
        _ ≤ 2 ^ 53 * 2 ^ K := Nat.mul_le_mul_right _ hN2
    exact (Nat.pow_le_pow_iff_right (a := 2) (by omega)).1 h1
  have b2 : K ≤ L + p := by
    have h1 : 2 ^ K < 2 ^ (L + 1 + p) := by
      rw [Nat.pow_add]
      calc 2 ^ K ≤ N * 2 ^ K := Nat.le_mul_of_pos_left _ hN
        _ = mag * 2 ^ p := hv.symm
        _ < 2 ^ (L + 1) * 2 ^ p := Nat.mul_lt_mul_of_pos_right l2 (pow_pos p)
    have := (Nat.pow_lt_pow_iff_right (a := 2) (by omega)).1 h1
    omega
  obtain ⟨q, hq⟩ : ∃ q, q + K = L + p := ⟨L + p - K, by omega⟩
  have hlast : max (place + (L : Int) - 52) (-1074) = (q : Int) - 52 := by omega
  -- what is kept
  have hkept : ∃ kept, Toward.even.cut neg (mag <<< (52 - L)) (L - 52) = kept ∧ 2 ^ 52 ≤ kept ∧ kept < 2 ^ 53 ∧ kept * 2 ^ q = N * 2 ^ 52 := by
    have cancel : ∀ kept, kept * 2 ^ q * 2 ^ K = N * 2 ^ 52 * 2 ^ K → kept * 2 ^ q = N * 2 ^ 52 := fun kept h => Nat.eq_of_mul_eq_mul_right (pow_pos K) h
    by_cases hc : L ≤ 52
    · refine ⟨mag * 2 ^ (52 - L), ?_, ?_, ?_, ?_⟩
      · have h0 : L - 52 = 0 := by omega
        rw [h0, Nat.shiftLeft_eq]
        have := cut_exact neg (mag * 2 ^ (52 - L)) 0 (Nat.mul_pos hmag (pow_pos _))
        simpa using this
      · have : 2 ^ 52 = 2 ^ L * 2 ^ (52 - L) := by rw [← Nat.pow_add]; congr 1; omega
        rw [this]
        exact Nat.mul_le_mul_right _ l1
      · have : 2 ^ 53 = 2 ^ (L + 1) * 2 ^ (52 - L) := by rw [← Nat.pow_add]; congr 1; omega
        rw [this]
        exact Nat.mul_lt_mul_of_pos_right l2 (pow_pos _)
      · apply cancel
        rw [Nat.mul_assoc, Nat.mul_assoc, ← Nat.pow_add, ← Nat.pow_add, show 52 - L + (q + K) = p + 52 by omega, Nat.pow_add, ← Nat.mul_assoc, hv]
        rw [Nat.mul_assoc, Nat.mul_assoc, Nat.mul_comm (2 ^ K)]
    · have hdvd : ∃ kept, mag = kept * 2 ^ (L - 52) := by
        by_cases hd : L - 52 + p ≤ K
        · refine ⟨N * 2 ^ (K - p - (L - 52)), ?_⟩
          apply Nat.eq_of_mul_eq_mul_right (pow_pos p)
          rw [hv, Nat.mul_assoc, Nat.mul_assoc, ← Nat.pow_add, ← Nat.pow_add]
          congr 2
          omega
        · have hN3 : N = 2 ^ 53 := by
            have h1 : 2 ^ 53 * 2 ^ K ≤ N * 2 ^ K := by
              rw [← hv, ← Nat.pow_add, show 53 + K = L + p by omega, Nat.pow_add]
              exact Nat.mul_le_mul_right _ l1
            have := Nat.le_of_mul_le_mul_right h1 (pow_pos K)
            omega
          refine ⟨2 ^ 52, ?_⟩
          apply Nat.eq_of_mul_eq_mul_right (pow_pos p)
          rw [hv, hN3, ← Nat.pow_add, ← Nat.pow_add, ← Nat.pow_add]
          congr 1
          omega
      obtain ⟨kept, hk⟩ := hdvd
      have hkp : 0 < kept := by
        rcases Nat.eq_zero_or_pos kept with h | h
        · subst h
          omega
        · exact h
      refine ⟨kept, ?_, ?_, ?_, ?_⟩
      · have h0 : 52 - L = 0 := by omega
        rw [h0, Nat.shiftLeft_zero, hk]
        exact cut_exact neg kept (L - 52) hkp
      · have : 2 ^ 52 * 2 ^ (L - 52) ≤ kept * 2 ^ (L - 52) := by
          rw [← hk, ← Nat.pow_add, show 52 + (L - 52) = L by omega]
          exact l1
        exact Nat.le_of_mul_le_mul_right this (pow_pos _)
      · have : kept * 2 ^ (L - 52) < 2 ^ 53 * 2 ^ (L - 52) := by
          rw [← hk, ← Nat.pow_add, show 53 + (L - 52) = L + 1 by omega]
          exact l2
        exact Nat.lt_of_mul_lt_mul_right this
      · apply cancel
        rw [Nat.mul_assoc, ← Nat.pow_add, show q + K = (L - 52) + (p + 52) by omega, Nat.pow_add, ← Nat.mul_assoc, ← hk, Nat.pow_add, ← Nat.mul_assoc, hv]
        rw [Nat.mul_assoc, Nat.mul_assoc, Nat.mul_comm (2 ^ K)]
  obtain ⟨kept, hcut, k1, k2, k3⟩ := hkept
  refine ⟨kept, (q : Int) - 52, ?_, by omega, k2, by omega, by omega, ?_⟩
  · have hfb : double.fractionBits = 52 := rfl
    unfold Format.nearest
    rw [if_neg (by omega)]
    simp only [hfb, least, ← hL]
    have e52 : ((52 : Nat) : Int) = 52 := rfl
    rw [e52, hlast]
    have e1 : (place - ((q : Int) - 52)).toNat = 52 - L := by omega
    have e2 : ((q : Int) - 52 - place).toNat = L - 52 := by omega
    have e3 : ((q : Int) - 52 - (-1074)).toNat = q + 1022 := by omega
    rw [e1, e2, e3, hcut]
    exact read_word neg q kept (by omega) (Nat.le_trans (by decide) k1) (Nat.lt_of_lt_of_le k2 (by decide))
  · have : ((q : Int) - 52 + 52).toNat = q := by omega
    rw [this, k3]

/-- The bits x stand for the whole number n, of at most 2^53. -/
def Core (s : Bool) (m : Nat) (e n : Int) : Prop :=
  (m = 0 ∧ n = 0 ∧ e = -1074) ∨ (0 < m ∧ m < 2 ^ 53 ∧ -52 ≤ e ∧ e ≤ 1 ∧ m * 2 ^ (e + 52).toNat = n.natAbs * 2 ^ 52 ∧ n.natAbs ≤ 2 ^ 53 ∧ (s = true ↔ n < 0))
def Fl (x : Nat) (n : Int) : Prop := ∃ s m e, double.read x = .number s m e ∧ Core s m e n

/-- What is written of a number whose value is n. -/
theorem fl_write {neg : Bool} {mag : Nat} {place : Int} {n : Int} {K : Nat} (hn : n.natAbs ≤ 2 ^ 53) (hp : -(K : Int) ≤ place)
    (hv : mag * 2 ^ (place + K).toNat = n.natAbs * 2 ^ K) (hs : n ≠ 0 → (neg = true ↔ n < 0)) : Fl (double.nearest neg mag place) n := by
  by_cases h0 : n = 0
  · subst h0
    have hm : mag = 0 := by
      rcases Nat.eq_zero_or_pos mag with h | h
      · exact h
      · have := Nat.mul_pos h (pow_pos (place + K).toNat)
        simp at hv
        omega
    refine ⟨neg, 0, -1074, ?_, .inl ⟨rfl, rfl, rfl⟩⟩
    unfold Format.nearest
    rw [if_pos hm, read_zero]
  · obtain ⟨m, e, h1, h2, h3, h4, h5, h6⟩ := read_nearest neg mag place n.natAbs K (by omega) hn hp hv
    exact ⟨neg, m, e, h1, .inr ⟨h2, h3, h4, h5, h6, hn, hs h0⟩⟩

theorem fl_zero (neg : Bool) (place : Int) : Fl (double.nearest neg 0 place) 0 := by
  refine ⟨neg, 0, -1074, ?_, .inl ⟨rfl, rfl, rfl⟩⟩
  unfold Format.nearest
  rw [if_pos rfl, read_zero]

theorem fl_ofInt (n : Int) (hn : n.natAbs ≤ 2 ^ 53) : Fl (floatOfInt .f64 n) n := by
  refine fl_write (K := 0) hn (by omega) ?_ ?_
  · simp
  · intro _
    simp

/-- Its value, in units as small as one likes. -/
theorem Core.val {s : Bool} {m : Nat} {e n : Int} (h : Core s m e n) (K : Nat) (hK : 1074 ≤ K) :
    -(K : Int) ≤ e ∧ (if s then -(m : Int) else (m : Int)) * 2 ^ (e + K).toNat = n * 2 ^ K := by
  rcases h with ⟨rfl, rfl, rfl⟩ | ⟨h1, h2, h3, h4, h5, h6, h7⟩
  · refine ⟨by omega, ?_⟩
    cases s <;> simp
  · refine ⟨by omega, ?_⟩
    have e1 : (e + K).toNat = (e + 52).toNat + (K - 52) := by omega
    have e2 : m * 2 ^ (e + K).toNat = n.natAbs * 2 ^ K := by
      rw [e1, Nat.pow_add, ← Nat.mul_assoc, h5, Nat.mul_assoc, ← Nat.pow_add]
      congr 2
      omega
    have e3 : (m : Int) * 2 ^ (e + K).toNat = (n.natAbs : Int) * 2 ^ K := by
      have := congrArg (fun z : Nat => (z : Int)) e2
      simpa using this
    cases s
    · have : ¬ n < 0 := by simpa using h7
      simp only [Bool.false_eq_true, if_false]
      rw [e3, Int.natAbs_of_nonneg (by omega)]
    · have : n < 0 := by simpa using h7
      simp only [if_true]
      rw [Int.neg_mul, e3, ← Int.neg_mul]
      congr 1
      omega

theorem signed_eq (s : Bool) (m d : Nat) : signed s m d = (if s then -(m : Int) else (m : Int)) * 2 ^ d := by
  unfold signed
  cases s <;> simp [Nat.shiftLeft_eq, Int.neg_mul]

theorem pow_posI (k : Nat) : (0 : Int) < 2 ^ k := by
  have := pow_pos k
  exact_mod_cast this

theorem neg_of {a c : Int} (p : 0 < c) (h : a * c < 0) : a < 0 := by
  rcases Int.lt_or_le a 0 with h1 | h1
  · exact h1
  · have := Int.mul_nonneg h1 (Int.le_of_lt p)
    omega

theorem sum_core {s t : Bool} {m k : Nat} {i j a b : Int} (ha : Core s m i a) (hb : Core t k j b) (hr : (a + b).natAbs ≤ 2 ^ 53) :
    ∃ d, (Datum.number s m i).sum (.number t k j) = some d ∧ Fl (double.write d) (a + b) := by
  obtain ⟨K, hK⟩ : ∃ K : Nat, K = 1074 := ⟨_, rfl⟩
  obtain ⟨a1, a2⟩ := ha.val K (by omega)
  obtain ⟨b1, b2⟩ := hb.val K (by omega)
  refine ⟨_, rfl, ?_⟩
  obtain ⟨base, hbase⟩ : ∃ z, z = min i j := ⟨_, rfl⟩
  rw [← hbase]
  obtain ⟨T, hT⟩ : ∃ T, T = signed s m (i - base).toNat + signed t k (j - base).toNat := ⟨_, rfl⟩
  rw [← hT]
  have hv : T * 2 ^ (base + K).toNat = (a + b) * 2 ^ K := by
    rw [hT, signed_eq, signed_eq, Int.add_mul, Int.mul_assoc, Int.mul_assoc, ← Int.pow_add, ← Int.pow_add,
      show (i - base).toNat + (base + K).toNat = (i + K).toNat by omega, show (j - base).toNat + (base + K).toNat = (j + K).toNat by omega, a2, b2, Int.add_mul]
  have hn : T.natAbs * 2 ^ (base + K).toNat = (a + b).natAbs * 2 ^ K := by
    have := congrArg Int.natAbs hv
    rw [Int.natAbs_mul, Int.natAbs_mul, Int.natAbs_pow, Int.natAbs_pow] at this
    simpa using this
  have p1 := pow_posI (base + K).toNat
  have p2 := pow_posI K
  have hsg : a + b ≠ 0 → (T ≠ 0 ∧ (T < 0 ↔ a + b < 0)) := by
    intro h0
    have t0 : T ≠ 0 := by
      rintro rfl
      rw [Int.zero_mul] at hv
      rcases Int.mul_eq_zero.1 hv.symm with h | h
      · exact h0 h
      · omega
    refine ⟨t0, ⟨fun h => ?_, fun h => ?_⟩⟩
    · have := Int.mul_neg_of_neg_of_pos h p1
      rw [hv] at this
      exact neg_of p2 this
    · have := Int.mul_neg_of_neg_of_pos h p2
      rw [← hv] at this
      exact neg_of p1 this
  refine fl_write (K := K) hr (by omega) hn ?_
  intro h0
  obtain ⟨t0, t1⟩ := hsg h0
  rw [if_neg t0]
  simpa using t1

theorem core_neg {s : Bool} {m : Nat} {e n : Int} (h : Core s m e n) : Core (!s) m e (-n) := by
  rcases h with ⟨h1, h2, h3⟩ | ⟨h1, h2, h3, h4, h5, h6, h7⟩
  · exact .inl ⟨h1, by omega, h3⟩
  · refine .inr ⟨h1, h2, h3, h4, by rw [Int.natAbs_neg]; exact h5, by rw [Int.natAbs_neg]; exact h6, ?_⟩
    have : n ≠ 0 := by
      rintro rfl
      have := Nat.mul_pos h1 (pow_pos (e + 52).toNat)
      simp at h5
      omega
    cases s
    · simp at h7 ⊢
      omega
    · simp at h7 ⊢
      omega

theorem fl_add {x y : Nat} {a b : Int} (hx : Fl x a) (hy : Fl y b) (hr : (a + b).natAbs ≤ 2 ^ 53) : ∃ r, floatBits .add .f64 x y = some r ∧ Fl r (a + b) := by
  obtain ⟨s, m, i, e1, h1⟩ := hx
  obtain ⟨t, k, j, e2, h2⟩ := hy
  obtain ⟨d, hd, hf⟩ := sum_core h1 h2 hr
  refine ⟨double.write d, ?_, hf⟩
  show double.add x y = _
  unfold Format.add
  rw [e1, e2, hd]
  rfl

theorem fl_sub {x y : Nat} {a b : Int} (hx : Fl x a) (hy : Fl y b) (hr : (a - b).natAbs ≤ 2 ^ 53) : ∃ r, floatBits .sub .f64 x y = some r ∧ Fl r (a - b) := by
  obtain ⟨s, m, i, e1, h1⟩ := hx
  obtain ⟨t, k, j, e2, h2⟩ := hy
  obtain ⟨d, hd, hf⟩ := sum_core h1 (core_neg h2) (by rw [← Int.sub_eq_add_neg]; exact hr)
  refine ⟨double.write d, ?_, by rw [Int.sub_eq_add_neg]; exact hf⟩
  show double.sub x y = _
  unfold Format.sub
  rw [e1, e2]
  show Option.map double.write ((Datum.number s m i).sum (.number (!t) k j)) = _
  rw [hd]
  rfl

theorem fl_mul {x y : Nat} {a b : Int} (hx : Fl x a) (hy : Fl y b) (hr : (a * b).natAbs ≤ 2 ^ 53) : ∃ r, floatBits .mul .f64 x y = some r ∧ Fl r (a * b) := by
  obtain ⟨s, m, i, e1, h1⟩ := hx
  obtain ⟨t, k, j, e2, h2⟩ := hy
  have hval : floatBits .mul .f64 x y = some (double.nearest (s ^^ t) (m * k) (i + j)) := by
    show double.mul x y = _
    unfold Format.mul
    rw [e1, e2]
    rfl
  refine ⟨_, hval, ?_⟩
  rcases h1 with ⟨rfl, rfl, rfl⟩ | ⟨a1, a2, a3, a4, a5, a6, a7⟩
  · rw [Nat.zero_mul, Int.zero_mul]
    exact fl_zero _ _
  · rcases h2 with ⟨rfl, rfl, rfl⟩ | ⟨b1, b2, b3, b4, b5, b6, b7⟩
    · rw [Nat.mul_zero, Int.mul_zero]
      exact fl_zero _ _
    · have na : a ≠ 0 := by
        rintro rfl
        have := Nat.mul_pos a1 (pow_pos (i + 52).toNat)
        simp at a5
        omega
      have nb : b ≠ 0 := by
        rintro rfl
        have := Nat.mul_pos b1 (pow_pos (j + 52).toNat)
        simp at b5
        omega
      refine fl_write (K := 104) hr (by omega) ?_ ?_
      · have e : (i + j + (104 : Nat)).toNat = (i + 52).toNat + (j + 52).toNat := by omega
        rw [e, Nat.pow_add, Int.natAbs_mul]
        have : m * k * (2 ^ (i + 52).toNat * 2 ^ (j + 52).toNat) = (m * 2 ^ (i + 52).toNat) * (k * 2 ^ (j + 52).toNat) := by
          rw [Nat.mul_assoc, Nat.mul_assoc]
          congr 1
          rw [← Nat.mul_assoc, ← Nat.mul_assoc, Nat.mul_comm k]
        rw [this, a5, b5, show (104 : Nat) = 52 + 52 from rfl, Nat.pow_add, Nat.mul_assoc, Nat.mul_assoc]
        congr 1
        rw [← Nat.mul_assoc, ← Nat.mul_assoc, Nat.mul_comm (2 ^ 52)]
      · intro _
        have sa : s = decide (a < 0) := by
          cases s
          · simp at a7 ⊢
            omega
          · simp at a7 ⊢
            omega
        have sb : t = decide (b < 0) := by
          cases t
          · simp at b7 ⊢
            omega
          · simp at b7 ⊢
            omega
        rw [sa, sb]
        by_cases ha : a < 0 <;> by_cases hb : b < 0
        · simp [ha, hb]
          exact Int.le_of_lt (Int.mul_pos_of_neg_of_neg ha hb)
        · simp [ha, hb]
          exact Int.mul_neg_of_neg_of_pos ha (by omega)
        · simp [ha, hb]
          exact Int.mul_neg_of_pos_of_neg (by omega) hb
        · simp [ha, hb]
          exact Int.le_of_lt (Int.mul_pos (by omega) (by omega))

/-- Two that stand for whole numbers stand to each other as these do. -/
theorem fl_order {x y : Nat} {a b : Int} (hx : Fl x a) (hy : Fl y b) : double.order x y = some (compare a b) := by
  obtain ⟨s, m, i, e1, h1⟩ := hx
  obtain ⟨t, k, j, e2, h2⟩ := hy
  obtain ⟨K, hK⟩ : ∃ K : Nat, K = 1074 := ⟨_, rfl⟩
  obtain ⟨a1, a2⟩ := h1.val K (by omega)
  obtain ⟨b1, b2⟩ := h2.val K (by omega)
  unfold Format.order
  rw [e1, e2]
  show some (compare (signed s m (i - min i j).toNat) (signed t k (j - min i j).toNat)) = _
  obtain ⟨base, hbase⟩ : ∃ z, z = min i j := ⟨_, rfl⟩
  rw [← hbase]
  have p1 := pow_posI (base + K).toNat
  have p2 := pow_posI K
  have ea : signed s m (i - base).toNat * 2 ^ (base + K).toNat = a * 2 ^ K := by
    rw [signed_eq, Int.mul_assoc, ← Int.pow_add, show (i - base).toNat + (base + K).toNat = (i + K).toNat by omega, a2]
  have eb : signed t k (j - base).toNat * 2 ^ (base + K).toNat = b * 2 ^ K := by
    rw [signed_eq, Int.mul_assoc, ← Int.pow_add, show (j - base).toNat + (base + K).toNat = (j + K).toNat by omega, b2]
  generalize signed s m (i - base).toNat = A at *
  generalize signed t k (j - base).toNat = B at *
  have hlt : A < B ↔ a < b := by
    constructor
    · intro h
      have := Int.mul_lt_mul_of_pos_right h p1
      rw [ea, eb] at this
      exact Int.lt_of_mul_lt_mul_right this (by omega)
    · intro h
      have := Int.mul_lt_mul_of_pos_right h p2
      rw [← ea, ← eb] at this
      exact Int.lt_of_mul_lt_mul_right this (by omega)
  have heq : A = B ↔ a = b := by
    constructor
    · rintro rfl
      exact Int.eq_of_mul_eq_mul_right (by omega) (ea.symm.trans eb)
    · rintro rfl
      exact Int.eq_of_mul_eq_mul_right (by omega) (ea.trans eb.symm)
  congr 1
  simp only [compare, compareOfLessAndEq, hlt, heq]

/-- As an integer. -/
theorem fl_toInt {x : Nat} {n : Int} (hx : Fl x n) : (double.read x).toInt .zero = some n := by
  obtain ⟨s, m, e, e1, h1⟩ := hx
  rw [e1]
  show some (signed s (Toward.zero.cut s (m <<< e.toNat) (-e).toNat) 0) = some n
  congr 1
  rcases h1 with ⟨rfl, rfl, rfl⟩ | ⟨h1, h2, h3, h4, h5, h6, h7⟩
  · cases s <;> simp [signed, Toward.cut]
  · have hcut : Toward.zero.cut s (m <<< e.toNat) (-e).toNat = n.natAbs := by
      by_cases he : 0 ≤ e
      · have e0 : (-e).toNat = 0 := by omega
        have e2 : (e + 52).toNat = e.toNat + 52 := by omega
        rw [e2, Nat.pow_add, ← Nat.mul_assoc] at h5
        have := Nat.eq_of_mul_eq_mul_right (pow_pos 52) h5
        rw [e0, Nat.shiftLeft_eq, this]
        unfold Toward.cut
        simp
      · have e0 : e.toNat = 0 := by omega
        obtain ⟨d, hd⟩ : ∃ d, d = (-e).toNat := ⟨_, rfl⟩
        have e2 : 52 = (e + 52).toNat + d := by omega
        have hm : m = n.natAbs * 2 ^ d := by
          apply Nat.eq_of_mul_eq_mul_right (pow_pos (e + 52).toNat)
          rw [h5, Nat.mul_assoc, ← Nat.pow_add, Nat.add_comm d, ← e2]
        have hn : 0 < n.natAbs := by
          rcases Nat.eq_zero_or_pos n.natAbs with h | h
          · rw [h] at hm
            omega
          · exact h
        rw [e0, ← hd, Nat.shiftLeft_zero, hm]
        have hle : d ≤ (n.natAbs * 2 ^ d).log2 + 2 := by
          have g1 : 2 ^ d ≤ n.natAbs * 2 ^ d := Nat.le_mul_of_pos_left _ hn
          have g2 : n.natAbs * 2 ^ d < 2 ^ ((n.natAbs * 2 ^ d).log2 + 1) := Nat.lt_log2_self
          have := (Nat.pow_lt_pow_iff_right (a := 2) (by omega)).1 (Nat.lt_of_le_of_lt g1 g2)
          omega
        unfold Toward.cut
        simp only [Nat.min_eq_left hle, Nat.one_shiftLeft, Nat.mul_div_cancel _ (pow_pos d)]
        simp
    rw [hcut]
    unfold signed
    cases s
    · have : ¬ n < 0 := by simpa using h7
      simp
      omega
    · have : n < 0 := by simpa using h7
      simp
      omega

theorem fl_int {x : Nat} {n : Int} (hx : Fl x n) (h0 : -9223372036854775808 ≤ n) (h1 : n ≤ 9223372036854775807) : floatToIntVal .f64 x .i64 = some n := by
  unfold floatToIntVal
  have : (FloatKind.f64.decode x).toInt .zero = some n := fl_toInt hx
  rw [this]
  have e0 : IntKind.i64.min = -9223372036854775808 := by rfl
  have e1 : IntKind.i64.max = 9223372036854775807 := by rfl
  exact if_pos ⟨by rw [e0]; exact h0, by rw [e1]; exact h1⟩

end Go.Fl
/- What the functions of gauss come to. -/
namespace Go.Proofs.YtpfignfgfhbblaaGreatDoorGG
open Go.Proofs Go.Proofs.YtpfignfgfhbblaaGreatDoorGS1 Go.Fl
set_option maxRecDepth 100000
def rt (x y : Int) : Bool := decide (x ≥ -1048576) && (decide (x ≤ 1048576) && (decide (y ≥ -1048576) && decide (y ≤ 1048576)))
theorem rt_iff {x y : Int} : rt x y = true ↔ (-1048576 ≤ x ∧ x ≤ 1048576 ∧ -1048576 ≤ y ∧ y ≤ 1048576) := by
  simp [rt]
theorem Right_spec (x y : Int) : Does Tryz.prog 99 [pt x y] (.bool (rt x y)) := by
  unfold rt
  cases h0 : decide (x ≥ -1048576) with
  | false => exact Right_4 x y h0
  | true =>
    cases h1 : decide (x ≤ 1048576) with
    | false => exact Right_3 x y h0 h1
    | true =>
      cases h2 : decide (y ≥ -1048576) with
      | false => exact Right_2 x y h0 h1 h2
      | true => exact Right_1 x y h0 h1 h2
theorem rRight_spec (x y : Int) : Does Tryz.prog 69 [pt x y] (.bool (rt x y)) := by
  unfold rt
  cases h0 : decide (x ≥ -1048576) with
  | false => exact rRight_4 x y h0
  | true =>
    cases h1 : decide (x ≤ 1048576) with
    | false => exact rRight_3 x y h0 h1
    | true =>
      cases h2 : decide (y ≥ -1048576) with
      | false => exact rRight_2 x y h0 h1 h2
      | true => exact rRight_1 x y h0 h1 h2
theorem mul_bound {x y : Int} {A B : Nat} (hx : x.natAbs ≤ A) (hy : y.natAbs ≤ B) : (x * y).natAbs ≤ A * B := by
  rw [Int.natAbs_mul]
  exact Nat.mul_le_mul hx hy
theorem cmul_bound {x y : Int} (hx : x.natAbs ≤ 1048576) (hy : y.natAbs ≤ 1048576) : (x * y).natAbs ≤ 1099511627776 := mul_bound hx hy
/-- What 'both' answers, the exact result being (X, Y). -/
def ans (x y z u X Y : Int) : Value := bif rt x y && rt z u then (bif rt X Y then pe X Y 0 else pe 0 0 32) else pe 0 0 1
end Go.Proofs.YtpfignfgfhbblaaGreatDoorGG
/-
  DERIVED: THE SHELF's CONTRACTS AT THIS DUMP, IN PLAIN WORDS (tools/lay-plain.mjs out of 'YtpfignfgfhbblaaGreatDoorSLx.lean', which tools/lay-shelf.mjs wrote): THE SAME DECLARATIONS UNDER THE SAME NAMES: 'import', 'namespace', 'open', 'def', 'theorem' AND NOTHING ELSE: no command of the shelf's: FOR A HAND-IN. Each laying: the table of numbers ('.._ren') and one theorem, a field a fact of the dump's own or the kernel's comparison; each contract: ONE APPLICATION.
-/
namespace Go.Proofs
open Go.Shelf
def Tryz.laysValid_ren : Go.Shelf.Ren := ⟨fun | 196 => 98 | 259 => 156 | n => n, fun | 9 => 9 | 4 => 4 | 3 => 3 | 5 => 5 | 12 => 12 | 119 => 197 | 0 => 0 | 46 => 172 | 139 => 200 | 138 => 199 | 53 => 121 | n => n, fun | 3 => 0 | 4 => 1 | n => n⟩
theorem Tryz.laysValid : Go.Proofs.Lays.n196 Tryz.prog Tryz.laysValid_ren := {
  mixed := by kernel_rfl
  f196 := Tryz.func98.trans (congrArg some (by kernel_rfl))
  f259 := Tryz.func156.trans (congrArg some (by kernel_rfl))
  t0 := Tryz.underlying0
  a0 := Tryz.isAgg0
  z0 := Tryz.sizeOf0
  v0 := Tryz.zeroValue0
  t3 := Tryz.underlying3
  a3 := Tryz.isAgg3
  z3 := Tryz.sizeOf3
  v3 := Tryz.zeroValue3
  t4 := Tryz.underlying4
  a4 := Tryz.isAgg4
  z4 := Tryz.sizeOf4
  v4 := Tryz.zeroValue4
  t5 := Tryz.underlying5
  a5 := Tryz.isAgg5
  z5 := Tryz.sizeOf5
  v5 := Tryz.zeroValue5
  t9 := Tryz.underlying9
  a9 := Tryz.isAgg9
  z9 := Tryz.sizeOf9
  v9 := Tryz.zeroValue9
  t12 := Tryz.underlying12
  a12 := Tryz.isAgg12
  z12 := Tryz.sizeOf12
  v12 := Tryz.zeroValue12
  t46 := Tryz.underlying172
  a46 := Tryz.isAgg172
  z46 := Tryz.sizeOf172
  v46 := Tryz.zeroValue172
  t53 := Tryz.underlying121
  a53 := Tryz.isAgg121
  z53 := Tryz.sizeOf121
  v53 := Tryz.zeroValue121
  t119 := Tryz.underlying197
  a119 := Tryz.isAgg197
  z119 := Tryz.sizeOf197
  t138 := Tryz.underlying199
  a138 := Tryz.isAgg199
  z138 := Tryz.sizeOf199
  v138 := Tryz.zeroValue199
  t139 := Tryz.underlying200
  a139 := Tryz.isAgg200
  z139 := Tryz.sizeOf200
  v139 := Tryz.zeroValue200
  g3 := by kernel_rfl
  g4 := by kernel_rfl }
end Go.Proofs
/- The tables of unicode/utf8, and utf8.ValidString, told. -/
namespace Go.Proofs.YtpfignfgfhbblaaGreatDoorC
open Go.Proofs Go.Proofs.YtpfignfgfhbblaaGreatDoorSx Go.RowKit Go.Lib
set_option maxRecDepth 100000
theorem tabs_in {w : World} (h : GlobIn cE w) : Lib.Utf8Tabs 0 1 w := by
  obtain ⟨t, f, hb⟩ := h.1 0 _ rfl
  obtain ⟨t2, f2, hb2⟩ := h.1 1 _ rfl
  refine ⟨fun c hc => ?_, fun i hi => ?_⟩
  · rw [cell_of_row w _ c _ t f hb]
    simp [firstL, hc]
  · have acc : ∀ k : _root_.Fin 16, accL[2 * k.val]? = some ((accLo k.val : Nat) : Int) ∧ accL[2 * k.val + 1]? = some ((accHi k.val : Nat) : Int) := by decide
    obtain ⟨a1, a2⟩ := acc ⟨i, hi⟩
    rw [cell_of_row w _ _ _ t2 f2 hb2, cell_of_row w _ _ _ t2 f2 hb2]
    simp only at a1 a2
    exact ⟨by simp [a1], by simp [a2]⟩
theorem vstr_does (s : ByteArray) (hs : s.size ≤ 140737488351232) : Does cE 98 [] 0 [.v (st s)] (.v (.bool (validD s.data.toList))) [] 0 :=
  does_lib (l := [st s]) (enters (fn := Tryz.f98) rfl (by kernel_rfl) rfl) (fun w hg => Any.utf8_ValidString Tryz.laysValid s w (by omega) (tabs_in hg))
end Go.Proofs.YtpfignfgfhbblaaGreatDoorC
/- Good UTF-8 in the reference's words: what its loop over runes comes to is what utf8.ValidString says. -/
namespace Go.Proofs.YtpfignfgfhbblaaGreatDoorC
open Go.Lib
set_option linter.unusedVariables false
/-- The three bytes of the rune 65533 stand at a place. -/
def three (s : ByteArray) (i : Nat) : Bool := decide (i + 3 ≤ s.size) && ((s.data.toList.drop i).take 3 == [239, 191, 189])
theorem dec_bad (n b0 b1 b2 b3 : Nat) (h0 : b0 < 256) (h1 : b1 < 256) (h2 : b2 < 256) (h3 : b3 < 256) (h : (decodeN n b0 b1 b2 b3).1 = 65533) : ((decodeN n b0 b1 b2 b3).2 = 1 ↔ ¬ (3 ≤ n ∧ b0 = 239 ∧ b1 = 191 ∧ b2 = 189)) := by
  constructor
  · rintro h2' ⟨q0, q1, q2, q3⟩
    subst q1 q2 q3
    have e : decodeN n 239 191 189 b3 = (65533, 3) := by
      unfold decodeN
      rw [if_neg (by omega), if_neg (by omega), if_pos (by omega), if_pos (by omega)]
    rw [e] at h2'
    cases h2'
  · intro hn
    unfold decodeN at h ⊢
    split at h
    · simp only at h
      omega
    rename_i c1
    rw [if_neg c1]
    split at h
    · rename_i c2
      rw [if_pos c2]
      split at h
      · simp only at h
        omega
      · rename_i c3
        rw [if_neg c3]
    rename_i c2
    rw [if_neg c2]
    split at h
    · rename_i c4
      rw [if_pos c4]
      split at h
      · simp only at h
        exact (hn ⟨by omega, by omega, by omega, by omega⟩).elim
      · rename_i c5
        rw [if_neg c5]
    rename_i c4
    rw [if_neg c4]
    split at h
    · rename_i c6
      rw [if_pos c6]
      split at h
      · simp only at h
        omega
      · rename_i c7
        rw [if_neg c7]
    rename_i c6
    rw [if_neg c6]
theorem get_list (s : ByteArray) (i : Nat) (h : i < s.size) : s.data.toList[i]? = some (s.get! i) := by
  have h2 : i < s.data.toList.length := by rw [Array.length_toList]; exact h
  rw [List.getElem?_eq_getElem h2]
  have : s.get! i = s[i]'h := by
    have := get_at s i h
    simpa using this
  rw [this]
  rfl
theorem three_iff (s : ByteArray) (i : Nat) : three s i = true ↔ (i + 3 ≤ s.size ∧ (s.get! i).toNat = 239 ∧ (s.get! (i + 1)).toNat = 191 ∧ (s.get! (i + 2)).toNat = 189) := by
  unfold three
  rw [Bool.and_eq_true, decide_eq_true_eq]
  constructor
  · rintro ⟨h, e⟩
    refine ⟨h, ?_⟩
    have g0 := get_list s i (by omega)
    have g1 := get_list s (i + 1) (by omega)
    have g2 := get_list s (i + 2) (by omega)
    have e' := eq_of_beq e
    have t : ∀ j, j < 3 → ((s.data.toList.drop i).take 3)[j]? = s.data.toList[i + j]? := fun j hj => by rw [List.getElem?_take_of_lt hj, List.getElem?_drop]
    have t0 := t 0 (by decide)
    have t1 := t 1 (by decide)
    have t2 := t 2 (by decide)
    rw [e'] at t0 t1 t2
    rw [Nat.add_zero, g0] at t0
    rw [g1] at t1
    rw [g2] at t2
    simp at t0 t1 t2
    rw [← t0, ← t1, ← t2]
    decide
  · rintro ⟨h, a0, a1, a2⟩
    refine ⟨h, ?_⟩
    have g0 := get_list s i (by omega)
    have g1 := get_list s (i + 1) (by omega)
    have g2 := get_list s (i + 2) (by omega)
    have c0 : s.get! i = 239 := UInt8.toNat_inj.1 a0
    have c1 : s.get! (i + 1) = 191 := UInt8.toNat_inj.1 a1
    have c2 : s.get! (i + 2) = 189 := UInt8.toNat_inj.1 a2
    have hl : s.data.toList.length = s.size := Array.length_toList
    have d0 : s.data.toList.drop i = 239 :: s.data.toList.drop (i + 1) := by
      rw [List.drop_eq_getElem_cons (by omega)]
      congr 1
      rw [List.getElem?_eq_getElem (by omega), c0] at g0
      simpa using g0
    have d1 : s.data.toList.drop (i + 1) = 191 :: s.data.toList.drop (i + 2) := by
      rw [List.drop_eq_getElem_cons (by omega)]
      congr 1
      rw [List.getElem?_eq_getElem (by omega), c1] at g1
      simpa using g1
    have d2 : s.data.toList.drop (i + 2) = 189 :: s.data.toList.drop (i + 3) := by
      rw [List.drop_eq_getElem_cons (by omega)]
      congr 1
      rw [List.getElem?_eq_getElem (by omega), c2] at g2
      simpa using g2
    rw [d0, d1, d2]
    rfl
/-- A round of the loop. -/
theorem good_step (s : ByteArray) (i : Nat) (h : i < s.size) : validD (s.data.toList.drop i) = if (Utf8.decode s i).1 = 65533 ∧ three s i = false then false else validD (s.data.toList.drop (i + (Utf8.decode s i).2)) := by
  have hl : s.data.toList.length = s.size := Array.length_toList
  have hne : s.data.toList.drop i ≠ [] := by
    intro e
    have := congrArg List.length e
    rw [List.length_drop] at this
    simp at this
    omega
  rw [validD_step _ hne, decodeL_drop, List.drop_drop]
  have key : (Utf8.decode s i).1 = 65533 → ((Utf8.decode s i).2 = 1 ↔ three s i = false) := by
    intro h1
    rw [decode_at] at h1 ⊢
    rw [dec_bad _ _ _ _ _ (UInt8.toNat_lt _) (UInt8.toNat_lt _) (UInt8.toNat_lt _) (UInt8.toNat_lt _) h1]
    constructor
    · intro hn
      cases ht : three s i with
      | false => rfl
      | true =>
        obtain ⟨q0, q1, q2, q3⟩ := (three_iff s i).1 ht
        exact (hn ⟨by omega, q1, q2, q3⟩).elim
    · rintro ht ⟨q0, q1, q2, q3⟩
      have := (three_iff s i).2 ⟨by omega, q1, q2, q3⟩
      rw [this] at ht
      cases ht
  by_cases h1 : (Utf8.decode s i).1 = 65533
  · by_cases h2 : (Utf8.decode s i).2 = 1
    · rw [if_pos ⟨h1, h2⟩, if_pos ⟨h1, (key h1).1 h2⟩]
    · rw [if_neg (fun e => h2 e.2), if_neg (fun e => h2 ((key h1).2 e.2))]
  · rw [if_neg (fun e => h1 e.1), if_neg (fun e => h1 e.1)]
end Go.Proofs.YtpfignfgfhbblaaGreatDoorC
/- The reference's Good: a walk of its loop over runes. -/
namespace Go.Proofs.YtpfignfgfhbblaaGreatDoorC
open Go.Proofs Go.RowKit Go.Lib
set_option linter.unusedVariables false
set_option linter.unusedSimpArgs false
theorem width_pos (s : ByteArray) (pos : Nat) (h : pos < s.size) : 1 ≤ (Utf8.decode s pos).2 := by
  by_cases ha : (s[pos]'h).toNat < 128
  · rw [decode_ascii s pos h ha]
    exact Nat.le_refl _
  · exact (decode_high s pos h (by omega)).2
set_option maxRecDepth 1000000 in
set_option maxHeartbeats 4000000 in
theorem good_calls (s : ByteArray) (hs : s.size ≤ 140737488351232) (w : World) : Calls Tryz.prog 68 #[.string s] w fun e w' => e = .returned (.bool (validD s.data.toList)) ∧ ∃ pos, w' = w.iter s pos := by
  go_enter Tryz.func68, Tryz.ntmps68
  go_wp2
  go_loopw [] (fun w' => ∃ pos : Nat, w' = w.iter s pos ∧ validD (s.data.toList.drop pos) = validD s.data.toList) (fun w' => s.size - w'.iterPos w.heap.size)
  case atStart => exact ⟨0, rfl, rfl⟩
  case round =>
    obtain ⟨pos, rfl, hc⟩ := hrel
    by_cases hp : pos < s.size
    · have hnx : ∀ ty, (Instr.next (.pointer (some ⟨w.heap.size, 0, none⟩)) true ty).run Tryz.prog (w.iter s pos) = _ := fun ty => run_next_any w s pos ty hp
      have hwd := width_pos s pos hp
      have hst := good_step s pos hp
      rw [hc] at hst
      have hw3 : Go.RowKit.wrap64 ((pos : Int) + 3) = (pos : Int) + 3 := by unfold Go.RowKit.wrap64; omega
      by_cases h1 : ((Utf8.decode s pos).1 : Int) = 65533
      · have h1n : (Utf8.decode s pos).1 = 65533 := by omega
        by_cases h3 : (s.size : Int) < Go.RowKit.wrap64 ((pos : Int) + 3)
        · have h3' : (s.size : Int) < (pos : Int) + 3 := by rw [← hw3]; exact h3
          have ht : three s pos = false := by
            unfold three
            have : ¬ pos + 3 ≤ s.size := by omega
            simp [this]
          rw [if_pos ⟨h1n, ht⟩] at hst
          go_wp2
          go_ret
          rw [hst]
          exact ⟨rfl, _, rfl⟩
        · have h3' : pos + 3 ≤ s.size := by rw [hw3] at h3; omega
          have hsl : ∀ W, (Instr.slice 9 (.string s) (some (.int .i64 (pos : Int))) (some (.int .i64 ((pos : Int) + 3))) none).run Tryz.prog W = .ok (.string (s.extract pos (pos + 3))) W := by
            intro W
            have h9 : Tryz.prog.underlying 9 = some .string := by kernel_rfl
            have e1 : ((pos : Int) + 3).toNat = pos + 3 := by omega
            have b1 : (pos : Int) + 3 ≤ (s.size : Int) := by omega
            have b2 : (0 : Int) ≤ (pos : Int) + 3 := by omega
            have b3 : (0 : Int) ≤ (pos : Int) ∧ (pos : Int) ≤ ((pos + 3 : Nat) : Int) := by omega
            have b4 : (Instr.sliceBound (.int .i64 (pos : Int)) (pos + 3) BoundsCode.sliceB).run Tryz.prog W = .ok pos W := by
              rw [run_sliceBound]
              all_goals first | exact b3.1 | exact b3.2 | simp | omega
            simp [Instr.slice, run_underlying h9, Instr.sliceBounds, run_sliceBound, b1, b2, e1]
            simpa using congrArg (fun r => r.andThen fun a w' => Result.ok (Value.string (s.extract a (pos + 3))) w') b4
          have hl : (s.extract pos (pos + 3)).toList = (s.data.toList.drop pos).take 3 := by
            rw [ByteArray.toList_eq, ByteArray.data_extract]
            simp [List.extract_eq_take_drop]
          have hlit : (ByteArray.mk #[239, 191, 189]).toList = [239, 191, 189] := by rw [ByteArray.toList_eq]
          have d1 : ((s.size : Int) < (pos : Int) + 3) = False := by
            rw [eq_iff_iff]
            constructor
            · intro e
              omega
            · intro e
              exact e.elim
          by_cases ht : three s pos = true
          · have hne : (!((s.extract pos (pos + 3)).toList == (ByteArray.mk #[239, 191, 189]).toList)) = false := by
              unfold three at ht
              rw [Bool.and_eq_true] at ht
              rw [hl, hlit, ht.2]
              rfl
            have q1 : (List.take 3 (List.drop pos s.data.toList) == [239, 191, 189]) = true := by
              unfold three at ht
              rw [Bool.and_eq_true] at ht
              exact ht.2
            have h1n2 : ¬ ((Utf8.decode s pos).1 = 65533 ∧ three s pos = false) := fun e => by rw [ht] at e; cases e.2
            rw [if_neg h1n2] at hst
            go_wp2
            go_roundw
            case rel => exact ⟨_, rfl, hst.symm⟩
            case measure =>
              simp
              omega
          · have ht2 : three s pos = false := by simpa using ht
            have hne : (!((s.extract pos (pos + 3)).toList == (ByteArray.mk #[239, 191, 189]).toList)) = true := by
              unfold three at ht2
              rw [Bool.and_eq_false_iff] at ht2
              rcases ht2 with e | e
              · simp at e
                omega
              · rw [hl, hlit, e]
                rfl
            have q1 : (List.take 3 (List.drop pos s.data.toList) == [239, 191, 189]) = false := by
              rw [hl, hlit] at hne
              simpa using hne
            rw [if_pos ⟨h1n, ht2⟩] at hst
            go_wp2
            go_ret
            refine ⟨?_, _, rfl⟩
            simp only [hst]
            rfl
      · have h1n : ¬ ((Utf8.decode s pos).1 = 65533 ∧ three s pos = false) := fun e => h1 (by omega)
        rw [if_neg h1n] at hst
        go_wp2
        go_roundw
        case rel => exact ⟨_, rfl, hst.symm⟩
        case measure =>
          simp
          omega
    · have hnx : ∀ ty, (Instr.next (.pointer (some ⟨w.heap.size, 0, none⟩)) true ty).run Tryz.prog (w.iter s pos) = _ := fun ty => run_next_end w s pos ty hp
      go_wp2
      go_ret
      rw [← hc, List.drop_of_length_le (by rw [Array.length_toList]; show s.size ≤ pos; omega)]
      exact ⟨rfl, _, rfl⟩
end Go.Proofs.YtpfignfgfhbblaaGreatDoorC
/- The leaves' contracts: what may be, of decimals, points, texts. -/
namespace Go.Proofs.YtpfignfgfhbblaaGreatDoorC
open Go.Proofs Go.Proofs.YtpfignfgfhbblaaGreatDoorSx Go.RowKit Go.Lib
set_option maxRecDepth 100000
set_option linter.unusedVariables false
set_option linter.unusedSimpArgs false
abbrev rt (x y : Int) : Bool := Go.Proofs.YtpfignfgfhbblaaGreatDoorGG.rt x y
theorem pright_does (u x : Int) : Does cE 97 [] 0 [.v (dc u x)] (.v (.bool ((0 ≤ x ∧ x ≤ 6 : Prop) : Bool))) [] 0 := by
  have h := scales_does [x] (by simp)
  have e : [x].all inS = decide (0 ≤ x ∧ x ≤ 6) := by simp
  rw [e] at h
  exact prgt_1 u x _ h
theorem gright_does (x y : Int) : Does cE 99 [] 0 [.v (dc x y)] (.v (.bool (rt x y))) [] 0 := does_run (l := [dc x y]) (Go.Proofs.YtpfignfgfhbblaaGreatDoorGG.Right_spec x y)
theorem rgright_does (x y : Int) : Does cE 69 [] 0 [.v (dc x y)] (.v (.bool (rt x y))) [] 0 := does_run (l := [dc x y]) (Go.Proofs.YtpfignfgfhbblaaGreatDoorGG.rRight_spec x y)
theorem below_iter (w : World) (s : ByteArray) (pos : Nat) : Below w.heap.size w (w.iter s pos) :=
  (Below.refl w.heap.size w).alloc (Nat.le_refl _) (.stringIter s pos)
theorem good_does (s : ByteArray) (hs : s.size ≤ 140737488351232) : Does cE 68 [] 0 [.v (st s)] (.v (.bool (validD s.data.toList))) [] 0 :=
  does_lib (l := [st s]) (enters (fn := Tryz.f68) rfl (by kernel_rfl) rfl) (fun w hg => (good_calls s hs w).mono fun e w' hh => by
    obtain ⟨he, pos, hw⟩ := hh
    subst hw
    exact ⟨he, below_iter w s pos⟩)
end Go.Proofs.YtpfignfgfhbblaaGreatDoorC
/- The program's and the reference's printing of a decimal come to the same text. -/
namespace Go.Proofs.YtpfignfgfhbblaaGreatDoorC
open Go.Proofs Go.Proofs.YtpfignfgfhbblaaGreatDoorSx Go.RowKit Go.Sort Go.Lib
set_option maxRecDepth 100000
set_option linter.unusedVariables false
set_option linter.unusedSimpArgs false
/-! ### Strings as lists of bytes -/
def oL (l : List UInt8) : ByteArray := ⟨l.toArray⟩
theorem oL_size (l : List UInt8) : (oL l).size = l.length := by simp [oL, ByteArray.size]
theorem oL_app (a b : List UInt8) : oL a ++ oL b = oL (a ++ b) := by
  apply ByteArray.ext
  simp [oL, ByteArray.data_append]
theorem oL_ext (l : List UInt8) (i j : Nat) : (oL l).extract i j = oL ((l.drop i).take (j - i)) := by
  apply ByteArray.ext
  simp [oL, ByteArray.data_extract, List.extract_eq_take_drop]
theorem oL_data (l : List UInt8) : (oL l).data.toList = l := by simp [oL]
theorem oL_of (s : ByteArray) : s = oL s.data.toList := by
  apply ByteArray.ext
  simp [oL]
theorem bytesOf_one (x : Int) : bytesOf [x] = oL [UInt8.ofNat x.toNat] := rfl
theorem below_more (w : World) (k : Nat) (os : Array Obj) : Below w.heap.size w (grow (w.drewN k) os) :=
  ⟨rfl, rfl, rfl, by simp [grow], fun i hi => by
    show (w.heap ++ os)[i]? = w.heap[i]?
    rw [Array.getElem?_append_left hi]⟩
/-! ### Numerals, zeros -/
theorem fmt71_does (u : Nat) (hu : u < 18446744073709551616) : Does cE 157 [] 0 [.v (iu u), .v (it 10)] (.v (st (oL (decDigits u)))) [] 0 := by
  refine does_lib (l := [iu u, it 10]) (enters (fn := Tryz.f157) rfl (by kernel_rfl) rfl) (fun w hg => ?_)
  by_cases h : u < 100
  · exact (Tryz.fmt_small u h w).mono fun e w' hh => ⟨hh.1, hh.2 ▸ Below.refl _ _⟩
  · refine (Tryz.fmt_big u (by omega) hu w (tens_in hg)).mono fun e w' hh => ?_
    obtain ⟨e1, k, os, rfl⟩ := hh
    exact ⟨e1, below_more w k os⟩
theorem fmt59_does (u : Nat) (hu : u < 18446744073709551616) : Does cE 107 [] 0 [.v (iu u), .v (it 10)] (.v (st (oL (decDigits u)))) [] 0 := fmtu_1 _ _ (fmt71_does u hu)
theorem rep_48 : ∀ c : Nat, repeatL [48] c = List.replicate c 48
  | 0 => rfl
  | c + 1 => by
    rw [repeatL, rep_48 c]
    rfl
theorem rep60_does (c : Nat) (hc : c ≤ 100) : Does cE 108 [] 0 [.v (st (oL [48])), .v (it c)] (.v (st (oL (List.replicate c 48)))) [] 0 := by
  refine does_lib (l := [st (oL [48]), it c]) (enters (fn := Tryz.f108) rfl (by kernel_rfl) rfl) (fun w hg => ?_)
  refine (Any.strings_Repeat Tryz.laysRepeat Tryz.extra (oL [48]) c w (by omega) (by rw [oL_size]; simp; omega)).mono fun e w' hh => ?_
  rw [oL_data, rep_48] at hh
  exact hh
theorem nd_le {u : Nat} (hu : u < 18446744073709551616) : (decDigits u).length ≤ 20 := by
  rw [decDigits_length]
  by_cases h : 1 ≤ u
  · have := numDigits_eq u h hu
    split at this <;> omega
  · have : u = 0 := by omega
    subst this
    rw [nDigits_small (by decide)]
    omega
theorem dot_slices (s : List UInt8) (sc : Int) (h : 0 < sc) (hl : sc.toNat ≤ s.length) (h2 : s.length < 1000) : 
    (oL s).extract (Int.toNat 0) (IntKind.i64.wrap (((oL s).size : Int) - sc)).toNat ++ (ByteArray.mk #[46]) ++ (oL s).extract (IntKind.i64.wrap (((oL s).size : Int) - sc)).toNat ((((oL s).size : Nat) : Int)).toNat = oL (dotL s sc) := by
  have e : (IntKind.i64.wrap (((oL s).size : Int) - sc)).toNat = s.length - sc.toNat := by
    rw [oL_size, wrap64 (by omega) (by omega)]
    omega
  have e1 : (Int.toNat 0) = 0 := rfl
  have e2 : ((((oL s).size : Nat) : Int)).toNat = s.length := by rw [oL_size]; omega
  have e3 : ByteArray.mk #[46] = oL [46] := rfl
  rw [e, e1, e2, e3, oL_ext, oL_ext, oL_app, oL_app]
  unfold dotL
  rw [if_neg (by omega)]
  congr 1
  have e4 : s.length - (s.length - sc.toNat) = (s.drop (s.length - sc.toNat)).length := by rw [List.length_drop]
  rw [e4, List.take_length]
  simp
theorem print_does (u sc : Int) (hu : I64 u) : Does cE 50 [] 0 [.v (dc u sc)] (.v (st (oL (printL u sc)))) [] 0 := by
  have hr := pright_does u sc
  by_cases hs : sc6 sc
  · have e0 : decide (sc6 sc) = true := by simpa using hs
    rw [e0] at hr
    have hof := pof_does hu
    have ha := ab_spec u
    have hn : u.natAbs < 18446744073709551616 := by omega
    have hf := fmt59_does u.natAbs hn
    have hd := nd_le hn
    have hd0 : 0 < (decDigits u.natAbs).length := by
      have := dec_ne u.natAbs
      cases h : decDigits u.natAbs with
      | nil => exact (this h).elim
      | cons a l => simp
    have eab : (ab u % 18446744073709551616) = ((u.natAbs : Nat) : Int) := by unfold ab; omega
    unfold Bv at hof
    rw [eab] at hof
    have hrep := rep60_does (sc.toNat + 1 - (decDigits u.natAbs).length) (by omega)
    have eif : (((sc.toNat + 1 - (decDigits u.natAbs).length : Nat)) : Int) = (if IntKind.i64.wrap (IntKind.i64.wrap (sc + 1) - ((oL (decDigits u.natAbs)).size : Int)) > 0 then IntKind.i64.wrap (IntKind.i64.wrap (sc + 1) - ((oL (decDigits u.natAbs)).size : Int)) else 0) := by
      rw [oL_size, wrap64 (n := sc + 1) (by omega) (by omega), wrap64 (by omega) (by omega)]
      split <;> omega
    rw [eif] at hrep
    have epad : oL (List.replicate (sc.toNat + 1 - (decDigits u.natAbs).length) 48) ++ oL (decDigits u.natAbs) = oL (padL u sc) := by rw [oL_app]; rfl
    have hpl := pad_len u sc
    have hsz : (oL (List.replicate (sc.toNat + 1 - (decDigits u.natAbs).length) 48)).size + (oL (decDigits u.natAbs)).size ≤ 9223372036854775807 := by
      rw [oL_size, oL_size, List.length_replicate]
      omega
    have hdl : (dotL (padL u sc) sc).length ≤ 1000 := by
      unfold dotL
      split
      · omega
      · rw [List.length_append, List.length_cons, List.length_take, List.length_drop]
        omega
    have e45 : ByteArray.mk #[45] = oL [45] := rfl
    have hp : printL u sc = if u < 0 then 45 :: dotL (padL u sc) sc else dotL (padL u sc) sc := by
      unfold printL
      rw [if_pos hs]
    rw [hp]
    by_cases hz : sc > 0
    · have hds := dot_slices (padL u sc) sc hz (by omega) (by omega)
      have hw : IntKind.i64.wrap (((oL (padL u sc)).size : Int) - sc) = (padL u sc).length - sc := by
        rw [oL_size, wrap64 (by omega) (by omega)]
      have b7 : (0 : Int) ≤ 0 ∧ (0 : Int) ≤ IntKind.i64.wrap (((oL (padL u sc)).size : Int) - sc) ∧ IntKind.i64.wrap (((oL (padL u sc)).size : Int) - sc) ≤ ((oL (padL u sc)).size : Int) := by
        rw [hw, oL_size]
        omega
      have b9 : (0 : Int) ≤ IntKind.i64.wrap (((oL (padL u sc)).size : Int) - sc) ∧ IntKind.i64.wrap (((oL (padL u sc)).size : Int) - sc) ≤ ((oL (padL u sc)).size : Int) ∧ ((oL (padL u sc)).size : Int) ≤ ((oL (padL u sc)).size : Int) := by
        rw [hw, oL_size]
        omega
      have e46 : ByteArray.mk #[46] = oL [46] := rfl
      have b8 : ((oL (padL u sc)).extract (Int.toNat 0) (IntKind.i64.wrap (((oL (padL u sc)).size : Int) - sc)).toNat).size + (ByteArray.mk #[46]).size ≤ 9223372036854775807 := by
        simp only [e46, oL_ext, oL_app, oL_size, List.length_append, List.length_take, List.length_drop, List.length_cons, List.length_nil]
        omega
      have b10 : ((oL (padL u sc)).extract (Int.toNat 0) (IntKind.i64.wrap (((oL (padL u sc)).size : Int) - sc)).toNat ++ (ByteArray.mk #[46])).size + ((oL (padL u sc)).extract (IntKind.i64.wrap (((oL (padL u sc)).size : Int) - sc)).toNat ((((oL (padL u sc)).size : Nat) : Int)).toNat).size ≤ 9223372036854775807 := by
        simp only [e46, oL_ext, oL_app, oL_size, List.length_append, List.length_take, List.length_drop, List.length_cons, List.length_nil]
        omega
      rw [← epad] at b7 b8 b9 b10 hds
      by_cases hneg : u < 0
      · have hng : ng u = true := by simpa using hneg
        rw [if_pos hneg]
        have h := prn_2 (h0 := hr) (h1 := rfl) (h2 := hof) (h3 := hf) (h4 := hrep) (h5 := hsz) (h6 := by simpa using hz) (h7 := b7) (h8 := b8) (h9 := b9) (h10 := b10) (h11 := hng) (h12 := by
          rw [hds, e45, oL_size, oL_size, List.length_cons, List.length_nil]
          omega)
        rw [hds, e45, oL_app] at h
        exact h
      · have hng : ng u = false := by simpa using hneg
        rw [if_neg hneg]
        have h := prn_3 (h0 := hr) (h1 := rfl) (h2 := hof) (h3 := hf) (h4 := hrep) (h5 := hsz) (h6 := by simpa using hz) (h7 := b7) (h8 := b8) (h9 := b9) (h10 := b10) (h11 := hng)
        rw [hds] at h
        exact h
    · have ed : dotL (padL u sc) sc = padL u sc := by
        unfold dotL
        rw [if_pos (by omega)]
      rw [ed]
      by_cases hneg : u < 0
      · have hng : ng u = true := by simpa using hneg
        rw [if_pos hneg]
        have h := prn_4 (h0 := hr) (h1 := rfl) (h2 := hof) (h3 := hf) (h4 := hrep) (h5 := hsz) (h6 := by simpa using hz) (h7 := hng) (h8 := by
          rw [epad, e45, oL_size, oL_size, List.length_cons, List.length_nil]
          omega)
        rw [epad, e45, oL_app] at h
        exact h
      · have hng : ng u = false := by simpa using hneg
        rw [if_neg hneg]
        have h := prn_5 (h0 := hr) (h1 := rfl) (h2 := hof) (h3 := hf) (h4 := hrep) (h5 := hsz) (h6 := by simpa using hz) (h7 := hng)
        rw [epad] at h
        exact h
  · have e0 : decide (sc6 sc) = false := by simpa using hs
    rw [e0] at hr
    have : printL u sc = [] := by
      unfold printL
      rw [if_neg hs]
    rw [this]
    exact prn_1 (h0 := hr) (h1 := rfl)
/-! ### The reference's Print -/
theorem digit_eq (d : Nat) (h : d < 10) : bytesOf [IntKind.u8.wrap (IntKind.u64.wrap (48 + (d : Int)))] = oL [UInt8.ofNat (48 + d)] := by
  have e : IntKind.u8.wrap (IntKind.u64.wrap (48 + (d : Int))) = ((48 + d : Nat) : Int) := by
    rw [wrU (by omega) (by omega)]
    simp [IntKind.wrap, IntKind.bits, IntKind.signed]
    omega
  rw [e]
  rfl
theorem dg_loop : ∀ (f u : Nat) (t : List UInt8), u < 10 ^ (f + 1) → u < 18446744073709551616 → t.length + f ≤ 100 → Fin cE Tryz.f112 0 (.v (st (oL (decDigits u ++ t)))) [] 0 (bodyK dgK f) ([.v (iu u), .na, .na, .v (st (oL t))] ++ List.replicate 19 .na) [] 0 := by
  intro f
  induction f with
  | zero =>
    intro u t h hu ht
    have h9 : u < 10 := by simpa using h
    have e := digit_eq u h9
    have hh := dgb_2 (u : Int) (oL t) 0 (by simp; omega) (by rw [e, oL_size, oL_size]; simp; omega)
    rw [e, oL_app, ← dec_small h9] at hh
    exact hh
  | succ f ih =>
    intro u t h hu ht
    by_cases h9 : u < 10
    · have e := digit_eq u h9
      have hh := dgb_2 (u : Int) (oL t) (f + 1) (by simp; omega) (by rw [e, oL_size, oL_size]; simp; omega)
      rw [e, oL_app, ← dec_small h9] at hh
      exact hh
    · have e := digit_eq (u % 10) (Nat.mod_lt _ (by decide))
      have em : ((u : Int).tmod 10) = ((u % 10 : Nat) : Int) := by rw [Int.tmod_eq_emod_of_nonneg (by omega)]; omega
      have ed : IntKind.u64.wrap ((u : Int).tdiv 10) = ((u / 10 : Nat) : Int) := by rw [Int.tdiv_eq_ediv_of_nonneg (by omega), wrU (by omega) (by omega)]; omega
      have hp : u / 10 < 10 ^ (f + 1) := by
        rw [Nat.pow_succ] at h
        omega
      have hi := ih (u / 10) (UInt8.ofNat (48 + u % 10) :: t) hp (by omega) (by simp; omega)
      have hh := dgb_1 (u : Int) (oL t) (f + 1) (.v (st (oL (decDigits u ++ t)))) [] 0 (by simp; omega) (by rw [em, e, oL_size, oL_size]; simp; omega)
      rw [em, e, ed, oL_app] at hh
      refine hh (fin_round ?_)
      rw [dec_big h9]
      simpa using hi
theorem digits_does (u : Nat) (hu : u < 18446744073709551616) : Does cE 112 [] 0 [.v (iu u)] (.v (st (oL (decDigits u)))) [] 0 := by
  refine does_of_fin (fn := Tryz.f112) (c := bd Tryz.f112) rfl (by kernel_rfl) rfl ?_
  refine dga_1 (u : Int) _ _ _ ?_
  refine fin_loop (19 + 1) (fin_round ?_)
  have h := dg_loop 19 u [] (by omega) hu (by simp)
  rw [List.append_nil] at h
  exact h
theorem rp_loop (u sc : Int) (hs : sc6 sc) (sg : List UInt8) (hg : sg.length ≤ 1) : ∀ (f : Nat) (t : List UInt8), sc.toNat + 1 ≤ t.length + f → t.length ≤ 100 → 
    Fin cE Tryz.f55 0 (.v (st (oL (sg ++ dotL (List.replicate (sc.toNat + 1 - t.length) 48 ++ t) sc)))) [] 0 (bodyK rpK f) ([.na, .p 0 0, .v (st ByteArray.empty), .na, .v (st (oL sg)), .v (st (oL t))] ++ List.replicate 44 .na) [(0, .box 84 [.v (it u), .v (it sc)])] 1 := by
  intro f
  have done : ∀ (f : Nat) (t : List UInt8), sc.toNat + 1 ≤ t.length → t.length ≤ 100 → Fin cE Tryz.f55 0 (.v (st (oL (sg ++ dotL (List.replicate (sc.toNat + 1 - t.length) 48 ++ t) sc)))) [] 0 (bodyK rpK f) ([.na, .p 0 0, .v (st ByteArray.empty), .na, .v (st (oL sg)), .v (st (oL t))] ++ List.replicate 44 .na) [(0, .box 84 [.v (it u), .v (it sc)])] 1 := by
    intro f t h1 h2
    have e0 : sc.toNat + 1 - t.length = 0 := by omega
    rw [e0]
    simp only [List.replicate_zero, List.nil_append]
    by_cases hz : sc = 0
    · have hh := rpb_2 u sc (oL t) (oL sg) f (by rw [oL_size]; simp; omega) (by simpa using hz) (by rw [oL_size, oL_size]; omega)
      rw [oL_app] at hh
      unfold dotL
      rw [if_pos hz]
      exact hh
    · have hds := dot_slices t sc (by omega) (by omega) (by omega)
      have hw : IntKind.i64.wrap (((oL t).size : Int) - sc) = t.length - sc := by
        rw [oL_size, wrap64 (by omega) (by omega)]
      have e46 : ByteArray.mk #[46] = oL [46] := rfl
      have hh := rpb_3 u sc (oL t) (oL sg) f (by rw [oL_size]; simp; omega) (by simpa using hz) (by rw [hw, oL_size]; omega) (by
        simp only [oL_ext, oL_app, oL_size, List.length_append, List.length_take, List.length_drop, List.length_cons, List.length_nil]
        omega) (by
        simp only [e46, oL_ext, oL_app, oL_size, List.length_append, List.length_take, List.length_drop, List.length_cons, List.length_nil]
        omega) (by rw [hw, oL_size]; omega) (by
        simp only [e46, oL_ext, oL_app, oL_size, List.length_append, List.length_take, List.length_drop, List.length_cons, List.length_nil]
        omega)
      have ea : oL sg ++ (oL t).extract (Int.toNat 0) (IntKind.i64.wrap (((oL t).size : Int) - sc)).toNat ++ (ByteArray.mk #[46]) ++ (oL t).extract (IntKind.i64.wrap (((oL t).size : Int) - sc)).toNat ((((oL t).size : Nat) : Int)).toNat = oL (sg ++ dotL t sc) := by
        rw [← oL_app, ← hds, ByteArray.append_assoc, ByteArray.append_assoc, ByteArray.append_assoc]
      rw [ea] at hh
      exact hh
  induction f with
  | zero =>
    intro t h1 h2
    exact done 0 t (by omega) h2
  | succ f ih =>
    intro t h1 h2
    by_cases hl : sc.toNat + 1 ≤ t.length
    · exact done (f + 1) t hl h2
    · have e48 : ByteArray.mk #[48] = oL [48] := rfl
      have hh := rpb_1 u sc (oL t) (oL sg) (f + 1) (.v (st (oL (sg ++ dotL (List.replicate (sc.toNat + 1 - t.length) 48 ++ t) sc)))) [] 0 (by rw [oL_size]; simp; omega) (by rw [e48, oL_size, oL_size]; simp; omega)
      rw [e48, oL_app] at hh
      refine hh (fin_round ?_)
      have hi := ih (48 :: t) (by simp; omega) (by simp; omega)
      have er : List.replicate (sc.toNat + 1 - (48 :: t).length) 48 ++ 48 :: t = List.replicate (sc.toNat + 1 - t.length) 48 ++ t := by
        have : sc.toNat + 1 - t.length = sc.toNat + 1 - (48 :: t).length + 1 := by simp; omega
        rw [this, List.replicate_succ']
        simp
      rw [er] at hi
      exact hi
theorem rprint_does (u sc : Int) (hu : I64 u) : Does cE 55 [] 0 [.v (dc u sc)] (.v (st (oL (printL u sc)))) [] 0 := by
  refine does_of_fin (fn := Tryz.f55) (c := bd Tryz.f55) rfl (by kernel_rfl) rfl ?_
  have hr := rright_does u sc
  by_cases hs : sc6 sc
  · have e0 : decide (sc6 sc) = true := by simpa using hs
    rw [e0] at hr
    have hn : u.natAbs < 18446744073709551616 := by have := ab_spec u; unfold ab at this; omega
    have hd := digits_does u.natAbs hn
    have hl := nd_le hn
    have hp : printL u sc = (if u < 0 then [45] else []) ++ dotL (padL u sc) sc := by
      unfold printL
      rw [if_pos hs]
      split <;> rfl
    rw [hp]
    by_cases hneg : u < 0
    · rw [if_pos hneg]
      have ew : IntKind.u64.wrap (0 - IntKind.u64.wrap u) = ((u.natAbs : Nat) : Int) := by
        rw [wrapU, wrapU]
        omega
      refine rpa_2 u sc true (oL (decDigits u.natAbs)) _ _ _ hr rfl (by simpa using hneg) (by rw [ew]; exact hd) ?_
      exact fin_loop (7 + 1) (fin_round (rp_loop u sc hs [45] (by simp) 7 (decDigits u.natAbs) (by omega) (by omega)))
    · rw [if_neg hneg]
      have ew : IntKind.u64.wrap u = ((u.natAbs : Nat) : Int) := by
        rw [wrapU]
        omega
      refine rpa_3 u sc true (oL (decDigits u.natAbs)) _ _ _ hr rfl (by simpa using hneg) (by rw [ew]; exact hd) ?_
      exact fin_loop (7 + 1) (fin_round (rp_loop u sc hs [] (by simp) 7 (decDigits u.natAbs) (by omega) (by omega)))
  · have e0 : decide (sc6 sc) = false := by simpa using hs
    rw [e0] at hr
    have : printL u sc = [] := by
      unfold printL
      rw [if_neg hs]
    rw [this]
    exact rpa_1 u sc false hr rfl
end Go.Proofs.YtpfignfgfhbblaaGreatDoorC
