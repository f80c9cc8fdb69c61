import Derived.Test.YtjndejlbkmeppaaFl
/- Quotients of whole numbers in binary floating point, and their floors: bounds. -/
namespace Go.Fl
open Ieee
theorem read_word2 (neg : Bool) (q kept : Nat) (hq : q ≤ 2000) (h1 : 4503599627370496 ≤ kept) (h2 : kept < 9007199254740992) :
    double.read (double.word neg (min (q * double.binade + kept) double.infRung)) = .number neg kept ((q : Int) - 1074) := by
  have hm : min (q * double.binade + kept) double.infRung = q * 4503599627370496 + kept := by
    rw [bin, infR]
    omega
  rw [hm]
  have hdiv : (q * 4503599627370496 + kept) / 4503599627370496 = q + 1 := by omega
  have hmod : (q * 4503599627370496 + kept) % 4503599627370496 = kept - 4503599627370496 := by omega
  unfold Format.read Format.word
  simp only [signW, bin, infR, least]
  cases neg
  · have a1 : ((q * 4503599627370496 + kept) / 9223372036854775808 % 2 == 1) = false := by
      rw [beq_eq_false_iff_ne]
      omega
    have a2 : (q * 4503599627370496 + kept) % 9223372036854775808 = q * 4503599627370496 + kept := by omega
    simp only [Bool.false_eq_true, if_false, a1, a2, hdiv, hmod]
    rw [if_neg (by omega), if_pos (by omega)]
    rw [show 4503599627370496 + (kept - 4503599627370496) = kept by omega, show (-1074 : Int) + ((q + 1 - 1 : Nat) : Int) = (q : Int) - 1074 by omega]
  · have a1 : ((9223372036854775808 + (q * 4503599627370496 + kept)) / 9223372036854775808 % 2 == 1) = true := by
      rw [beq_iff_eq]
      omega
    have a2 : (9223372036854775808 + (q * 4503599627370496 + kept)) % 9223372036854775808 = q * 4503599627370496 + kept := by
      rw [Nat.add_mod_left]
      exact Nat.mod_eq_of_lt (by omega)
    simp only [if_true, a1, a2, hdiv, hmod]
    rw [if_neg (by omega), if_pos (by omega)]
    rw [show 4503599627370496 + (kept - 4503599627370496) = kept by omega, show (-1074 : Int) + ((q + 1 - 1 : Nat) : Int) = (q : Int) - 1074 by omega]
/-- The same where the last digit carried all through. -/
theorem read_word3 (neg : Bool) (q kept : Nat) (hq : q < 2000) (h1 : 4503599627370496 ≤ kept) (h2 : kept ≤ 9007199254740992) :
    ∃ m e, double.read (double.word neg (min (q * double.binade + kept) double.infRung)) = .number neg m e ∧ -1074 ≤ e ∧ m * 2 ^ (e + 1074).toNat = kept * 2 ^ q := by
  rcases Nat.lt_or_eq_of_le h2 with h | h
  · refine ⟨kept, (q : Int) - 1074, read_word2 neg q kept (by omega) h1 h, by omega, ?_⟩
    rw [show ((q : Int) - 1074 + 1074).toNat = q by omega]
  · subst h
    refine ⟨4503599627370496, ((q + 1 : Nat) : Int) - 1074, ?_, by omega, ?_⟩
    · have h3 := read_word2 neg (q + 1) 4503599627370496 (by omega) (by omega) (by omega)
      have h4 : q * double.binade + 9007199254740992 = (q + 1) * double.binade + 4503599627370496 := by
        rw [bin]
        omega
      rw [h4]
      exact h3
    · rw [show (((q + 1 : Nat) : Int) - 1074 + 1074).toNat = q + 1 by omega, Nat.pow_succ]
      omega
/-- A number written is at most twice what it was. -/
theorem nearest_le (neg : Bool) (mag : Nat) (place : Int) (hL : 52 ≤ mag.log2) (hp : -1074 ≤ place) (hq : place + mag.log2 ≤ 900) :
    ∃ m e, double.read (double.nearest neg mag place) = .number neg m e ∧ -1074 ≤ e ∧ m * 2 ^ (e + 1074).toNat ≤ 2 * mag * 2 ^ (place + 1074).toNat := by
  have hmag : mag ≠ 0 := by
    intro h
    subst h
    simp at hL
  obtain ⟨L, hLL⟩ : ∃ L, L = mag.log2 := ⟨_, rfl⟩
  have l1 : 2 ^ L ≤ mag := by rw [hLL]; exact Nat.log2_self_le (by omega)
  have l2 : mag < 2 ^ (L + 1) := by rw [hLL]; exact Nat.lt_log2_self
  rw [← hLL] at hL hq
  obtain ⟨d, hd⟩ : ∃ d, L = d + 52 := ⟨L - 52, by omega⟩
  subst hd
  have p52 : (2 : Nat) ^ 52 = 4503599627370496 := by decide
  have hlow1 : 4503599627370496 ≤ mag / 2 ^ d := by
    rw [Nat.le_div_iff_mul_le (pow_pos d), ← p52, ← Nat.pow_add, Nat.add_comm]
    exact l1
  have hlow2 : mag / 2 ^ d < 9007199254740992 := by
    rw [Nat.div_lt_iff_lt_mul (pow_pos d)]
    have : (2 : Nat) ^ (d + 52 + 1) = 9007199254740992 * 2 ^ d := by
      rw [show d + 52 + 1 = 53 + d by omega, Nat.pow_add]
    omega
  unfold Format.nearest
  rw [if_neg hmag]
  have hf : (double.fractionBits : Int) = 52 := by rfl
  have hlast : max (place + (mag.log2 : Int) - double.fractionBits) double.leastPlace = place + d := by
    rw [hf, least, ← hLL]
    omega
  simp only [hlast]
  have e1 : (place - (place + (d : Int))).toNat = 0 := by omega
  have e2 : (place + (d : Int) - place).toNat = d := by omega
  rw [e1, e2, Nat.shiftLeft_zero]
  have hcut : ∃ b : Nat, b ≤ 1 ∧ Toward.even.cut neg mag d = mag / 2 ^ d + b := by
    unfold Toward.cut
    rw [← hLL, Nat.min_eq_left (by omega), Nat.one_shiftLeft]
    exact ⟨_, Bool.toNat_le _, rfl⟩
  obtain ⟨b, hb, hcut⟩ := hcut
  rw [hcut, least]
  have e3 : (place + (d : Int) - -1074).toNat = (place + 1074).toNat + d := by omega
  rw [e3]
  obtain ⟨m, e, h1, h2, h3⟩ := read_word3 neg ((place + 1074).toNat + d) (mag / 2 ^ d + b) (by omega) (by omega) (by omega)
  refine ⟨m, e, h1, h2, ?_⟩
  rw [h3, Nat.pow_add, Nat.mul_comm (2 ^ (place + 1074).toNat), ← Nat.mul_assoc]
  refine Nat.mul_le_mul_right _ ?_
  have h4 : mag / 2 ^ d * 2 ^ d ≤ mag := Nat.div_mul_le_self _ _
  have h5 : 2 ^ d ≤ mag := by
    have : 1 * 2 ^ d ≤ mag / 2 ^ d * 2 ^ d := Nat.mul_le_mul_right _ (by omega)
    omega
  have h6 : (mag / 2 ^ d + b) * 2 ^ d = mag / 2 ^ d * 2 ^ d + b * 2 ^ d := Nat.add_mul _ _ _
  have h7 : b * 2 ^ d ≤ 1 * 2 ^ d := Nat.mul_le_mul_right _ hb
  omega
/-- A floor is at most the number, and one. -/
theorem down_le (s : Bool) (n drop : Nat) : (Toward.down.cut s n drop - 1) * 2 ^ drop ≤ n := by
  unfold Toward.cut
  simp only [Nat.one_shiftLeft]
  generalize hc : (s && n % 2 ^ min drop (n.log2 + 2) != 0).toNat = c
  have hb : c ≤ 1 := by rw [← hc]; exact Bool.toNat_le _
  rcases Nat.le_total drop (n.log2 + 2) with h | h
  · rw [Nat.min_eq_left h]
    have h1 : n / 2 ^ drop + c - 1 ≤ n / 2 ^ drop := Nat.le_trans (Nat.sub_le_sub_right (Nat.add_le_add_left hb _) 1) (by rw [Nat.add_sub_cancel]; exact Nat.le_refl _)
    exact Nat.le_trans (Nat.mul_le_mul_right _ h1) (Nat.div_mul_le_self _ _)
  · rw [Nat.min_eq_right h]
    have h0 : n < 2 ^ (n.log2 + 2) := Nat.lt_trans Nat.lt_log2_self ((Nat.pow_lt_pow_iff_right (by omega)).2 (by omega))
    rw [Nat.div_eq_of_lt h0]
    have : 0 + c - 1 = 0 := by omega
    rw [this, Nat.zero_mul]
    exact Nat.zero_le _
end Go.Fl
