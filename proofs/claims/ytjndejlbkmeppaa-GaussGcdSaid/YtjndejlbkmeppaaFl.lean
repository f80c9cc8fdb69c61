/- Whole numbers of at most 2^53 as binary floating point: sums, differences and products that stay below that are exact. Plain facts on the model's floats: no program in sight. -/
import Derived.Laws.FloatArith
namespace Go.Fl
open Ieee

theorem signW : double.signWeight = 9223372036854775808 := by rfl
theorem bin : double.binade = 4503599627370496 := by rfl
theorem infR : double.infRung = 9218868437227405312 := by rfl
theorem least : double.leastPlace = -1074 := by rfl

theorem pow_pos (k : Nat) : 0 < 2 ^ k := Nat.two_pow_pos k

/-- 'cut' to the nearest, where nothing is lost. -/
theorem cut_exact (neg : Bool) (k d : Nat) (hk : 0 < k) : Toward.even.cut neg (k * 2 ^ d) d = k := by
  have hd : d ≤ (k * 2 ^ d).log2 + 2 := by
    have h1 : 2 ^ d ≤ k * 2 ^ d := Nat.le_mul_of_pos_left _ hk
    have h2 : k * 2 ^ d < 2 ^ ((k * 2 ^ d).log2 + 1) := Nat.lt_log2_self
    have := (Nat.pow_lt_pow_iff_right (a := 2) (by omega)).1 (Nat.lt_of_le_of_lt h1 h2)
    omega
  unfold Toward.cut
  simp only [Nat.min_eq_left hd, Nat.one_shiftLeft, Nat.mul_div_cancel _ (pow_pos d), Nat.mul_mod_left]
  have hp := pow_pos d
  have h3 : ¬ 2 ^ d < 2 * 0 := by omega
  have h4 : (2 ^ d == 2 * 0) = false := by
    rw [beq_eq_false_iff_ne]
    omega
  simp [h4]

theorem read_word (neg : Bool) (q kept : Nat) (hq : q ≤ 53) (h1 : 4503599627370496 ≤ kept) (h2 : kept < 9007199254740992) :
    double.read (double.word neg (min ((q + 1022) * double.binade + kept) double.infRung)) = .number neg kept ((q : Int) - 52) := by
  have hm : min ((q + 1022) * double.binade + kept) double.infRung = (q + 1022) * 4503599627370496 + kept := by
    rw [bin, infR]
    omega
  rw [hm]
  have hdiv : ((q + 1022) * 4503599627370496 + kept) / 4503599627370496 = q + 1023 := by omega
  have hmod : ((q + 1022) * 4503599627370496 + kept) % 4503599627370496 = kept - 4503599627370496 := by omega
  unfold Format.read Format.word
  simp only [signW, bin, infR, least]
  cases neg
  · have a1 : (((q + 1022) * 4503599627370496 + kept) / 9223372036854775808 % 2 == 1) = false := by
      rw [beq_eq_false_iff_ne]
      omega
    have a2 : ((q + 1022) * 4503599627370496 + kept) % 9223372036854775808 = (q + 1022) * 4503599627370496 + kept := by omega
    simp only [Bool.false_eq_true, if_false, a1, a2, hdiv, hmod]
    rw [if_neg (by omega), if_pos (by omega)]
    rw [show 4503599627370496 + (kept - 4503599627370496) = kept by omega, show (-1074 : Int) + ((q + 1023 - 1 : Nat) : Int) = (q : Int) - 52 by omega]
  · have a1 : ((9223372036854775808 + ((q + 1022) * 4503599627370496 + kept)) / 9223372036854775808 % 2 == 1) = true := by
      rw [beq_iff_eq]
      omega
    have a2 : (9223372036854775808 + ((q + 1022) * 4503599627370496 + kept)) % 9223372036854775808 = (q + 1022) * 4503599627370496 + kept := by
      rw [Nat.add_mod_left]
      exact Nat.mod_eq_of_lt (by omega)
    simp only [if_true, a1, a2, hdiv, hmod]
    rw [if_neg (by omega), if_pos (by omega)]
    rw [show 4503599627370496 + (kept - 4503599627370496) = kept by omega, show (-1074 : Int) + ((q + 1023 - 1 : Nat) : Int) = (q : Int) - 52 by omega]

theorem read_zero (neg : Bool) : double.read (double.word neg 0) = .number neg 0 (-1074) := by
  cases neg <;> rfl

/-- A number that is whole and at most 2^53 is written as it is. -/
theorem read_nearest (neg : Bool) (mag : Nat) (place : Int) (N K : Nat) (hN : 0 < N) (hN2 : N ≤ 2 ^ 53) (hp : -(K : Int) ≤ place)
    (hv : mag * 2 ^ (place + K).toNat = N * 2 ^ K) :
    ∃ m e, double.read (double.nearest neg mag place) = .number neg m e ∧ 0 < m ∧ m < 2 ^ 53 ∧ -52 ≤ e ∧ e ≤ 1 ∧ m * 2 ^ (e + 52).toNat = N * 2 ^ 52 := by
  obtain ⟨p, hpp⟩ : ∃ p : Nat, p = (place + K).toNat := ⟨_, rfl⟩
  rw [← hpp] at hv
  have hpl : place = (p : Int) - K := by omega
  have hmag : 0 < mag := by
    rcases Nat.eq_zero_or_pos mag with h | h
    · subst h
      have := Nat.mul_pos hN (pow_pos K)
      omega
    · exact h
  obtain ⟨L, hL⟩ : ∃ L, L = mag.log2 := ⟨_, rfl⟩
  have l1 : 2 ^ L ≤ mag := by rw [hL]; exact Nat.log2_self_le (by omega)
  have l2 : mag < 2 ^ (L + 1) := by rw [hL]; exact Nat.lt_log2_self
  have b1 : L + p ≤ 53 + K := by
    have h1 : 2 ^ (L + p) ≤ 2 ^ (53 + K) := by
      rw [Nat.pow_add, Nat.pow_add]
      calc 2 ^ L * 2 ^ p ≤ mag * 2 ^ p := Nat.mul_le_mul_right _ l1
        _ = N * 2 ^ K := hv
        _ ≤ 2 ^ 53 * 2 ^ K := Nat.mul_le_mul_right _ hN2
    exact (Nat.pow_le_pow_iff_right (a := 2) (by omega)).1 h1
  have b2 : K ≤ L + p := by
    have h1 : 2 ^ K < 2 ^ (L + 1 + p) := by
      rw [Nat.pow_add]
      calc 2 ^ K ≤ N * 2 ^ K := Nat.le_mul_of_pos_left _ hN
        _ = mag * 2 ^ p := hv.symm
        _ < 2 ^ (L + 1) * 2 ^ p := Nat.mul_lt_mul_of_pos_right l2 (pow_pos p)
    have := (Nat.pow_lt_pow_iff_right (a := 2) (by omega)).1 h1
    omega
  obtain ⟨q, hq⟩ : ∃ q, q + K = L + p := ⟨L + p - K, by omega⟩
  have hlast : max (place + (L : Int) - 52) (-1074) = (q : Int) - 52 := by omega
  -- what is kept
  have hkept : ∃ kept, Toward.even.cut neg (mag <<< (52 - L)) (L - 52) = kept ∧ 2 ^ 52 ≤ kept ∧ kept < 2 ^ 53 ∧ kept * 2 ^ q = N * 2 ^ 52 := by
    have cancel : ∀ kept, kept * 2 ^ q * 2 ^ K = N * 2 ^ 52 * 2 ^ K → kept * 2 ^ q = N * 2 ^ 52 := fun kept h => Nat.eq_of_mul_eq_mul_right (pow_pos K) h
    by_cases hc : L ≤ 52
    · refine ⟨mag * 2 ^ (52 - L), ?_, ?_, ?_, ?_⟩
      · have h0 : L - 52 = 0 := by omega
        rw [h0, Nat.shiftLeft_eq]
        have := cut_exact neg (mag * 2 ^ (52 - L)) 0 (Nat.mul_pos hmag (pow_pos _))
        simpa using this
      · have : 2 ^ 52 = 2 ^ L * 2 ^ (52 - L) := by rw [← Nat.pow_add]; congr 1; omega
        rw [this]
        exact Nat.mul_le_mul_right _ l1
      · have : 2 ^ 53 = 2 ^ (L + 1) * 2 ^ (52 - L) := by rw [← Nat.pow_add]; congr 1; omega
        rw [this]
        exact Nat.mul_lt_mul_of_pos_right l2 (pow_pos _)
      · apply cancel
        rw [Nat.mul_assoc, Nat.mul_assoc, ← Nat.pow_add, ← Nat.pow_add, show 52 - L + (q + K) = p + 52 by omega, Nat.pow_add, ← Nat.mul_assoc, hv]
        rw [Nat.mul_assoc, Nat.mul_assoc, Nat.mul_comm (2 ^ K)]
    · have hdvd : ∃ kept, mag = kept * 2 ^ (L - 52) := by
        by_cases hd : L - 52 + p ≤ K
        · refine ⟨N * 2 ^ (K - p - (L - 52)), ?_⟩
          apply Nat.eq_of_mul_eq_mul_right (pow_pos p)
          rw [hv, Nat.mul_assoc, Nat.mul_assoc, ← Nat.pow_add, ← Nat.pow_add]
          congr 2
          omega
        · have hN3 : N = 2 ^ 53 := by
            have h1 : 2 ^ 53 * 2 ^ K ≤ N * 2 ^ K := by
              rw [← hv, ← Nat.pow_add, show 53 + K = L + p by omega, Nat.pow_add]
              exact Nat.mul_le_mul_right _ l1
            have := Nat.le_of_mul_le_mul_right h1 (pow_pos K)
            omega
          refine ⟨2 ^ 52, ?_⟩
          apply Nat.eq_of_mul_eq_mul_right (pow_pos p)
          rw [hv, hN3, ← Nat.pow_add, ← Nat.pow_add, ← Nat.pow_add]
          congr 1
          omega
      obtain ⟨kept, hk⟩ := hdvd
      have hkp : 0 < kept := by
        rcases Nat.eq_zero_or_pos kept with h | h
        · subst h
          omega
        · exact h
      refine ⟨kept, ?_, ?_, ?_, ?_⟩
      · have h0 : 52 - L = 0 := by omega
        rw [h0, Nat.shiftLeft_zero, hk]
        exact cut_exact neg kept (L - 52) hkp
      · have : 2 ^ 52 * 2 ^ (L - 52) ≤ kept * 2 ^ (L - 52) := by
          rw [← hk, ← Nat.pow_add, show 52 + (L - 52) = L by omega]
          exact l1
        exact Nat.le_of_mul_le_mul_right this (pow_pos _)
      · have : kept * 2 ^ (L - 52) < 2 ^ 53 * 2 ^ (L - 52) := by
          rw [← hk, ← Nat.pow_add, show 53 + (L - 52) = L + 1 by omega]
          exact l2
        exact Nat.lt_of_mul_lt_mul_right this
      · apply cancel
        rw [Nat.mul_assoc, ← Nat.pow_add, show q + K = (L - 52) + (p + 52) by omega, Nat.pow_add, ← Nat.mul_assoc, ← hk, Nat.pow_add, ← Nat.mul_assoc, hv]
        rw [Nat.mul_assoc, Nat.mul_assoc, Nat.mul_comm (2 ^ K)]
  obtain ⟨kept, hcut, k1, k2, k3⟩ := hkept
  refine ⟨kept, (q : Int) - 52, ?_, by omega, k2, by omega, by omega, ?_⟩
  · have hfb : double.fractionBits = 52 := rfl
    unfold Format.nearest
    rw [if_neg (by omega)]
    simp only [hfb, least, ← hL]
    have e52 : ((52 : Nat) : Int) = 52 := rfl
    rw [e52, hlast]
    have e1 : (place - ((q : Int) - 52)).toNat = 52 - L := by omega
    have e2 : ((q : Int) - 52 - place).toNat = L - 52 := by omega
    have e3 : ((q : Int) - 52 - (-1074)).toNat = q + 1022 := by omega
    rw [e1, e2, e3, hcut]
    exact read_word neg q kept (by omega) (Nat.le_trans (by decide) k1) (Nat.lt_of_lt_of_le k2 (by decide))
  · have : ((q : Int) - 52 + 52).toNat = q := by omega
    rw [this, k3]

/-- The bits x stand for the whole number n, of at most 2^53. -/
def Core (s : Bool) (m : Nat) (e n : Int) : Prop :=
  (m = 0 ∧ n = 0 ∧ e = -1074) ∨ (0 < m ∧ m < 2 ^ 53 ∧ -52 ≤ e ∧ e ≤ 1 ∧ m * 2 ^ (e + 52).toNat = n.natAbs * 2 ^ 52 ∧ n.natAbs ≤ 2 ^ 53 ∧ (s = true ↔ n < 0))
def Fl (x : Nat) (n : Int) : Prop := ∃ s m e, double.read x = .number s m e ∧ Core s m e n

/-- What is written of a number whose value is n. -/
theorem fl_write {neg : Bool} {mag : Nat} {place : Int} {n : Int} {K : Nat} (hn : n.natAbs ≤ 2 ^ 53) (hp : -(K : Int) ≤ place)
    (hv : mag * 2 ^ (place + K).toNat = n.natAbs * 2 ^ K) (hs : n ≠ 0 → (neg = true ↔ n < 0)) : Fl (double.nearest neg mag place) n := by
  by_cases h0 : n = 0
  · subst h0
    have hm : mag = 0 := by
      rcases Nat.eq_zero_or_pos mag with h | h
      · exact h
      · have := Nat.mul_pos h (pow_pos (place + K).toNat)
        simp at hv
        omega
    refine ⟨neg, 0, -1074, ?_, .inl ⟨rfl, rfl, rfl⟩⟩
    unfold Format.nearest
    rw [if_pos hm, read_zero]
  · obtain ⟨m, e, h1, h2, h3, h4, h5, h6⟩ := read_nearest neg mag place n.natAbs K (by omega) hn hp hv
    exact ⟨neg, m, e, h1, .inr ⟨h2, h3, h4, h5, h6, hn, hs h0⟩⟩

theorem fl_zero (neg : Bool) (place : Int) : Fl (double.nearest neg 0 place) 0 := by
  refine ⟨neg, 0, -1074, ?_, .inl ⟨rfl, rfl, rfl⟩⟩
  unfold Format.nearest
  rw [if_pos rfl, read_zero]

theorem fl_ofInt (n : Int) (hn : n.natAbs ≤ 2 ^ 53) : Fl (floatOfInt .f64 n) n := by
  refine fl_write (K := 0) hn (by omega) ?_ ?_
  · simp
  · intro _
    simp

/-- Its value, in units as small as one likes. -/
theorem Core.val {s : Bool} {m : Nat} {e n : Int} (h : Core s m e n) (K : Nat) (hK : 1074 ≤ K) :
    -(K : Int) ≤ e ∧ (if s then -(m : Int) else (m : Int)) * 2 ^ (e + K).toNat = n * 2 ^ K := by
  rcases h with ⟨rfl, rfl, rfl⟩ | ⟨h1, h2, h3, h4, h5, h6, h7⟩
  · refine ⟨by omega, ?_⟩
    cases s <;> simp
  · refine ⟨by omega, ?_⟩
    have e1 : (e + K).toNat = (e + 52).toNat + (K - 52) := by omega
    have e2 : m * 2 ^ (e + K).toNat = n.natAbs * 2 ^ K := by
      rw [e1, Nat.pow_add, ← Nat.mul_assoc, h5, Nat.mul_assoc, ← Nat.pow_add]
      congr 2
      omega
    have e3 : (m : Int) * 2 ^ (e + K).toNat = (n.natAbs : Int) * 2 ^ K := by
      have := congrArg (fun z : Nat => (z : Int)) e2
      simpa using this
    cases s
    · have : ¬ n < 0 := by simpa using h7
      simp only [Bool.false_eq_true, if_false]
      rw [e3, Int.natAbs_of_nonneg (by omega)]
    · have : n < 0 := by simpa using h7
      simp only [if_true]
      rw [Int.neg_mul, e3, ← Int.neg_mul]
      congr 1
      omega

theorem signed_eq (s : Bool) (m d : Nat) : signed s m d = (if s then -(m : Int) else (m : Int)) * 2 ^ d := by
  unfold signed
  cases s <;> simp [Nat.shiftLeft_eq, Int.neg_mul]

theorem pow_posI (k : Nat) : (0 : Int) < 2 ^ k := by
  have := pow_pos k
  exact_mod_cast this

theorem neg_of {a c : Int} (p : 0 < c) (h : a * c < 0) : a < 0 := by
  rcases Int.lt_or_le a 0 with h1 | h1
  · exact h1
  · have := Int.mul_nonneg h1 (Int.le_of_lt p)
    omega

theorem sum_core {s t : Bool} {m k : Nat} {i j a b : Int} (ha : Core s m i a) (hb : Core t k j b) (hr : (a + b).natAbs ≤ 2 ^ 53) :
    ∃ d, (Datum.number s m i).sum (.number t k j) = some d ∧ Fl (double.write d) (a + b) := by
  obtain ⟨K, hK⟩ : ∃ K : Nat, K = 1074 := ⟨_, rfl⟩
  obtain ⟨a1, a2⟩ := ha.val K (by omega)
  obtain ⟨b1, b2⟩ := hb.val K (by omega)
  refine ⟨_, rfl, ?_⟩
  obtain ⟨base, hbase⟩ : ∃ z, z = min i j := ⟨_, rfl⟩
  rw [← hbase]
  obtain ⟨T, hT⟩ : ∃ T, T = signed s m (i - base).toNat + signed t k (j - base).toNat := ⟨_, rfl⟩
  rw [← hT]
  have hv : T * 2 ^ (base + K).toNat = (a + b) * 2 ^ K := by
    rw [hT, signed_eq, signed_eq, Int.add_mul, Int.mul_assoc, Int.mul_assoc, ← Int.pow_add, ← Int.pow_add,
      show (i - base).toNat + (base + K).toNat = (i + K).toNat by omega, show (j - base).toNat + (base + K).toNat = (j + K).toNat by omega, a2, b2, Int.add_mul]
  have hn : T.natAbs * 2 ^ (base + K).toNat = (a + b).natAbs * 2 ^ K := by
    have := congrArg Int.natAbs hv
    rw [Int.natAbs_mul, Int.natAbs_mul, Int.natAbs_pow, Int.natAbs_pow] at this
    simpa using this
  have p1 := pow_posI (base + K).toNat
  have p2 := pow_posI K
  have hsg : a + b ≠ 0 → (T ≠ 0 ∧ (T < 0 ↔ a + b < 0)) := by
    intro h0
    have t0 : T ≠ 0 := by
      rintro rfl
      rw [Int.zero_mul] at hv
      rcases Int.mul_eq_zero.1 hv.symm with h | h
      · exact h0 h
      · omega
    refine ⟨t0, ⟨fun h => ?_, fun h => ?_⟩⟩
    · have := Int.mul_neg_of_neg_of_pos h p1
      rw [hv] at this
      exact neg_of p2 this
    · have := Int.mul_neg_of_neg_of_pos h p2
      rw [← hv] at this
      exact neg_of p1 this
  refine fl_write (K := K) hr (by omega) hn ?_
  intro h0
  obtain ⟨t0, t1⟩ := hsg h0
  rw [if_neg t0]
  simpa using t1

theorem core_neg {s : Bool} {m : Nat} {e n : Int} (h : Core s m e n) : Core (!s) m e (-n) := by
  rcases h with ⟨h1, h2, h3⟩ | ⟨h1, h2, h3, h4, h5, h6, h7⟩
  · exact .inl ⟨h1, by omega, h3⟩
  · refine .inr ⟨h1, h2, h3, h4, by rw [Int.natAbs_neg]; exact h5, by rw [Int.natAbs_neg]; exact h6, ?_⟩
    have : n ≠ 0 := by
      rintro rfl
      have := Nat.mul_pos h1 (pow_pos (e + 52).toNat)
      simp at h5
      omega
    cases s
    · simp at h7 ⊢
      omega
    · simp at h7 ⊢
      omega

theorem fl_add {x y : Nat} {a b : Int} (hx : Fl x a) (hy : Fl y b) (hr : (a + b).natAbs ≤ 2 ^ 53) : ∃ r, floatBits .add .f64 x y = some r ∧ Fl r (a + b) := by
  obtain ⟨s, m, i, e1, h1⟩ := hx
  obtain ⟨t, k, j, e2, h2⟩ := hy
  obtain ⟨d, hd, hf⟩ := sum_core h1 h2 hr
  refine ⟨double.write d, ?_, hf⟩
  show double.add x y = _
  unfold Format.add
  rw [e1, e2, hd]
  rfl

theorem fl_sub {x y : Nat} {a b : Int} (hx : Fl x a) (hy : Fl y b) (hr : (a - b).natAbs ≤ 2 ^ 53) : ∃ r, floatBits .sub .f64 x y = some r ∧ Fl r (a - b) := by
  obtain ⟨s, m, i, e1, h1⟩ := hx
  obtain ⟨t, k, j, e2, h2⟩ := hy
  obtain ⟨d, hd, hf⟩ := sum_core h1 (core_neg h2) (by rw [← Int.sub_eq_add_neg]; exact hr)
  refine ⟨double.write d, ?_, by rw [Int.sub_eq_add_neg]; exact hf⟩
  show double.sub x y = _
  unfold Format.sub
  rw [e1, e2]
  show Option.map double.write ((Datum.number s m i).sum (.number (!t) k j)) = _
  rw [hd]
  rfl

theorem fl_mul {x y : Nat} {a b : Int} (hx : Fl x a) (hy : Fl y b) (hr : (a * b).natAbs ≤ 2 ^ 53) : ∃ r, floatBits .mul .f64 x y = some r ∧ Fl r (a * b) := by
  obtain ⟨s, m, i, e1, h1⟩ := hx
  obtain ⟨t, k, j, e2, h2⟩ := hy
  have hval : floatBits .mul .f64 x y = some (double.nearest (s ^^ t) (m * k) (i + j)) := by
    show double.mul x y = _
    unfold Format.mul
    rw [e1, e2]
    rfl
  refine ⟨_, hval, ?_⟩
  rcases h1 with ⟨rfl, rfl, rfl⟩ | ⟨a1, a2, a3, a4, a5, a6, a7⟩
  · rw [Nat.zero_mul, Int.zero_mul]
    exact fl_zero _ _
  · rcases h2 with ⟨rfl, rfl, rfl⟩ | ⟨b1, b2, b3, b4, b5, b6, b7⟩
    · rw [Nat.mul_zero, Int.mul_zero]
      exact fl_zero _ _
    · have na : a ≠ 0 := by
        rintro rfl
        have := Nat.mul_pos a1 (pow_pos (i + 52).toNat)
        simp at a5
        omega
      have nb : b ≠ 0 := by
        rintro rfl
        have := Nat.mul_pos b1 (pow_pos (j + 52).toNat)
        simp at b5
        omega
      refine fl_write (K := 104) hr (by omega) ?_ ?_
      · have e : (i + j + (104 : Nat)).toNat = (i + 52).toNat + (j + 52).toNat := by omega
        rw [e, Nat.pow_add, Int.natAbs_mul]
        have : m * k * (2 ^ (i + 52).toNat * 2 ^ (j + 52).toNat) = (m * 2 ^ (i + 52).toNat) * (k * 2 ^ (j + 52).toNat) := by
          rw [Nat.mul_assoc, Nat.mul_assoc]
          congr 1
          rw [← Nat.mul_assoc, ← Nat.mul_assoc, Nat.mul_comm k]
        rw [this, a5, b5, show (104 : Nat) = 52 + 52 from rfl, Nat.pow_add, Nat.mul_assoc, Nat.mul_assoc]
        congr 1
        rw [← Nat.mul_assoc, ← Nat.mul_assoc, Nat.mul_comm (2 ^ 52)]
      · intro _
        have sa : s = decide (a < 0) := by
          cases s
          · simp at a7 ⊢
            omega
          · simp at a7 ⊢
            omega
        have sb : t = decide (b < 0) := by
          cases t
          · simp at b7 ⊢
            omega
          · simp at b7 ⊢
            omega
        rw [sa, sb]
        by_cases ha : a < 0 <;> by_cases hb : b < 0
        · simp [ha, hb]
          exact Int.le_of_lt (Int.mul_pos_of_neg_of_neg ha hb)
        · simp [ha, hb]
          exact Int.mul_neg_of_neg_of_pos ha (by omega)
        · simp [ha, hb]
          exact Int.mul_neg_of_pos_of_neg (by omega) hb
        · simp [ha, hb]
          exact Int.le_of_lt (Int.mul_pos (by omega) (by omega))

/-- Two that stand for whole numbers stand to each other as these do. -/
theorem fl_order {x y : Nat} {a b : Int} (hx : Fl x a) (hy : Fl y b) : double.order x y = some (compare a b) := by
  obtain ⟨s, m, i, e1, h1⟩ := hx
  obtain ⟨t, k, j, e2, h2⟩ := hy
  obtain ⟨K, hK⟩ : ∃ K : Nat, K = 1074 := ⟨_, rfl⟩
  obtain ⟨a1, a2⟩ := h1.val K (by omega)
  obtain ⟨b1, b2⟩ := h2.val K (by omega)
  unfold Format.order
  rw [e1, e2]
  show some (compare (signed s m (i - min i j).toNat) (signed t k (j - min i j).toNat)) = _
  obtain ⟨base, hbase⟩ : ∃ z, z = min i j := ⟨_, rfl⟩
  rw [← hbase]
  have p1 := pow_posI (base + K).toNat
  have p2 := pow_posI K
  have ea : signed s m (i - base).toNat * 2 ^ (base + K).toNat = a * 2 ^ K := by
    rw [signed_eq, Int.mul_assoc, ← Int.pow_add, show (i - base).toNat + (base + K).toNat = (i + K).toNat by omega, a2]
  have eb : signed t k (j - base).toNat * 2 ^ (base + K).toNat = b * 2 ^ K := by
    rw [signed_eq, Int.mul_assoc, ← Int.pow_add, show (j - base).toNat + (base + K).toNat = (j + K).toNat by omega, b2]
  generalize signed s m (i - base).toNat = A at *
  generalize signed t k (j - base).toNat = B at *
  have hlt : A < B ↔ a < b := by
    constructor
    · intro h
      have := Int.mul_lt_mul_of_pos_right h p1
      rw [ea, eb] at this
      exact Int.lt_of_mul_lt_mul_right this (by omega)
    · intro h
      have := Int.mul_lt_mul_of_pos_right h p2
      rw [← ea, ← eb] at this
      exact Int.lt_of_mul_lt_mul_right this (by omega)
  have heq : A = B ↔ a = b := by
    constructor
    · rintro rfl
      exact Int.eq_of_mul_eq_mul_right (by omega) (ea.symm.trans eb)
    · rintro rfl
      exact Int.eq_of_mul_eq_mul_right (by omega) (ea.trans eb.symm)
  congr 1
  simp only [compare, compareOfLessAndEq, hlt, heq]

/-- As an integer. -/
theorem fl_toInt {x : Nat} {n : Int} (hx : Fl x n) : (double.read x).toInt .zero = some n := by
  obtain ⟨s, m, e, e1, h1⟩ := hx
  rw [e1]
  show some (signed s (Toward.zero.cut s (m <<< e.toNat) (-e).toNat) 0) = some n
  congr 1
  rcases h1 with ⟨rfl, rfl, rfl⟩ | ⟨h1, h2, h3, h4, h5, h6, h7⟩
  · cases s <;> simp [signed, Toward.cut]
  · have hcut : Toward.zero.cut s (m <<< e.toNat) (-e).toNat = n.natAbs := by
      by_cases he : 0 ≤ e
      · have e0 : (-e).toNat = 0 := by omega
        have e2 : (e + 52).toNat = e.toNat + 52 := by omega
        rw [e2, Nat.pow_add, ← Nat.mul_assoc] at h5
        have := Nat.eq_of_mul_eq_mul_right (pow_pos 52) h5
        rw [e0, Nat.shiftLeft_eq, this]
        unfold Toward.cut
        simp
      · have e0 : e.toNat = 0 := by omega
        obtain ⟨d, hd⟩ : ∃ d, d = (-e).toNat := ⟨_, rfl⟩
        have e2 : 52 = (e + 52).toNat + d := by omega
        have hm : m = n.natAbs * 2 ^ d := by
          apply Nat.eq_of_mul_eq_mul_right (pow_pos (e + 52).toNat)
          rw [h5, Nat.mul_assoc, ← Nat.pow_add, Nat.add_comm d, ← e2]
        have hn : 0 < n.natAbs := by
          rcases Nat.eq_zero_or_pos n.natAbs with h | h
          · rw [h] at hm
            omega
          · exact h
        rw [e0, ← hd, Nat.shiftLeft_zero, hm]
        have hle : d ≤ (n.natAbs * 2 ^ d).log2 + 2 := by
          have g1 : 2 ^ d ≤ n.natAbs * 2 ^ d := Nat.le_mul_of_pos_left _ hn
          have g2 : n.natAbs * 2 ^ d < 2 ^ ((n.natAbs * 2 ^ d).log2 + 1) := Nat.lt_log2_self
          have := (Nat.pow_lt_pow_iff_right (a := 2) (by omega)).1 (Nat.lt_of_le_of_lt g1 g2)
          omega
        unfold Toward.cut
        simp only [Nat.min_eq_left hle, Nat.one_shiftLeft, Nat.mul_div_cancel _ (pow_pos d)]
        simp
    rw [hcut]
    unfold signed
    cases s
    · have : ¬ n < 0 := by simpa using h7
      simp
      omega
    · have : n < 0 := by simpa using h7
      simp
      omega

theorem fl_int {x : Nat} {n : Int} (hx : Fl x n) (h0 : -9223372036854775808 ≤ n) (h1 : n ≤ 9223372036854775807) : floatToIntVal .f64 x .i64 = some n := by
  unfold floatToIntVal
  have : (FloatKind.f64.decode x).toInt .zero = some n := fl_toInt hx
  rw [this]
  have e0 : IntKind.i64.min = -9223372036854775808 := by rfl
  have e1 : IntKind.i64.max = 9223372036854775807 := by rfl
  exact if_pos ⟨by rw [e0]; exact h0, by rw [e1]; exact h1⟩

end Go.Fl
