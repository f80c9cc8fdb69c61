/- CodecRot, in plain terms: a record with one byte that is another one is told by its sum. -/
import Derived.Test.YtomgifkpnfgimaaLFi
import Derived.Test.YtomgifkpnfgimaaPT
namespace Go.Proofs.YtomgifkpnfgimaaC
open Go.Proofs Go.Proofs.YtomgifkpnfgimaaSx Go.RowKit
set_option maxRecDepth 100000
set_option linter.unusedVariables false
/-! ### The sum tells one byte -/
theorem bstep_zero (z : W) (h : bstep z = 0#64) : z = 0#64 := by
  unfold bstep bmask at h
  cases hm : z.msb with
  | false =>
    rw [hm, if_neg (by simp), BitVec.and_zero, BitVec.xor_zero] at h
    rw [BitVec.msb_eq_decide] at hm
    have h1 := congrArg BitVec.toNat h
    rw [BitVec.toNat_shiftLeft, Nat.shiftLeft_eq] at h1
    have h2 : ¬ 2 ^ (64 - 1) ≤ z.toNat := by simpa using hm
    apply BitVec.eq_of_toNat_eq
    have h3 : (0#64).toNat = 0 := rfl
    rw [h3] at h1 ⊢
    omega
  | true =>
    exfalso
    rw [hm, if_pos rfl, BitVec.and_allOnes] at h
    have h1 := congrArg (fun v : W => v.getLsbD 0) h
    simp only [BitVec.getLsbD_xor, BitVec.getLsbD_shiftLeft] at h1
    have h2 : polyB.getLsbD 0 = true := by decide
    rw [h2] at h1
    simp at h1
theorem bstep_inj {x y : W} (h : bstep x = bstep y) : x = y := by
  have h1 : bstep (x ^^^ y) = 0#64 := by rw [bstep_xor, h, BitVec.xor_self]
  have h2 := bstep_zero _ h1
  have h3 : x ^^^ y ^^^ y = 0#64 ^^^ y := by rw [h2]
  rw [BitVec.xor_assoc, BitVec.xor_self, BitVec.xor_zero, BitVec.zero_xor] at h3
  exact h3
theorem biter_inj : ∀ (n : Nat) {x y : W}, biter n x = biter n y → x = y
  | 0, _, _, h => h
  | n + 1, _, _, h => bstep_inj (biter_inj n h)
theorem xor_right {a b c : W} (h : a ^^^ c = b ^^^ c) : a = b := by
  have h3 : a ^^^ c ^^^ c = b ^^^ c ^^^ c := by rw [h]
  rwa [BitVec.xor_assoc, BitVec.xor_assoc, BitVec.xor_self, BitVec.xor_zero, BitVec.xor_zero] at h3
theorem xor_left {a b c : W} (h : c ^^^ a = c ^^^ b) : a = b := by
  rw [BitVec.xor_comm c a, BitVec.xor_comm c b] at h
  exact xor_right h
theorem sumB_inj : ∀ (l : List Int) {x y : W}, sumB l x = sumB l y → x = y
  | [], _, _, h => h
  | b :: l, _, _, h => xor_right (biter_inj 8 (sumB_inj l h))
theorem bsh_inj {x y : Int} (hx : 0 ≤ x ∧ x < 256) (hy : 0 ≤ y ∧ y < 256) (h : bsh x = bsh y) : x = y := by
  have h1 := congrArg BitVec.toNat h
  unfold bsh at h1
  rw [BitVec.toNat_ofInt, BitVec.toNat_ofInt, wrapU, wrapU, wrapU, wrapU] at h1
  omega
theorem sumB_set : ∀ (l : List Int) (i : Nat) (v : Int) (c : W), i < l.length → bsh v ≠ bsh (l.getD i 0) → sumB (l.set i v) c ≠ sumB l c
  | [], i, v, c, hi, hv => by simp at hi
  | b :: l, 0, v, c, hi, hv => by
    intro h
    exact hv (xor_left (biter_inj 8 (sumB_inj l h)))
  | b :: l, i + 1, v, c, hi, hv => by
    intro h
    exact sumB_set l i v _ (by simpa using hi) (by simpa using hv) h
theorem sumL_set (l : List Int) (i : Nat) (v : Int) (hi : i < l.length) (hv : 0 ≤ v ∧ v < 256) (hb : Byteish l) (hne : v ≠ l.getD i 0) : sumL (l.set i v) 0 ≠ sumL l 0 := by
  intro h
  rw [sum0_eq, sum0_eq] at h
  have h1 : (sumB (l.set i v) 0#64) = sumB l 0#64 := BitVec.eq_of_toNat_eq (by omega)
  exact sumB_set l i v 0#64 hi (fun h2 => hne (bsh_inj hv (hb _ (by simp [List.getD, hi])) h2)) h1
theorem b8_eq (c : Int) (k : Nat) : b8 c k = c / 2 ^ k % 256 := by
  unfold b8
  rw [Int.fdiv_eq_ediv_of_nonneg _ (Int.le_of_lt (Int.pow_pos (by decide)))]
  simp [IntKind.wrap, IntKind.bits, IntKind.signed]
theorem eight_inj {c d : Int} (hc : 0 ≤ c ∧ c < 18446744073709551616) (hd : 0 ≤ d ∧ d < 18446744073709551616) (h : eightL c = eightL d) : c = d := by
  simp only [eightL, List.cons.injEq, b8_eq, and_true] at h
  omega
theorem sum_range (l : List Int) : 0 ≤ sumL l 0 ∧ sumL l 0 < 18446744073709551616 := by
  rw [sum0_eq]
  have := (sumB l 0#64).isLt
  omega
theorem eight_byteish (c : Int) : Byteish (eightL c) := by
  intro x hx
  simp only [eightL, List.mem_cons, List.not_mem_nil, or_false, b8_eq] at hx
  omega
/-! ### One byte that is another one -/
theorem xb_byte (b x : Int) : 0 ≤ xb b x ∧ xb b x < 256 := by
  unfold xb
  rw [wrap8]
  omega
theorem xb_ne {b x : Int} (hb : 0 ≤ b ∧ b < 256) (hx : 0 < x ∧ x < 256) : xb b x ≠ b := by
  intro h
  unfold xb at h
  have hlt := (BitVec.ofInt 8 b ^^^ BitVec.ofInt 8 x).isLt
  rw [wrap8, Nat.mod_eq_of_lt hlt] at h
  have h1 : (BitVec.ofInt 8 b).toNat = b.toNat := by rw [BitVec.toNat_ofInt]; omega
  have h2 : BitVec.ofInt 8 b ^^^ BitVec.ofInt 8 x = BitVec.ofInt 8 b := BitVec.eq_of_toNat_eq (by omega)
  have h3 : BitVec.ofInt 8 b ^^^ (BitVec.ofInt 8 b ^^^ BitVec.ofInt 8 x) = BitVec.ofInt 8 b ^^^ BitVec.ofInt 8 b := by rw [h2]
  rw [← BitVec.xor_assoc, BitVec.xor_self, BitVec.zero_xor] at h3
  have h4 := congrArg BitVec.toNat h3
  rw [BitVec.toNat_ofInt] at h4
  have h5 : (0#8).toNat = 0 := rfl
  rw [h5] at h4
  omega
theorem set_ne {l : List Int} {i : Nat} {v : Int} (hi : i < l.length) (hne : v ≠ l.getD i 0) : l.set i v ≠ l := by
  intro h
  have h1 : (l.set i v).getD i 0 = l.getD i 0 := by rw [h]
  simp [List.getD, hi] at h1
  exact hne (by simp [List.getD, hi, h1])
theorem rot_bytes (l : List Int) (hb : Byteish l) (hl : l.length ≤ 1048576) (x : Int) (hx : 0 < x ∧ x < 256) (j : Nat) (h1 : (encN l.length).length ≤ j) (h2 : j < (recL l).length) :
    Does cE 28 [(0, .ro 5 ((recL l).set j (xb ((recL l).getD j 0) x)) false)] 1 [.o 0] (.v (.tuple #[.slice none 0 0, it 0, it 22])) [] 1 := by
  have hlen := rec_len l
  obtain ⟨i, rfl⟩ : ∃ i, j = (encN l.length).length + i := ⟨j - (encN l.length).length, by omega⟩
  have hr : recL l = encN l.length ++ (l ++ eightL (sumL l 0)) := by simp [recL]
  have hg : (recL l).getD ((encN l.length).length + i) 0 = (l ++ eightL (sumL l 0)).getD i 0 := by
    rw [hr]
    simp [List.getD, List.getElem?_append_right]
  have hs : ∀ v, (recL l).set ((encN l.length).length + i) v = encN l.length ++ (l ++ eightL (sumL l 0)).set i v := by
    intro v
    rw [hr, List.set_append_right _ _ (by omega)]
    congr 2
    omega
  rw [hg]
  by_cases hi : i < l.length
  · have hg2 : (l ++ eightL (sumL l 0)).getD i 0 = l.getD i 0 := by simp [List.getD, List.getElem?_append_left hi]
    rw [hg2]
    have hbi := hb (l.getD i 0) (by simp [List.getD, hi])
    have hne := xb_ne hbi hx
    have hv := xb_byte (l.getD i 0) x
    generalize xb (l.getD i 0) x = v at hne hv ⊢
    have e : laid (l.set i v) (eightL (sumL l 0)) [] = (recL l).set ((encN l.length).length + i) v := by
      rw [hs, List.set_append_left _ _ hi]
      simp [laid]
    have hsum := sumL_set l i v hi hv hb hne
    have h := (unrec_laid (l.set i v) (eightL (sumL l 0)) [] (by simpa using hl) rfl (by simp)).2 (fun h => hsum (eight_inj (sum_range _) (sum_range _) h.symm))
    exact ro_to e (Does.nil h rfl)
  · obtain ⟨q, rfl⟩ : ∃ q, i = l.length + q := ⟨i - l.length, by omega⟩
    have hq : q < (eightL (sumL l 0)).length := by rw [eight_len]; omega
    have hg2 : (l ++ eightL (sumL l 0)).getD (l.length + q) 0 = (eightL (sumL l 0)).getD q 0 := by simp [List.getD, List.getElem?_append_right]
    rw [hg2]
    have hbi := eight_byteish (sumL l 0) ((eightL (sumL l 0)).getD q 0) (by simp only [List.getD, List.getElem?_eq_getElem hq, Option.getD_some]; exact List.getElem_mem hq)
    have hne := xb_ne hbi hx
    generalize xb ((eightL (sumL l 0)).getD q 0) x = v at hne ⊢
    have e : laid l ((eightL (sumL l 0)).set q v) [] = (recL l).set ((encN l.length).length + (l.length + q)) v := by
      rw [hs, List.set_append_right _ _ (by omega)]
      simp [laid]
    have h := (unrec_laid l ((eightL (sumL l 0)).set q v) [] hl (by rw [List.length_set]; rfl) (by simp)).2 (set_ne hq hne)
    exact ro_to e (Does.nil h rfl)
theorem rot_does (l : List Int) (hb : Byteish l) (k x : Int) (hk : -9223372036854775808 ≤ k ∧ k ≤ 9223372036854775807) (hx : 0 ≤ x ∧ x < 256) :
    Does cE 9 [(0, .ro 5 l false)] 1 [.o 0, .v (it k), .v (.int .u8 x)] (.v (.bool true)) [(0, .ro 5 l false)] 1 := by
  by_cases hl : l.length ≤ 1048576
  · by_cases h0 : x = 0
    · subst h0
      exact ro1_1 l k 0 0 (recL l) true (Record_spec l hl) (by rfl) (by rfl) knows_spec
    · have he := enc_len l.length
      have hlen := rec_len l
      have h := ro0_1 l k x 0 (recL l) 0 22 true (Record_spec l hl) (by rfl) (beq_eq_false_iff_ne.2 h0)
      have w0 : IntKind.i64.wrap ((l.length : Int) + 8) = (l.length : Int) + 8 := wrap64 (by omega) (by omega)
      have w1 : IntKind.i64.wrap (((recL l).length : Int) - (l.length : Int)) = ((recL l).length : Int) - (l.length : Int) := wrap64 (by omega) (by omega)
      have w2 : IntKind.i64.wrap (((recL l).length : Int) - (l.length : Int) - 8) = ((encN l.length).length : Int) := by rw [wrap64 (by omega) (by omega)]; omega
      have t1 := tmod_in k ((l.length : Int) + 8) (by omega)
      have w3 : IntKind.i64.wrap (k.tmod ((l.length : Int) + 8) + (l.length : Int)) = k.tmod ((l.length : Int) + 8) + (l.length : Int) := wrap64 (by omega) (by omega)
      have w4 : IntKind.i64.wrap (k.tmod ((l.length : Int) + 8) + (l.length : Int) + 8) = k.tmod ((l.length : Int) + 8) + (l.length : Int) + 8 := wrap64 (by omega) (by omega)
      have t2 := tmod_in (k.tmod ((l.length : Int) + 8) + (l.length : Int) + 8) ((l.length : Int) + 8) (by omega)
      have t3 : 0 ≤ (k.tmod ((l.length : Int) + 8) + (l.length : Int) + 8).tmod ((l.length : Int) + 8) := Int.tmod_nonneg _ (by omega)
      simp only [w0, w1, w2, w3, w4] at h
      generalize (k.tmod ((l.length : Int) + 8) + (l.length : Int) + 8).tmod ((l.length : Int) + 8) = y at h t2 t3
      have w5 : IntKind.i64.wrap (((encN l.length).length : Int) + y) = (((encN l.length).length + y.toNat : Nat) : Int) := by rw [wrap64 (by omega) (by omega)]; omega
      rw [w5] at h
      have w6 : (((encN l.length).length + y.toNat : Nat) : Int).toNat = (encN l.length).length + y.toNat := Int.toNat_natCast _
      rw [w6] at h
      exact h (by simp; omega) (beq_eq_false_iff_ne.2 (by omega)) ⟨by omega, by omega⟩ (by show _ + 1 ≤ _; omega) (rot_bytes l hb hl x (by omega) _ (by omega) (by omega)) (by rfl) (by rfl) knows_spec
  · exact ro2_1 l k x 6 true (big13 l hl) (by rfl) knows_spec
theorem rot_true (a0 : Option Addr) (len0 cap0 : Nat) (z0 : List Int) (a1 a2 : Int) (W : World) (w0 : IsRow .u8 W a0 len0 cap0 z0) (y0 : len0 * 1 ≤ 140737488351232) (w1 : (Lit.int .i64 a1).wf = true) (w2 : (Lit.int .u8 a2).wf = true) :
    Calls Try.prog 9 #[.slice a0 len0 cap0, .int .i64 a1, .int .u8 a2] W fun e w' => e = .returned (.bool true) ∧ Below W.heap.size W w' := by
  have hw : -9223372036854775808 ≤ a1 ∧ a1 ≤ 9223372036854775807 := by simpa [Lit.wf, IntKind.min, IntKind.max, IntKind.signed, IntKind.bits] using w1
  have hw2 : 0 ≤ a2 ∧ a2 ≤ 255 := by simpa [Lit.wf, IntKind.min, IntKind.max, IntKind.signed, IntKind.bits] using w2
  obtain ⟨l0, b0⟩ := row_bytes w0
  have h := rot_does (z0.take len0) b0 a1 a2 hw (by omega)
  refine law_rows [.row a0 len0 cap0 z0, .val (.int .i64 a1), .val (.int .u8 a2)] (enters (fn := Try.f9) rfl (by kernel_rfl) rfl) h W ?_
  intro a len cap z hz
  simp only [List.mem_cons, ArgD.row.injEq, List.not_mem_nil, or_false, reduceCtorEq] at hz
  obtain ⟨rfl, rfl, rfl, rfl⟩ := hz
  exact w0
end Go.Proofs.YtomgifkpnfgimaaC
