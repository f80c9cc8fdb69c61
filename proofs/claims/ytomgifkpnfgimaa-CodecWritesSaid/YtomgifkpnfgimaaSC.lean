/- The reference's number, sum and bytes: they are the codec's. -/
import Derived.Test.YtomgifkpnfgimaaCr
import Derived.Test.YtomgifkpnfgimaaPH
namespace Go.Proofs.YtomgifkpnfgimaaC
open Go.Proofs Go.Proofs.YtomgifkpnfgimaaSx
set_option maxRecDepth 100000
set_option linter.unusedVariables false
/-! ### The number -/
theorem tdiv128 (u : Nat) (hu : u < 18446744073709551616) : IntKind.u64.wrap ((u : Int).tdiv 128) = ((u / 128 : Nat) : Int) := by
  rw [Int.tdiv_eq_ediv_of_nonneg (by omega), wrapU]
  omega
theorem byte_add (u : Nat) : IntKind.u8.wrap (IntKind.u8.wrap ((u : Int).tmod 128) + 128) = ((u % 128 + 128 : Nat) : Int) := by
  have e : (u : Int).tmod 128 = ((u % 128 : Nat) : Int) := by
    rw [Int.tmod_eq_emod_of_nonneg (by omega)]
    simp
  have e2 : ((u % 128 % 256 : Nat) : Int) + 128 = ((u % 128 + 128 : Nat) : Int) := by omega
  rw [e, wrap8, e2, wrap8]
  omega
theorem rnum_loop : ∀ (f u : Nat) (l : List Int), u < 128 ^ (f + 1) → u < 18446744073709551616 → l.length + f ≤ 100 → ∀ m, Fin cE Try.f16 0 (.o 0) [(0, .own 5 (l ++ encF f u))] 1 (inK rnumK (m + f + 1)) ([.na, .na, .na, .v (iu u), .o 0] ++ List.replicate 18 .na) [(0, .own 5 l)] 1
  | 0, u, l, hu, hu2, hl, m => by
    have h := rnum2_2 (u : Int) l (m + 0) (by simp; omega) (room_small (by simp; omega))
    rw [wrap8, Nat.mod_eq_of_lt (by omega)] at h
    exact fin_round h
  | f + 1, u, l, hu, hu2, hl, m => by
    by_cases hs : u < 128
    · have h := rnum2_2 (u : Int) l (m + (f + 1)) (by simp; omega) (room_small (by simp; omega))
      rw [wrap8, Nat.mod_eq_of_lt (by omega)] at h
      have e : encF (f + 1) u = [(u : Int)] := by unfold encF; rw [if_pos hs]
      rw [e]
      exact fin_round h
    · have ih := rnum_loop f (u / 128) (l ++ [((u % 128 + 128 : Nat) : Int)]) (by
        refine Nat.div_lt_of_lt_mul ?_
        rw [Nat.mul_comm]
        exact hu) (by omega) (by simp; omega) m
      have e : encF (f + 1) u = ((u % 128 + 128 : Nat) : Int) :: encF f (u / 128) := by rw [encF, if_neg hs]
      have h := rnum2_1 (u : Int) l (m + (f + 1)) (.o 0) [(0, .own 5 (l ++ encF (f + 1) u))] 1 (by simp; omega) (room_small (by simp; omega))
      rw [byte_add, tdiv128 u hu2] at h
      refine fin_round (h ?_)
      rw [e]
      rw [List.append_assoc] at ih
      exact ih
theorem rnum_tail (n : Int) (z : Nat) (hlt : z < 18446744073709551616) : ∃ m, Fin cE Try.f16 0 (.o 0) [(0, .own 5 (encF 9 z))] 1 (inK rnumK m) ([.na, .na, .na, .v (iu z), .v nilS] ++ List.replicate 18 .na) [] 0 := by
  by_cases hs : z < 128
  · refine ⟨0 + 1, fin_round ?_⟩
    have h := rnum1_2 (z : Int) 0 (by simp; omega) (room_small (by simp))
    rw [wrap8, Nat.mod_eq_of_lt (by omega)] at h
    have e : encF 9 z = [(z : Int)] := by unfold encF; rw [if_pos hs]
    rw [e]
    exact h
  · refine ⟨(0 + 8 + 1) + 1, fin_round ?_⟩
    have e : encF 9 z = ((z % 128 + 128 : Nat) : Int) :: encF 8 (z / 128) := by rw [encF, if_neg hs]
    have h := rnum1_1 (z : Int) (0 + 8 + 1) (.o 0) [(0, .own 5 (encF 9 z))] 1 (by simp; omega) (room_small (by simp))
    rw [byte_add, tdiv128 z hlt] at h
    refine h ?_
    have ih := rnum_loop 8 (z / 128) [((z % 128 + 128 : Nat) : Int)] (by omega) (by omega) (by simp) 0
    rw [e]
    exact ih
theorem rNumber_spec (n : Int) (h0 : -9223372036854775808 ≤ n) (h1 : n ≤ 9223372036854775807) : Does cE 16 [] 0 [.v (it n)] (.o 0) [(0, .own 5 (encN n))] 1 := by
  have hlt := zz_lt h0 h1
  refine does_of_fin (fn := Try.f16) (c := bd Try.f16) rfl (by kernel_rfl) rfl ?_
  obtain ⟨m, ht⟩ := rnum_tail n (zz n) hlt
  by_cases hn : 0 ≤ n
  · refine rnum0_1 n _ _ _ (by simp; omega) ?_
    have e : IntKind.u64.wrap (2 * IntKind.u64.wrap n) = ((zz n : Nat) : Int) := by
      unfold zz
      rw [if_pos hn, wrapU, wrapU]
      omega
    rw [e]
    exact fin_loop m ht
  · refine rnum0_2 n _ _ _ (by simp; omega) ?_
    have e : IntKind.u64.wrap (IntKind.u64.wrap (2 * IntKind.u64.wrap (IntKind.i64.wrap (0 - IntKind.i64.wrap (n + 1)))) + 1) = ((zz n : Nat) : Int) := by
      unfold zz
      rw [if_neg hn, wrap64 (n := n + 1) (by omega) (by omega), wrap64 (by omega) (by omega), wrapU, wrapU, wrapU]
      omega
    rw [e]
    exact fin_loop m ht
/-! ### The sum -/
def rstep (c : W) (v : BitVec 8) (k : Nat) : W := (c <<< 1) ^^^ (if (c.msb != v.getLsbD k) then polyB else 0#64)
def rit (v : BitVec 8) : Nat → W → W
  | 0, c => c
  | k + 1, c => rit v k (rstep c v k)
theorem shl_succ (v : W) (n : Nat) : v <<< n <<< 1 = v <<< (n + 1) := (BitVec.shiftLeft_add v n 1).symm
theorem rit_eq (v : BitVec 8) : ∀ (k : Nat) (c : W), k ≤ 8 → biter k (c ^^^ (v.setWidth 64) <<< (64 - k)) = rit v k c
  | 0, c, _ => by
    unfold biter rit
    rw [BitVec.shiftLeft_eq_zero (by omega), BitVec.xor_zero]
  | k + 1, c, hk => by
    unfold biter rit
    rw [← rit_eq v k (rstep c v k) (by omega)]
    congr 1
    rw [bstep_xor]
    have e : 64 - (k + 1) + 1 = 64 - k := by omega
    have hm : ((v.setWidth 64) <<< (64 - (k + 1))).msb = v.getLsbD k := by
      rw [BitVec.msb_eq_getLsbD_last, BitVec.getLsbD_shiftLeft]
      have e1 : 64 - 1 - (64 - (k + 1)) = k := by omega
      have e2 : (64 - 1 < 64 - (k + 1)) = False := by simp
      rw [e1, BitVec.getLsbD_setWidth]
      simp only [e2]
      have e3 : k < 64 := by omega
      simp [e3]
    unfold rstep bstep bmask
    rw [hm, shl_succ, e]
    generalize c <<< 1 = x
    generalize (v.setWidth 64) <<< (64 - k) = y
    have hp : polyB &&& BitVec.allOnes 64 = polyB := BitVec.and_allOnes
    have hz : polyB &&& 0#64 = 0#64 := BitVec.and_zero
    have bt : (true != false) = true := rfl
    have bf : (false != true) = true := rfl
    cases c.msb <;> cases v.getLsbD k <;> simp only [bt, bf, bne_self_eq_false, Bool.false_eq_true, if_false, if_true, hp, hz, BitVec.xor_zero]
    all_goals first
      | ac_rfl
      | (have e5 : x ^^^ polyB ^^^ (y ^^^ polyB) = x ^^^ y ^^^ (polyB ^^^ polyB) := by ac_rfl
         rw [e5, BitVec.xor_self, BitVec.xor_zero])
theorem top_bit (c : W) : BitVec.ofInt 64 ((c.toNat : Int).fdiv (2 ^ 63)) = if c.msb then 1#64 else 0#64 := by
  rw [Int.fdiv_eq_ediv_of_nonneg _ (by decide), BitVec.msb_eq_decide]
  have := c.isLt
  by_cases hc : 2 ^ (64 - 1) ≤ c.toNat
  · have e : (c.toNat : Int) / 2 ^ 63 = 1 := by omega
    rw [e, decide_eq_true hc, if_pos rfl]
    rfl
  · have e : (c.toNat : Int) / 2 ^ 63 = 0 := by omega
    rw [e, decide_eq_false hc, if_neg (by simp)]
    rfl
theorem bit_at (v : BitVec 8) (k : Nat) (hk : k < 8) : BitVec.ofInt 64 (IntKind.u64.wrap ↑(BitVec.ofInt 64 ((IntKind.u64.wrap (v.toNat : Int)).fdiv (2 ^ Min.min (IntKind.u64.wrap (k : Int)).toNat 64)) &&& BitVec.ofInt 64 1).toNat) = if v.getLsbD k then 1#64 else 0#64 := by
  have hv := v.isLt
  have e1 : IntKind.u64.wrap (v.toNat : Int) = (v.toNat : Int) := by rw [wrapU]; omega
  have e2 : Min.min (IntKind.u64.wrap (k : Int)).toNat 64 = k := by rw [wrapU]; omega
  rw [ofInt_wrap, e1, e2, Int.fdiv_eq_ediv_of_nonneg _ (Int.le_of_lt (Int.pow_pos (by decide)))]
  have e3 : (v.toNat : Int) / 2 ^ k = ((v.toNat / 2 ^ k : Nat) : Int) := by simp
  rw [e3, BitVec.getLsbD, Nat.testBit_eq_decide_div_mod_eq]
  have hlt : v.toNat / 2 ^ k < 256 := Nat.lt_of_le_of_lt (Nat.div_le_self _ _) hv
  clear e1 e2 e3
  generalize v.toNat / 2 ^ k = q at hlt
  apply BitVec.eq_of_toNat_eq
  have e4 : (BitVec.ofInt 64 ((q : Nat) : Int) &&& BitVec.ofInt 64 1).toNat = q % 2 := by
    rw [BitVec.toNat_and, BitVec.toNat_ofInt, BitVec.toNat_ofInt]
    have a : ((((q : Nat) : Int)) % ((2 ^ 64 : Nat) : Int)).toNat = q := by omega
    have b : ((1 : Int) % ((2 ^ 64 : Nat) : Int)).toNat = 1 := by decide
    rw [a, b, Nat.and_one_is_mod]
  rw [BitVec.toNat_ofInt, e4]
  by_cases hb : q % 2 = 1
  · rw [hb]
    rfl
  · have : q % 2 = 0 := by omega
    rw [this]
    rfl
theorem bit_cond (c : W) (v : BitVec 8) (k : Nat) (hk : k < 8) : (IntKind.u64.wrap ↑(BitVec.ofInt 64 ((c.toNat : Int).fdiv (2 ^ 63)) ^^^ BitVec.ofInt 64 (IntKind.u64.wrap ↑(BitVec.ofInt 64 ((IntKind.u64.wrap (v.toNat : Int)).fdiv (2 ^ Min.min (IntKind.u64.wrap (k : Int)).toNat 64)) &&& BitVec.ofInt 64 1).toNat)).toNat == 1) = (c.msb != v.getLsbD k) := by
  rw [top_bit, bit_at v k hk, wrap_nat]
  cases c.msb <;> cases v.getLsbD k <;> rfl
theorem rstep_t (c : W) (v : BitVec 8) (k : Nat) (h : (c.msb != v.getLsbD k) = true) : IntKind.u64.wrap ↑(BitVec.ofInt 64 (IntKind.u64.wrap ((c.toNat : Int) * 2 ^ 1)) ^^^ BitVec.ofInt 64 4823603603198064275).toNat = ((rstep c v k).toNat : Int) := by
  have h1 : BitVec.ofInt 64 (IntKind.u64.wrap ((c.toNat : Int) * 2 ^ 1)) = c <<< 1 := by
    apply BitVec.eq_of_toNat_eq
    rw [BitVec.toNat_ofInt, wrapU, BitVec.toNat_shiftLeft, Nat.shiftLeft_eq]
    omega
  have h3 : BitVec.ofInt 64 4823603603198064275 = polyB := by rfl
  unfold rstep
  rw [h, if_pos rfl, h1, h3, wrap_nat]
theorem rstep_f (c : W) (v : BitVec 8) (k : Nat) (h : (c.msb != v.getLsbD k) = false) : IntKind.u64.wrap ((c.toNat : Int) * 2 ^ 1) = ((rstep c v k).toNat : Int) := by
  unfold rstep
  rw [h, if_neg (by simp), BitVec.xor_zero, wrapU, BitVec.toNat_shiftLeft, Nat.shiftLeft_eq]
  omega
theorem rsum_in (l : List Int) (i m : Nat) (v : BitVec 8) (hv : l.getD i 0 = (v.toNat : Int)) (res : SV) (T' : Tab cE) (n' : Nat) (hi : i < l.length) (hl : l.length < 9223372036854775807) : ∀ (k : Nat) (c : W) (j : Int), k ≤ 8 → j = (k : Int) - 1 →
    Fin cE Try.f19 1 res T' n' (inK rsumK m) ([.o 0, .na, .na, .v (iu (rit v k c).toNat), .v (it (i + 1 : Nat))] ++ List.replicate 31 .na) [(0, .ro 5 l false)] 1 →
    Fin cE Try.f19 1 res T' n' (inK (rsumK2 m) (k + 1)) ([.o 0, .na, .na, .v (iu c.toNat), .v (it i), .v (it j)] ++ List.replicate 30 .na) [(0, .ro 5 l false)] 1
  | 0, c, j, hk, hj, h => by
    refine fin_round ?_
    have ej : j = -1 := by omega
    subst ej
    refine rsum3_1 l (c.toNat : Int) i m 0 _ _ _ ?_
    have e : IntKind.i64.wrap ((i : Int) + 1) = ((i + 1 : Nat) : Int) := by rw [wrap64 (by omega) (by omega)]; rfl
    rw [e]
    exact fin_weak h (by repeat (first | exact trivial | refine ⟨.inr rfl, ?_⟩ | refine ⟨.inl rfl, ?_⟩))
  | k + 1, c, j, hk, hj, h => by
    refine fin_round ?_
    have ej : j = (k : Int) := by omega
    subst ej
    have hb := bit_cond c v k (by omega)
    rw [← hv] at hb
    have e : IntKind.i64.wrap ((k : Int) - 1) = (k : Int) - 1 := wrap64 (by omega) (by omega)
    by_cases hx : (c.msb != v.getLsbD k) = true
    · refine rsum2_1 l (c.toNat : Int) i k m (k + 1) _ _ _ ⟨by omega, by omega⟩ hi (hb.trans hx) ?_
      rw [rstep_t c v k hx, e]
      exact rsum_in l i m v hv res T' n' hi hl k (rstep c v k) _ (by omega) rfl h
    · have hx := Bool.eq_false_iff.2 hx
      refine rsum2_2 l (c.toNat : Int) i k m (k + 1) _ _ _ ⟨by omega, by omega⟩ hi (hb.trans hx) ?_
      rw [rstep_f c v k hx, e]
      exact rsum_in l i m v hv res T' n' hi hl k (rstep c v k) _ (by omega) rfl h
theorem rit_bsh (v : BitVec 8) (c : W) : rit v 8 c = biter 8 (c ^^^ bsh (v.toNat : Int)) := by
  rw [bsh_eq, ← rit_eq v 8 c (by omega)]
theorem rsum_loop (l : List Int) (hb : ∀ x ∈ l, 0 ≤ x ∧ x < 256) (hl : l.length < 9223372036854775807) : ∀ (r i : Nat) (c : W), i + r = l.length → ∀ m, Fin cE Try.f19 1 (.v (iu (sumL (l.drop i) c.toNat))) [(0, .ro 5 l false)] 1 (inK rsumK (m + r + 1)) ([.o 0, .na, .na, .v (iu c.toNat), .v (it i)] ++ List.replicate 31 .na) [(0, .ro 5 l false)] 1
  | 0, i, c, hi, m => by
    refine fin_round ?_
    rw [List.drop_of_length_le (by omega)]
    exact rsum1_2 l (c.toNat : Int) i m (by simp; omega)
  | r + 1, i, c, hi, m => by
    refine fin_round ?_
    have hlt : i < l.length := by omega
    refine rsum1_1 l (c.toNat : Int) i (m + (r + 1)) _ _ _ (by simp; omega) ?_
    refine fin_loop (8 + 1) ?_
    have hbx := hb (l.getD i 0) (by simp [List.getD, hlt])
    have hv : l.getD i 0 = ((BitVec.ofInt 8 (l.getD i 0)).toNat : Int) := by rw [BitVec.toNat_ofInt]; omega
    have ih := rsum_loop l hb hl r (i + 1) (rit (BitVec.ofInt 8 (l.getD i 0)) 8 c) (by omega) m
    have e : sumL (l.drop i) (c.toNat : Int) = sumL (l.drop (i + 1)) ((rit (BitVec.ofInt 8 (l.getD i 0)) 8 c).toNat : Int) := by
      rw [drop_cons hlt]
      show sumL (l.drop (i + 1)) (iter 8 (bx (c.toNat : Int) (l.getD i 0))) = _
      rw [bx_eq, iter_eq, rit_bsh, ← hv]
    rw [e]
    exact rsum_in l i (m + (r + 1)) (BitVec.ofInt 8 (l.getD i 0)) hv _ _ _ hlt hl 8 c 7 (by omega) (by omega) ih
theorem rSum_spec (l : List Int) (hb : ∀ x ∈ l, 0 ≤ x ∧ x < 256) (hl : l.length < 9223372036854775807) : Does cE 19 [(0, .ro 5 l false)] 1 [.o 0] (.v (iu (sumL l 0))) [] 1 := by
  refine Does.nil (T' := [(0, .ro 5 l false)]) ?_ rfl
  refine does_of_fin (fn := Try.f19) (c := bd Try.f19) rfl (by kernel_rfl) rfl ?_
  refine rsum0_1 l _ _ _ ?_
  refine fin_loop (0 + l.length + 1) ?_
  exact rsum_loop l hb hl l.length 0 0#64 (by omega) 0
/-! ### Eight bytes -/
def rb (c : Int) : Int → Int := fun k => IntKind.u8.wrap (c.fdiv (2 ^ Min.min (IntKind.u64.wrap k).toNat IntKind.u64.bits))
def down : Nat → Int → Int
  | 0, k => k
  | n + 1, k => down n (IntKind.i64.wrap (k - 8))
def rE (c : Int) : Nat → List Int
  | 0 => []
  | n + 1 => rE c n ++ [rb c (down n 56)]
theorem reight_spec (c : Int) : Does cE 31 [] 0 [.v (iu c)] (.o 0) [(0, .own 5 (eightL c))] 1 := by
  refine does_path (ct := ct) ctOk mixed (fn := Try.f31) rfl (by kernel_rfl) 2000 (.n 9 :: (rep 8 [.l, .l, .l] ++ [.l, .l])) (p := [Room 1 1, Room 2 1, Room 3 1, Room 4 1, Room 5 1, Room 6 1, Room 7 1, Room 8 1]) (by kernel_rfl) ?_
  have h : ∀ n, n ≤ 8 → Room n 1 := fun n hn => room_small (by omega)
  simp [Conj, h]
/-! ### A record -/
theorem rRecord_spec (l : List Int) (hb : ∀ x ∈ l, 0 ≤ x ∧ x < 256) (hl : l.length ≤ 1048576) : Does cE 14 [(0, .ro 5 l false)] 1 [.o 0] (.t [.o 1, .v (it 0)]) [(0, .ro 5 l false), (1, .own 5 (recL l))] 2 := by
  have hla := enc_len l.length
  have h := refrec_2 l (encN l.length) (sumL l 0) (eightL (sumL l 0)) (by simp; omega) (rNumber_spec l.length (by omega) (by omega)) (room_small (by omega)) (rSum_spec l hb (by omega)) (reight_spec _) (room_small (by
    have : (eightL (sumL l 0)).length = 8 := rfl
    rw [this]
    simp
    omega))
  exact h
end Go.Proofs.YtomgifkpnfgimaaC
