/- What the codec's number reads of what Number wrote. -/
import Derived.Test.YtomgifkpnfgimaaCr
import Derived.Test.YtomgifkpnfgimaaPJ
namespace Go.Proofs.YtomgifkpnfgimaaC
open Go.Proofs Go.Proofs.YtomgifkpnfgimaaSx
set_option maxRecDepth 100000
set_option linter.unusedVariables false
theorem low7 : ∀ x : Fin 256, (BitVec.ofInt 8 ((x.val : Nat) : Int) &&& ~~~BitVec.ofInt 8 128).toNat = x.val % 128 := by decide
theorem or_eq (u c i : Nat) (hu : u < 2 ^ (7 * i)) (hi : i ≤ 9) (hc : c < 256) (ht : c % 128 * 2 ^ (7 * i) < 18446744073709551616) :
    IntKind.u64.wrap ↑(BitVec.ofInt 64 (u : Int) ||| BitVec.ofInt 64 (IntKind.u64.wrap (IntKind.u64.wrap (IntKind.u8.wrap ↑(BitVec.ofInt 8 (c : Int) &&& ~~~BitVec.ofInt 8 128).toNat) * 2 ^ Min.min (IntKind.i64.wrap (7 * (i : Int))).toNat 64))).toNat = ((u + c % 128 * 2 ^ (7 * i) : Nat) : Int) := by
  have h1 := low7 ⟨c, hc⟩
  simp only at h1
  have e1 : Min.min (IntKind.i64.wrap (7 * (i : Int))).toNat 64 = 7 * i := by rw [wrap64 (by omega) (by omega)]; omega
  have e2 : IntKind.u64.wrap (IntKind.u8.wrap ((c % 128 : Nat) : Int)) = ((c % 128 : Nat) : Int) := by rw [wrap8, wrapU]; omega
  rw [h1, e1, e2, ofInt_wrap]
  have e3 : ((c % 128 : Nat) : Int) * 2 ^ (7 * i) = ((c % 128 * 2 ^ (7 * i) : Nat) : Int) := by simp
  rw [e3]
  have hP : 2 ^ (7 * i) ≤ 2 ^ 63 := Nat.pow_le_pow_right (by decide) (by omega)
  have e4 : (BitVec.ofInt 64 (u : Int) ||| BitVec.ofInt 64 ((c % 128 * 2 ^ (7 * i) : Nat) : Int)).toNat = u + c % 128 * 2 ^ (7 * i) := by
    rw [BitVec.toNat_or, BitVec.toNat_ofInt, BitVec.toNat_ofInt]
    generalize hq : c % 128 * 2 ^ (7 * i) = q at ht
    generalize hp : 2 ^ (7 * i) = p at hu hP
    have a1 : ((u : Int) % ((2 ^ 64 : Nat) : Int)).toNat = u := by omega
    have a2 : ((q : Int) % ((2 ^ 64 : Nat) : Int)).toNat = q := by omega
    rw [a1, a2, ← hq, Nat.or_comm, ← Nat.shiftLeft_eq, ← Nat.shiftLeft_add_eq_or_of_lt (by rw [hp]; exact hu), Nat.add_comm]
  rw [e4]
  have hs : u + c % 128 * 2 ^ (7 * i) < 18446744073709551616 := by
    rw [← e4]
    exact BitVec.isLt _
  rw [wrapU]
  omega
theorem or_eq0 (c : Nat) (hc : c < 256) :
    IntKind.u64.wrap ↑(BitVec.ofInt 64 0 ||| BitVec.ofInt 64 (IntKind.u64.wrap (IntKind.u64.wrap (IntKind.u8.wrap ↑(BitVec.ofInt 8 (c : Int) &&& ~~~BitVec.ofInt 8 128).toNat) * 2 ^ Min.min (IntKind.i64.wrap (7 * 0)).toNat 64))).toNat = ((c % 128 : Nat) : Int) :=
  (or_eq 0 c 0 (by decide) (by decide) hc (by simp; omega)).trans (by simp)
/-- A number with its sign again. -/
def unz (u : Nat) : Int := if u % 2 = 0 then ((u / 2 : Nat) : Int) else -((u / 2 : Nat) : Int) - 1
theorem unz_zz {n : Int} : unz (zz n) = n := by
  unfold unz zz
  split <;> split <;> omega
theorem un_eq (u : Nat) (hu : u < 18446744073709551616) :
    IntKind.i64.wrap ↑(BitVec.ofInt 64 (IntKind.i64.wrap ((u : Int).fdiv (2 ^ 1))) ^^^ BitVec.ofInt 64 (IntKind.i64.wrap (0 - IntKind.i64.wrap (IntKind.u64.wrap ↑(BitVec.ofInt 64 (u : Int) &&& BitVec.ofInt 64 1).toNat)))).toNat = unz u := by
  have e1 : IntKind.i64.wrap ((u : Int).fdiv (2 ^ 1)) = ((u / 2 : Nat) : Int) := by
    rw [Int.fdiv_eq_ediv_of_nonneg _ (by decide), wrap64 (by omega) (by omega)]
    omega
  have e2 : (BitVec.ofInt 64 (u : Int) &&& BitVec.ofInt 64 1).toNat = u % 2 := by
    rw [BitVec.toNat_and, BitVec.toNat_ofInt, BitVec.toNat_ofInt]
    have a : ((u : Int) % ((2 ^ 64 : Nat) : Int)).toNat = u := by omega
    have b : ((1 : Int) % ((2 ^ 64 : Nat) : Int)).toNat = 1 := by decide
    rw [a, b, Nat.and_one_is_mod]
  have e3 : IntKind.u64.wrap ((u % 2 : Nat) : Int) = ((u % 2 : Nat) : Int) := by rw [wrapU]; omega
  have e4 : IntKind.i64.wrap ((u % 2 : Nat) : Int) = ((u % 2 : Nat) : Int) := wrap64 (by omega) (by omega)
  rw [e1, e2, e3, e4]
  unfold unz
  by_cases h : u % 2 = 0
  · have e5 : IntKind.i64.wrap (0 - ((0 : Nat) : Int)) = 0 := by rfl
    have e6 : BitVec.ofInt 64 (0 : Int) = 0#64 := by rfl
    rw [h, e5, e6, if_pos rfl, BitVec.xor_zero, BitVec.toNat_ofInt]
    have a : ((((u / 2 : Nat) : Int) % ((2 ^ 64 : Nat) : Int)).toNat : Int) = ((u / 2 : Nat) : Int) := by omega
    rw [a, wrap64 (by omega) (by omega)]
  · have h1 : u % 2 = 1 := by omega
    have e5 : BitVec.ofInt 64 (IntKind.i64.wrap (0 - ((1 : Nat) : Int))) = BitVec.allOnes 64 := by rfl
    rw [h1, e5, if_neg (by omega), xor_ones, BitVec.toNat_not, BitVec.toNat_ofInt]
    have a : (((u / 2 : Nat) : Int) % ((2 ^ 64 : Nat) : Int)).toNat = u / 2 := by omega
    rw [a, IntKind.wrap_i64]
    omega
theorem drop_head {l r : List Int} {i : Nat} {c : Int} (h : l.drop i = c :: r) : l.getD i 0 = c ∧ i < l.length ∧ l.drop (i + 1) = r := by
  have hi : i < l.length := by
    have := congrArg List.length h
    simp at this
    omega
  rw [drop_cons hi] at h
  simp only [List.cons.injEq] at h
  exact ⟨h.1, hi, h.2⟩
abbrev nbS (u i : Nat) : List SV := [.o 0, .na, .na, .v (it i), .na, .v (iu u)] ++ List.replicate 42 .na
theorem split128 (v P : Nat) : v * P = v / 128 * (128 * P) + v % 128 * P := by
  conv => lhs; rw [← Nat.div_add_mod v 128]
  rw [Nat.add_mul, Nat.mul_comm 128 (v / 128), Nat.mul_assoc]
theorem pow_next (i : Nat) : 2 ^ (7 * (i + 1)) = 128 * 2 ^ (7 * i) := by
  rw [Nat.mul_add, Nat.pow_add, Nat.mul_comm]
/-- One round where more is to come. -/
theorem nb_more {i u v m : Nat} {l r : List Int} {res : SV} {T' : Tab cE} {n' : Nat} (hi : i ≤ 8) (hu : u < 2 ^ (7 * i)) (ht : u + v * 2 ^ (7 * i) < 18446744073709551616) (hl : l.length < 4611686018427387904) (hd : l.drop i = ((v % 128 + 128 : Nat) : Int) :: r)
    (h : Fin cE Try.f35 1 res T' n' (nbM m) (nbS (u + v % 128 * 2 ^ (7 * i)) (i + 1)) [(0, .ro 5 l false)] 1) : Fin cE Try.f35 1 res T' n' (nbM (m + 1)) (nbS u i) [(0, .ro 5 l false)] 1 := by
  obtain ⟨hc, hlt, hr⟩ := drop_head hd
  have hp := split128 v (2 ^ (7 * i))
  have hm : (v % 128 + 128) % 128 = v % 128 := by omega
  have ho := or_eq u (v % 128 + 128) i hu (by omega) (by omega) (by rw [hm]; omega)
  rw [hm, ← hc] at ho
  have e : IntKind.i64.wrap ((i : Int) + 1) = ((i + 1 : Nat) : Int) := by rw [wrap64 (by omega) (by omega)]; rfl
  have h7 := nb1_7 l (u : Int) i m res T' n' (by simp; omega) ⟨by omega, by omega⟩ hlt (by simp; omega) (by rw [wrap64 (by omega) (by omega)]; simp; omega) (by rw [hc]; simp; omega)
  rw [ho, e] at h7
  exact h7 h
/-- The last round. -/
theorem nb_last {i u v m : Nat} {l r : List Int} (hi : i ≤ 9) (hu : u < 2 ^ (7 * i)) (hv0 : 0 < v) (hv : v < 128) (ht : u + v * 2 ^ (7 * i) < 18446744073709551616) (hl : l.length < 4611686018427387904) (hd : l.drop i = (v : Int) :: r) :
    Fin cE Try.f35 1 (.v (.tuple #[it (unz (u + v * 2 ^ (7 * i))), it (i + 1 : Nat), it 0])) [(0, .ro 5 l false)] 1 (nbM (m + 1)) (nbS u i) [(0, .ro 5 l false)] 1 := by
  obtain ⟨hc, hlt, hr⟩ := drop_head hd
  have hm : v % 128 = v := by omega
  have ho := or_eq u v i hu (by omega) (by omega) (by rw [hm]; omega)
  rw [hm, ← hc] at ho
  have hn := un_eq _ ht
  have e : IntKind.i64.wrap ((i : Int) + 1) = ((i + 1 : Nat) : Int) := by rw [wrap64 (by omega) (by omega)]; rfl
  by_cases h9 : i = 9
  · have hv1 : v ≤ 1 := by
      subst h9
      have : (2 : Nat) ^ (7 * 9) = 9223372036854775808 := by decide
      rw [this] at ht
      omega
    have h := nb1_6 l (u : Int) i m (by simp; omega) ⟨by omega, by omega⟩ hlt (by simp; omega) (by rw [hc]; simp; omega) (by rw [wrap64 (by omega) (by omega)]; simp; omega) (by rw [hc]; simp; omega) (by rw [hc]; simp; omega)
    rw [ho, e, hn] at h
    exact h
  · have h := nb1_10 l (u : Int) i m (by simp; omega) ⟨by omega, by omega⟩ hlt (by simp; omega) (by rw [wrap64 (by omega) (by omega)]; simp; omega) (by rw [hc]; simp; omega) (by rw [hc]; simp; omega)
    rw [ho, e, hn] at h
    exact h
theorem encF_more {f v : Nat} (h : ¬ v < 128) : encF (f + 1) v = ((v % 128 + 128 : Nat) : Int) :: encF f (v / 128) := by rw [encF, if_neg h]
theorem encF_last {f v : Nat} (h : v < 128) : encF f v = [(v : Int)] := by
  cases f with
  | zero => rfl
  | succ f => rw [encF, if_pos h]
theorem small_next {u v i : Nat} (hu : u < 2 ^ (7 * i)) : u + v % 128 * 2 ^ (7 * i) < 2 ^ (7 * (i + 1)) := by
  rw [pow_next]
  have := Nat.mul_le_mul_right (2 ^ (7 * i)) (Nat.le_of_lt_succ (Nat.mod_lt v (y := 128) (by decide)))
  omega
theorem sum_next (u v i : Nat) : u + v % 128 * 2 ^ (7 * i) + v / 128 * 2 ^ (7 * (i + 1)) = u + v * 2 ^ (7 * i) := by
  rw [pow_next, split128 v]
  omega
theorem nb_loop : ∀ (f i u v : Nat) (l r : List Int), i + f = 9 → u < 2 ^ (7 * i) → 0 < v → v < 128 ^ (f + 1) → u + v * 2 ^ (7 * i) < 18446744073709551616 → l.length < 4611686018427387904 → l.drop i = encF f v ++ r → ∀ m,
    Fin cE Try.f35 1 (.v (.tuple #[it (unz (u + v * 2 ^ (7 * i))), it (i + (encF f v).length : Nat), it 0])) [(0, .ro 5 l false)] 1 (nbM (m + f + 1)) (nbS u i) [(0, .ro 5 l false)] 1
  | 0, i, u, v, l, r, hf, hu, hv0, hv, ht, hl, hd, m => by
    have hv' : v < 128 := by omega
    rw [encF_last hv'] at hd ⊢
    exact nb_last (by omega) hu hv0 hv' ht hl hd
  | f + 1, i, u, v, l, r, hf, hu, hv0, hv, ht, hl, hd, m => by
    by_cases hs : v < 128
    · rw [encF_last hs] at hd ⊢
      exact nb_last (by omega) hu hv0 hs ht hl hd
    · rw [encF_more hs] at hd ⊢
      have hd2 : l.drop i = ((v % 128 + 128 : Nat) : Int) :: (encF f (v / 128) ++ r) := hd
      refine nb_more (by omega) hu ht hl hd2 ?_
      have ih := nb_loop f (i + 1) (u + v % 128 * 2 ^ (7 * i)) (v / 128) l r (by omega) (small_next hu) (by omega) (by
        refine Nat.div_lt_of_lt_mul ?_
        rw [Nat.mul_comm]
        exact hv) (by rw [sum_next]; exact ht) hl (drop_head hd2).2.2 m
      rw [sum_next] at ih
      have e : i + 1 + (encF f (v / 128)).length = i + (((v % 128 + 128 : Nat) : Int) :: encF f (v / 128)).length := by simp; omega
      rw [e] at ih
      exact ih
theorem nb_start {l : List Int} {res : SV} {T' : Tab cE} {n' : Nat} (m : Nat) (h : Fin cE Try.f35 1 res T' n' (scK nbK m) ([.o 0, .na, .na, .v (it 0)] ++ List.replicate 44 .na) [(0, .ro 5 l false)] 1) : Does cE 35 [(0, .ro 5 l false)] 1 [.o 0] res T' n' := by
  refine does_of_fin (fn := Try.f35) (c := bd Try.f35) rfl (by kernel_rfl) rfl ?_
  refine nbA_1 l _ _ _ ?_
  exact fin_scope m h
theorem nb_first {m v : Nat} {l r : List Int} {res : SV} {T' : Tab cE} {n' : Nat} (hl : l.length < 4611686018427387904) (hd : l.drop 0 = ((v % 128 + 128 : Nat) : Int) :: r)
    (h : Fin cE Try.f35 1 res T' n' (nbM m) (nbS (v % 128) 1) [(0, .ro 5 l false)] 1) : Fin cE Try.f35 1 res T' n' (scK nbK (m + 1)) ([.o 0, .na, .na, .v (it 0)] ++ List.replicate 44 .na) [(0, .ro 5 l false)] 1 := by
  obtain ⟨hc, hlt, hr⟩ := drop_head hd
  have hm : (v % 128 + 128) % 128 = v % 128 := by omega
  have ho := or_eq0 (v % 128 + 128) (by omega)
  rw [hm, ← hc] at ho
  have h2 := nb0_2 l m res T' n' (by simp; omega) ⟨by omega, by omega⟩ hlt (by rw [show Int.toNat 0 = 0 from rfl, hc]; simp; omega)
  rw [show Int.toNat 0 = 0 from rfl, ho] at h2
  exact h2 h
theorem number_spec (n : Int) (h0 : -9223372036854775808 ≤ n) (h1 : n ≤ 9223372036854775807) (r : List Int) (hl : (encN n ++ r).length < 4611686018427387904) :
    Does cE 35 [(0, .ro 5 (encN n ++ r) false)] 1 [.o 0] (.v (.tuple #[it n, it ((encN n).length : Nat), it 0])) [] 1 := by
  have hlt := zz_lt h0 h1
  have hu := unz_zz (n := n)
  unfold encN at hl ⊢
  generalize zz n = z at hlt hu hl
  refine Does.nil (T' := [(0, .ro 5 (encF 9 z ++ r) false)]) ?_ rfl
  refine nb_start ((0 + 8 + 1) + 1) ?_
  by_cases hs : z < 128
  · rw [encF_last hs] at hl ⊢
    have hd : ([(z : Int)] ++ r).getD (Int.toNat 0) 0 = (z : Int) := rfl
    have ho := or_eq0 z (by omega)
    have hm : z % 128 = z := by omega
    have hn := un_eq z hlt
    rw [hu] at hn
    rw [hm, ← hd] at ho
    rw [← hd] at hn
    by_cases hz : z = 0
    · have h := nb0_3 ([(z : Int)] ++ r) (0 + 8 + 1) (by first | (simp; done) | (simp; omega)) ⟨by omega, by first | (simp; done) | (simp; omega)⟩ (by simp [Nat.succ_le_iff]) (by rw [hd]; simp; omega) (by rw [hd]; simp <;> omega)
      rw [ho, hn] at h
      exact h
    · have h := nb0_4 ([(z : Int)] ++ r) (0 + 8 + 1) (by first | (simp; done) | (simp; omega)) ⟨by omega, by first | (simp; done) | (simp; omega)⟩ (by simp [Nat.succ_le_iff]) (by rw [hd]; simp; omega) (by rw [hd]; simp <;> omega)
      rw [ho, hn] at h
      exact h
  · rw [encF_more hs] at hl ⊢
    have hd : ((((z % 128 + 128 : Nat) : Int) :: encF 8 (z / 128)) ++ r).drop 0 = ((z % 128 + 128 : Nat) : Int) :: (encF 8 (z / 128) ++ r) := rfl
    refine nb_first hl hd ?_
    have ih := nb_loop 8 1 (z % 128) (z / 128) _ r rfl (by omega) (by omega) (by omega) (by omega) hl (drop_head hd).2.2 0
    have e1 : z % 128 + z / 128 * 2 ^ (7 * 1) = z := by omega
    have e2 : 1 + (encF 8 (z / 128)).length = (((z % 128 + 128 : Nat) : Int) :: encF 8 (z / 128)).length := by simp; omega
    rw [e1, hu, e2] at ih
    exact ih
/-! ### Cut short -/
theorem nb_end {i u m : Nat} {l : List Int} (hl : l.length = i) : Fin cE Try.f35 1 (.v (.tuple #[it 0, it 0, it 20])) [(0, .ro 5 l false)] 1 (nbM (m + 1)) (nbS u i) [(0, .ro 5 l false)] 1 :=
  nb1_1 l (u : Int) i m (by simp; omega)
theorem nb_cut : ∀ (f i u v j : Nat) (l : List Int), i + f = 9 → u < 2 ^ (7 * i) → v < 128 ^ (f + 1) → u + v * 2 ^ (7 * i) < 18446744073709551616 → l.length < 4611686018427387904 → i ≤ l.length → l.drop i = (encF f v).take j → j < (encF f v).length → ∀ m,
    Fin cE Try.f35 1 (.v (.tuple #[it 0, it 0, it 20])) [(0, .ro 5 l false)] 1 (nbM (m + f + 1)) (nbS u i) [(0, .ro 5 l false)] 1
  | f, i, u, v, 0, l, hf, hu, hv, ht, hl, hil, hd, hj, m => by
    refine nb_end ?_
    have := congrArg List.length hd
    simp at this
    omega
  | 0, i, u, v, j + 1, l, hf, hu, hv, ht, hl, hil, hd, hj, m => by
    simp [encF] at hj
  | f + 1, i, u, v, j + 1, l, hf, hu, hv, ht, hl, hil, hd, hj, m => by
    by_cases hs : v < 128
    · rw [encF_last hs] at hj
      simp at hj
    · rw [encF_more hs] at hd hj
      have hd2 : l.drop i = ((v % 128 + 128 : Nat) : Int) :: ((encF f (v / 128)).take j) := hd
      refine nb_more (by omega) hu ht hl hd2 ?_
      obtain ⟨_, hlt, hr⟩ := drop_head hd2
      exact nb_cut f (i + 1) (u + v % 128 * 2 ^ (7 * i)) (v / 128) j l (by omega) (small_next hu) (by
        refine Nat.div_lt_of_lt_mul ?_
        rw [Nat.mul_comm]
        exact hv) (by rw [sum_next]; exact ht) hl (by omega) hr (by simpa using hj) m
theorem number_cut (n : Int) (h0 : -9223372036854775808 ≤ n) (h1 : n ≤ 9223372036854775807) (j : Nat) (hj : j < (encN n).length) :
    Does cE 35 [(0, .ro 5 ((encN n).take j) false)] 1 [.o 0] (.v (.tuple #[it 0, it 0, it 20])) [] 1 := by
  have hlt := zz_lt h0 h1
  have hlen := enc_len n
  unfold encN at hj hlen ⊢
  generalize zz n = z at hlt hj hlen
  have hl : ((encF 9 z).take j).length < 4611686018427387904 := by simp; omega
  refine Does.nil (T' := [(0, .ro 5 ((encF 9 z).take j) false)]) ?_ rfl
  refine nb_start ((0 + 8 + 1) + 1) ?_
  cases j with
  | zero => exact nb0_1 _ _ (by rfl)
  | succ j =>
    by_cases hs : z < 128
    · rw [encF_last hs] at hj
      simp at hj
    · rw [encF_more hs] at hl hj ⊢
      have hd : ((((z % 128 + 128 : Nat) : Int) :: encF 8 (z / 128)).take (j + 1)).drop 0 = ((z % 128 + 128 : Nat) : Int) :: ((encF 8 (z / 128)).take j) := rfl
      refine nb_first hl hd ?_
      obtain ⟨_, hlt2, hr⟩ := drop_head hd
      exact nb_cut 8 1 (z % 128) (z / 128) j _ rfl (by omega) (by omega) (by omega) hl (by omega) hr (by simpa using hj) 0
end Go.Proofs.YtomgifkpnfgimaaC
