/- The codec's sum, its bytes; copies; what the laws' 'knows' comes to. -/
import Derived.Test.YtomgifkpnfgimaaSA
import Derived.Test.YtomgifkpnfgimaaSxm
namespace Go.Proofs.YtomgifkpnfgimaaC
open Go.Proofs Go.Proofs.YtomgifkpnfgimaaSx
set_option maxRecDepth 100000
set_option linter.unusedVariables false
/-! ### The sum -/
def bx (c b : Int) : Int := IntKind.u64.wrap ↑(BitVec.ofInt 64 c ^^^ BitVec.ofInt 64 (IntKind.u64.wrap (IntKind.u64.wrap b * 2 ^ 56))).toNat
def sstep (c : Int) : Int := IntKind.u64.wrap ↑(BitVec.ofInt 64 (IntKind.u64.wrap (c * 2 ^ 1)) ^^^ BitVec.ofInt 64 (IntKind.u64.wrap ↑(BitVec.ofInt 64 4823603603198064275 &&& BitVec.ofInt 64 (IntKind.u64.wrap (0 - c.fdiv (2 ^ 63)))).toNat)).toNat
def iter : Nat → Int → Int
  | 0, c => c
  | n + 1, c => iter n (sstep c)
def sumL : List Int → Int → Int
  | [], c => c
  | b :: l, c => sumL l (iter 8 (bx c b))
theorem drop_cons {l : List Int} {i : Nat} (h : i < l.length) : l.drop i = l.getD i 0 :: l.drop (i + 1) := by
  rw [List.drop_eq_getElem_cons h]
  congr 1
  simp [List.getD, h]
theorem wrap64 {n : Int} (h0 : -9223372036854775808 ≤ n) (h1 : n ≤ 9223372036854775807) : IntKind.i64.wrap n = n := by
  rw [IntKind.wrap_i64]
  omega
abbrev sumS (l : List Int) (c : Int) (i : Nat) : List SV := [.na, .na, .na, .v (iu c), .na, .na, .o 0, .v (it l.length), .v (it i)] ++ List.replicate 20 .na
abbrev sumS2 (l : List Int) (c : Int) (i j : Nat) : List SV := [.na, .na, .na, .v (iu c), .na, .na, .o 0, .v (it l.length), .v (it i), .na, .na, .na, .na, .na, .na, .na, .na, .v (it j)] ++ List.replicate 11 .na
theorem sum_in (l : List Int) (i m : Nat) (res : SV) (T' : Tab cE) (n' : Nat) (hi : i < l.length) (hl : l.length < 9223372036854775807) : ∀ (k : Nat) (c : Int), k ≤ 8 →
    Fin cE Try.f18 1 res T' n' (inK sumK m) (sumS l (iter k c) (i + 1)) [(0, .ro 5 l false)] 1 → Fin cE Try.f18 1 res T' n' (inK (sumK2 m) (k + 1)) (sumS2 l c i (8 - k)) [(0, .ro 5 l false)] 1
  | 0, c, hk, h => by
    refine fin_round ?_
    refine sum2_2 l c i 8 m 0 _ _ _ (by decide) ?_
    have e : IntKind.i64.wrap ((i : Int) + 1) = ((i + 1 : Nat) : Int) := by rw [wrap64 (by omega) (by omega)]; rfl
    rw [e]
    exact fin_weak h (by repeat (first | exact trivial | refine ⟨.inr rfl, ?_⟩ | refine ⟨.inl rfl, ?_⟩))
  | k + 1, c, hk, h => by
    refine fin_round ?_
    refine sum2_1 l c i (8 - (k + 1)) m (k + 1) _ _ _ (by simp; omega) ?_
    have e : IntKind.i64.wrap (((8 - (k + 1) : Nat) : Int) + 1) = ((8 - k : Nat) : Int) := by rw [wrap64 (by omega) (by omega)]; omega
    rw [e]
    exact sum_in l i m res T' n' hi hl k (sstep c) (by omega) h
theorem sum_loop (l : List Int) (hl : l.length < 9223372036854775807) : ∀ (r i : Nat) (c : Int), i + r = l.length → ∀ m, Fin cE Try.f18 1 (.v (iu (sumL (l.drop i) c))) [(0, .ro 5 l false)] 1 (inK sumK (m + r + 1)) (sumS l c i) [(0, .ro 5 l false)] 1
  | 0, i, c, hi, m => by
    refine fin_round ?_
    rw [List.drop_of_length_le (by omega)]
    exact sum1_2 l c i m (by simp; omega)
  | r + 1, i, c, hi, m => by
    refine fin_round ?_
    have hlt : i < l.length := by omega
    refine sum1_1 l c i (m + (r + 1)) _ _ _ (by simp; omega) ⟨by omega, by omega⟩ hlt ?_
    refine fin_loop (8 + 1) ?_
    have ih := sum_loop l hl r (i + 1) (iter 8 (bx c (l.getD i 0))) (by omega) m
    rw [drop_cons hlt]
    have := sum_in l i (m + (r + 1)) (.v (iu (sumL (l.drop (i + 1)) (iter 8 (bx c (l.getD i 0)))))) [(0, .ro 5 l false)] 1 hlt hl 8 (bx c (l.getD i 0)) (by omega) ih
    exact this
theorem Sum_spec (l : List Int) (hl : l.length < 9223372036854775807) : Does cE 18 [(0, .ro 5 l false)] 1 [.o 0] (.v (iu (sumL l 0))) [] 1 := by
  refine Does.nil (T' := [(0, .ro 5 l false)]) ?_ rfl
  refine does_of_fin (fn := Try.f18) (c := bd Try.f18) rfl (by kernel_rfl) rfl ?_
  refine sum0_1 l _ _ _ ?_
  refine fin_loop (0 + l.length + 1) ?_
  exact sum_loop l hl l.length 0 0 (by omega) 0
/-! ### Eight bytes -/
def b8 (c : Int) (k : Nat) : Int := IntKind.u8.wrap (c.fdiv (2 ^ k))
def eightL (c : Int) : List Int := [b8 c 56, b8 c 48, b8 c 40, b8 c 32, b8 c 24, b8 c 16, b8 c 8, b8 c 0]
abbrev eC (i : Nat) : List Prop := [(0 : Int) ≤ (i : Int) ∧ (i : Int) < ((8 : Nat) : Int), i < 8]
theorem eight_spec (c : Int) : Does cE 30 [] 0 [.v (iu c)] (.o 0) [(0, .own 5 (eightL c))] 1 := by
  refine does_path (ct := ct) ctOk mixed (fn := Try.f30) rfl (by kernel_rfl) 2000 (.n 9 :: (rep 8 [.l, .l, .l] ++ [.l, .l])) (p := ((0 : Int) ≤ 8 ∧ (8 : Int) ≤ 8 ∧ (8 : Int) ≤ (maxLen : Int) ∧ ((1 : Nat) : Int) * 8 ≤ 281474976710656) :: (eC 0 ++ eC 1 ++ eC 2 ++ eC 3 ++ eC 4 ++ eC 5 ++ eC 6 ++ eC 7)) (by kernel_rfl) ?_
  refine cj (by unfold maxLen; omega) ?_
  simp [Conj]
/-! ### Copies -/
theorem Clone_spec (l : List Int) (hl : Room l.length 1) : Does cE 33 [(0, .ro 5 l false)] 1 [.o 0] (.o 1) [(1, .own 5 l)] 2 := by
  refine does_split (e := 5) (l := l) (enters (fn := Try.f33) rfl (by kernel_rfl) rfl) ?_ cloneB_1
  have := cloneA_1 l (by simpa using hl)
  exact this
/-! ### A record -/
def recL (l : List Int) : List Int := encN l.length ++ l ++ eightL (sumL l 0)
theorem enc_len (n : Int) : 1 ≤ (encN n).length ∧ (encN n).length ≤ 10 := encF_length 9 _
theorem Record_spec (l : List Int) (hl : l.length ≤ 1048576) : Does cE 13 [(0, .ro 5 l false)] 1 [.o 0] (.t [.o 1, .v (it 0)]) [(1, .own 5 (recL l))] 2 := by
  have h1 := Number_spec l.length (by omega) (by omega)
  have h2 := Sum_spec l (by omega)
  have h3 := eight_spec (sumL l 0)
  have hla := enc_len l.length
  generalize hLa : encN l.length = la at h1 hla
  generalize hLb : eightL (sumL l 0) = lb at h3
  have hlb : lb.length = 8 := by rw [← hLb]; rfl
  have e1 : IntKind.i64.wrap (0 + (la.length : Int)) = la.length := by rw [wrap64 (by omega) (by omega)]; omega
  have e2 : IntKind.i64.wrap ((la.length : Int) + l.length) = ((la.length + l.length : Nat) : Int) := by rw [wrap64 (by omega) (by omega)]; omega
  have e3 : IntKind.i64.wrap (((la.length + l.length : Nat) : Int) + lb.length) = ((la.length + l.length + lb.length : Nat) : Int) := by rw [wrap64 (by omega) (by omega)]; omega
  have e4 : IntKind.i64.wrap ((((0 : Nat) : Int)) - (((0 : Nat) : Int))) = 0 := by rfl
  have e5 : IntKind.i64.wrap (((la.length + l.length + lb.length : Nat) : Int) - 0) = ((la.length + l.length + lb.length : Nat) : Int) := by rw [wrap64 (by omega) (by omega)]; omega
  have e6 : IntKind.i64.wrap (0 + 1) = 1 := by rfl
  have e7 : IntKind.i64.wrap (1 + 1) = 2 := by rfl
  have h := record_1 l la lb (sumL l 0)
  simp only [e1, e2, e3, e4, e5, e6, e7] at h
  have h' := h (by simp; omega) h1 h2 h3 (by omega) (by first | (simp; done) | (simp; omega)) (by omega) (by first | (simp; done) | (simp; omega)) (by omega) (by first | (simp; done) | (simp; omega)) (by first | (simp; done) | (simp; omega)) ⟨by omega, room_small (by omega)⟩ ⟨by omega, by omega, by simp; omega⟩ (by simp) (room_small (by simp; omega)) (room_small (by simp; omega)) (room_small (by simp; omega))
  have e8 : recL l = List.take (0 - Int.toNat 0) (List.replicate (((la.length + l.length + lb.length : Nat) : Int)).toNat (0 : Int)) ++ la ++ l ++ lb := by
    unfold recL
    rw [hLa, hLb]
    simp
  rw [e8]
  exact Does.sub h' (by simp) (fun k x hk => by
    rw [look_cons] at hk
    split at hk
    · rename_i hk1
      cases hk
      subst hk1
      rfl
    · simp [Go.Proofs.YtomgifkpnfgimaaSx.look] at hk)
/-! ### What the laws know -/
theorem numc : Does cE 35 [(0, .ro 5 ([4, 97, 98] : List Int) false)] 1 [.o 0] (.v (.tuple #[it 2, it 1, it 0])) [] 1 := by
  refine Does.nil (T' := [(0, .ro 5 ([4, 97, 98] : List Int) false)]) ?_ rfl
  exact does_path (ct := ct) ctOk mixed (fn := Try.f35) rfl (by kernel_rfl) 2000 ([.n 0] ++ [.l, .l, .f, .f, .l, .f, .f, .l, .f, .f, .l, .l]) (p := [(0 : Int) ≤ 0 ∧ (0 : Int) < ((3 : Nat) : Int), 0 < 3, false = false, false = false, false = false, false = false, false = false, false = false]) (by kernel_rfl) (by simp [Conj])
theorem knows_spec : Does cE 21 [] 0 [] (.v (.bool true)) [] 0 := by
  have h0 := Number_spec 2 (by decide) (by decide)
  have h2 := Record_spec [] (by decide)
  have h4 := Number_spec (-1) (by decide) (by decide)
  have h6 := Number_spec 64 (by decide) (by decide)
  have h11 := Clone_spec [4, 97, 98] (room_small (by decide))
  have h := knows_5 (encN 2) 0 (recL []) (encN (-1)) (encN 64) [4, 97, 98] 2 1 0 h0 (room_small (by decide)) h2 (by decide) h4 (by kernel_rfl) h6 (by kernel_rfl) (by kernel_rfl) (by unfold maxLen; omega) (by kernel_rfl) h11 numc (by decide) (by decide) (by decide) (by decide) (by decide) (by decide) (by decide)
  have e : ((bytesOf (List.take ((IntKind.i64.wrap (1 + 2)).toNat - (1 : Int).toNat) (List.drop (1 : Int).toNat [4, 97, 98]))).toList == (ByteArray.mk #[97, 98]).toList) = true := by kernel_rfl
  rw [e] at h
  exact h
end Go.Proofs.YtomgifkpnfgimaaC
