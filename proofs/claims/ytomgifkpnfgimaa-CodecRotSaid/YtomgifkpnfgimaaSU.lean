/- What Unrecord answers where a record stands, whole, cut short or changed. -/
import Derived.Test.YtomgifkpnfgimaaSJ
import Derived.Test.YtomgifkpnfgimaaSE
import Derived.Test.YtomgifkpnfgimaaPU
namespace Go.Proofs.YtomgifkpnfgimaaC
open Go.Proofs Go.Proofs.YtomgifkpnfgimaaSx
set_option maxRecDepth 100000
set_option linter.unusedVariables false
theorem ro_to {a b : List Int} (h : a = b) {g n' : Nat} {v : SV} {T' : Tab cE} (hd : Does cE g [(0, .ro 5 a false)] 1 [.o 0] v T' n') : Does cE g [(0, .ro 5 b false)] 1 [.o 0] v T' n' := by
  subst h
  exact hd
theorem ro_to2 {a b c : List Int} (h : a = b) {g n' : Nat} {v : SV} {T' : Tab cE} (hd : Does cE g [(0, .ro 5 a false), (1, .ro 5 c false)] 2 [.o 0, .o 1] v T' n') : Does cE g [(0, .ro 5 b false), (1, .ro 5 c false)] 2 [.o 0, .o 1] v T' n' := by
  subst h
  exact hd
theorem eight_len (c : Int) : (eightL c).length = 8 := rfl
section
variable (d t rest : List Int)
abbrev laid : List Int := encN d.length ++ (d ++ (t ++ rest))
theorem laid_len : (laid d t rest).length = (encN d.length).length + d.length + t.length + rest.length := by
  simp only [laid, List.length_append]
  omega
theorem laid_in : (laid d t rest).drop (encN d.length).length = d ++ (t ++ rest) := by simp [laid]
theorem laid_end : (laid d t rest).drop ((encN d.length).length + d.length) = t ++ rest := by
  rw [← List.drop_drop, laid_in]
  simp
/-- Both answers, where as many bytes stand there. -/
theorem unrec_laid (hd : d.length ≤ 1048576) (ht : t.length = 8) (hr : rest.length ≤ 140737489000000) :
    (t = eightL (sumL d 0) → Does cE 28 [(0, .ro 5 (laid d t rest) false)] 1 [.o 0] (.t [.o 1, .v (it ((encN d.length).length + d.length + 8 : Nat)), .v (it 0)]) [(0, .ro 5 (laid d t rest) false), (1, .own 5 d)] 2) ∧
    (t ≠ eightL (sumL d 0) → Does cE 28 [(0, .ro 5 (laid d t rest) false)] 1 [.o 0] (.v (.tuple #[.slice none 0 0, it 0, it 22])) [(0, .ro 5 (laid d t rest) false)] 1) := by
  have hl := laid_len d t rest
  have he := enc_len d.length
  have hin := laid_in d t rest
  have hend := laid_end d t rest
  have hnum := number_spec d.length (by omega) (by omega) (d ++ (t ++ rest)) (by rw [← laid, hl]; omega)
  have hnum' : Does cE 35 [(0, .ro 5 (laid d t rest) false)] 1 [.o 0] (.v (.tuple #[it d.length, it ((encN d.length).length : Nat), it 0])) [] 1 := hnum
  generalize laid d t rest = L at hl hin hend hnum' ⊢
  generalize (encN d.length).length = e at hl he hin hend hnum' ⊢
  have w1 : IntKind.i64.wrap ((e : Int) + (d.length : Int)) = ((e + d.length : Nat) : Int) := by rw [wrap64 (by omega) (by omega)]; omega
  have w2 : IntKind.i64.wrap (((e + d.length : Nat) : Int) + 8) = ((e + d.length + 8 : Nat) : Int) := by rw [wrap64 (by omega) (by omega)]; omega
  have w3 : IntKind.i64.wrap (IntKind.i64.wrap ((L.length : Int) - (e : Int)) - 8) = ((d.length + rest.length : Nat) : Int) := by
    rw [wrap64 (n := (L.length : Int) - (e : Int)) (by omega) (by omega), wrap64 (by omega) (by omega)]
    omega
  have e1 : List.take (((e + d.length : Nat) : Int).toNat - (e : Int).toNat) (List.drop (e : Int).toNat L) = d := by
    have a1 : ((e + d.length : Nat) : Int).toNat - (e : Int).toNat = d.length := by omega
    have a2 : (e : Int).toNat = e := by omega
    rw [a1, a2, hin]
    simp
  have e2 : List.take (((e + d.length + 8 : Nat) : Int).toNat - ((e + d.length : Nat) : Int).toNat) (List.drop ((e + d.length : Nat) : Int).toNat L) = t := by
    have a1 : ((e + d.length + 8 : Nat) : Int).toNat - ((e + d.length : Nat) : Int).toNat = 8 := by omega
    have a2 : ((e + d.length : Nat) : Int).toNat = e + d.length := by omega
    rw [a1, a2, hend, ← ht]
    simp
  have c1 := ro_to e1.symm (Clone_spec d (room_small (by omega)))
  have c2 := Sum_spec d (by omega)
  have c3 := eight_spec (sumL d 0)
  have c4 := ro_to2 e2.symm (Equal_spec t (eightL (sumL d 0)) (by omega) (by rw [eight_len]; omega))
  refine ⟨fun hq => ?_, fun hq => ?_⟩
  · have h := unrec_6 L d.length e 0 d (sumL d 0) (eightL (sumL d 0)) (decide (t = eightL (sumL d 0))) hnum' (by rfl) (by first | (simp; done) | (simp; omega)) (by first | (simp; done) | (simp; omega))
    rw [w3] at h
    simp only [w1, w2] at h
    exact h (by simp; omega) ⟨by omega, by omega, by omega⟩ (by omega) c1 ⟨by omega, by omega, by omega⟩ c2 c3 (by omega) c4 (by rw [decide_eq_true hq]; rfl)
  · have h := unrec_5 L d.length e 0 d (sumL d 0) (eightL (sumL d 0)) (decide (t = eightL (sumL d 0))) hnum' (by rfl) (by first | (simp; done) | (simp; omega)) (by first | (simp; done) | (simp; omega))
    rw [w3] at h
    simp only [w1, w2] at h
    exact h (by simp; omega) ⟨by omega, by omega, by omega⟩ (by omega) c1 ⟨by omega, by omega, by omega⟩ c2 c3 (by omega) c4 (by rw [decide_eq_false hq]; rfl)
end
/-- A record cut short. -/
theorem unrec_cut (d : List Int) (hd : d.length ≤ 1048576) (j : Nat) (hj : j < (recL d).length) : Does cE 28 [(0, .ro 5 ((recL d).take j) false)] 1 [.o 0] (.v (.tuple #[.slice none 0 0, it 0, it 20])) [(0, .ro 5 ((recL d).take j) false)] 1 := by
  have he := enc_len d.length
  have hlen : (recL d).length = (encN d.length).length + d.length + 8 := by simp [recL, eight_len]; omega
  by_cases hs : j < (encN d.length).length
  · have e : (encN d.length).take j = (recL d).take j := by
      unfold recL
      rw [List.append_assoc, List.take_append_of_le_length (by omega)]
    exact unrec_1 _ 0 0 20 (ro_to e (number_cut d.length (by omega) (by omega) j hs)) (by rfl)
  · have e : encN d.length ++ (d ++ eightL (sumL d 0)).take (j - (encN d.length).length) = (recL d).take j := by
      unfold recL
      rw [List.append_assoc]
      conv => rhs; rw [List.take_append, List.take_of_length_le (by omega)]
    have hl : ((recL d).take j).length = j := by simp; omega
    have hn := number_spec d.length (by omega) (by omega) ((d ++ eightL (sumL d 0)).take (j - (encN d.length).length)) (by rw [e, hl]; omega)
    have hn2 := ro_to e hn
    have h := unrec_4 ((recL d).take j) d.length (encN d.length).length 0 hn2 (by rfl) (by first | (simp; done) | (simp; omega)) (by first | (simp; done) | (simp; omega))
    refine h ?_
    rw [hl, wrap64 (n := (j : Int) - ((encN d.length).length : Int)) (by omega) (by omega), wrap64 (by omega) (by omega)]
    simp
    omega
end Go.Proofs.YtomgifkpnfgimaaC
