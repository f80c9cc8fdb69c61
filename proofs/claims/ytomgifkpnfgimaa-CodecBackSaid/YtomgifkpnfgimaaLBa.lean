/- CodecBack, in plain terms: numbers and texts are read as they were written, one behind the other. -/
import Derived.Test.YtomgifkpnfgimaaSJ
import Derived.Test.YtomgifkpnfgimaaSxo
import Derived.Test.YtomgifkpnfgimaaLOne
import Derived.Test.YtomgifkpnfgimaaPK
namespace Go.Proofs.YtomgifkpnfgimaaC
open Go.Proofs Go.Proofs.YtomgifkpnfgimaaSx Go.RowKit
set_option maxRecDepth 100000
set_option linter.unusedVariables false
abbrev flatN (l : List Int) : List Int := l.flatMap encN
abbrev encT (s : ByteArray) : List Int := encN s.size ++ strL s
abbrev flatT (l : List ByteArray) : List Int := l.flatMap encT
abbrev Ints (l : List Int) : Prop := ∀ x ∈ l, -9223372036854775808 ≤ x ∧ x ≤ 9223372036854775807
abbrev TT (l : List Int) (ms : List ByteArray) : Tab cE := [(0, .ro 3 l false), (1, .ro 9 ms false)]
abbrev FinB (l : List Int) (ms : List ByteArray) (k : List It) (s : List SV) (b : Tab cE) (n : Nat) : Prop := Fin cE Try.f6 2 (.v (.bool true)) (TT l ms) 2 k s b n
abbrev aT (l : List Int) (ms : List ByteArray) (b : List Int) : Tab cE := [(0, .ro 3 l false), (1, .ro 9 ms false), (2, .own 5 b)]
theorem strL_len (s : ByteArray) : (strL s).length = s.size := by simp [strL]
theorem dropN {l : List Int} {i r : Nat} (h : i < l.length) : (l.drop i).take (r + 1) = l.getD i 0 :: (l.drop (i + 1)).take r := by
  rw [drop_cons h, List.take_succ_cons]
theorem dropT {l : List ByteArray} {i r : Nat} (h : i < l.length) : (l.drop i).take (r + 1) = l.getD i ByteArray.empty :: (l.drop (i + 1)).take r := by
  rw [List.drop_eq_getElem_cons h, List.take_succ_cons]
  congr 1
  simp [List.getD, h]
theorem step64 {i : Nat} (h : i < 9223372036854775807) : IntKind.i64.wrap ((i : Int) + 1) = ((i + 1 : Nat) : Int) := by rw [wrap64 (by omega) (by omega)]; rfl
theorem memD {l : List Int} {i : Nat} (h : i < l.length) : l.getD i 0 ∈ l := by simp [List.getD, h]
section
variable {l : List Int} {ms : List ByteArray}
/-! ### Numbers are written -/
theorem aLoop (hw : Ints l) (hl : l.length ≤ 140737488351232) : ∀ (r i : Nat) (b : List Int), i + r = min 1000 l.length → b.length + 10 * r ≤ 100000 →
    FinB l ms bkK (bS (.o 2) 0) (aT l ms (b ++ flatN ((l.drop i).take r))) 3 → ∀ m, FinB l ms (inK akK (m + r + 1)) (aS (.o 2) i) (aT l ms b) 3
  | 0, i, b, hi, hb, h, m => by
    refine fin_round ?_
    have e : b ++ flatN ((l.drop i).take 0) = b := by simp
    rw [e] at h
    by_cases hil : i = l.length
    · exact ba2_3 l b ms i m _ _ _ (by simp; omega) (fin_weak h (by repeat (first | exact trivial | refine ⟨.inr rfl, ?_⟩ | refine ⟨.inl rfl, ?_⟩)))
    · exact ba2_2 l b ms i m _ _ _ (by simp; omega) (by simp; omega) (fin_weak h (by repeat (first | exact trivial | refine ⟨.inr rfl, ?_⟩ | refine ⟨.inl rfl, ?_⟩)))
  | r + 1, i, b, hi, hb, h, m => by
    refine fin_round ?_
    have hlt : i < l.length := by omega
    have hx := hw _ (memD hlt)
    have hN := Number_spec (l.getD i 0) hx.1 hx.2
    have hlen := enc_len (l.getD i 0)
    refine ba2_1 l b ms i (m + (r + 1)) (encN (l.getD i 0)) _ _ _ (by simp; omega) (by simp; omega) ⟨by omega, by omega⟩ hlt hN (room_small (by omega)) ?_
    rw [step64 (by omega)]
    refine aLoop hw hl r (i + 1) _ (by omega) (by rw [List.length_append]; omega) ?_ m
    rw [dropN hlt] at h
    simpa using h
theorem aStart (hw : Ints l) (hl : l.length ≤ 140737488351232) (h0 : l = [] → FinB l ms bkK (bS (.v nilS) 0) (TT l ms) 2)
    (h1 : l ≠ [] → FinB l ms bkK (bS (.o 2) 0) (aT l ms (flatN (l.take 1000))) 3) : FinB l ms akK (aS (.v nilS) 0) (TT l ms) 2 := by
  cases l with
  | nil =>
    refine fin_loop (0 + 1) (fin_round ?_)
    exact ba1_2 [] ms 0 _ _ _ (by simp) (fin_weak (h0 rfl) (by repeat (first | exact trivial | refine ⟨.inr rfl, ?_⟩ | refine ⟨.inl rfl, ?_⟩)))
  | cons x l =>
    have hx := hw x List.mem_cons_self
    have hlen := enc_len x
    simp only [List.length_cons] at hl
    refine fin_loop ((0 + (min 1000 (l.length + 1) - 1) + 1) + 1) (fin_round ?_)
    refine ba1_1 (x :: l) ms _ (encN x) _ _ _ (by simp) ⟨by omega, by simp⟩ (by simp) (Number_spec x hx.1 hx.2) (room_small (by show 0 + (encN x).length ≤ _; omega)) ?_
    have e0 : IntKind.i64.wrap (0 + 1) = ((1 : Nat) : Int) := by rfl
    rw [e0]
    refine aLoop hw (by simp; omega) _ 1 _ (by simp; omega) (by show (encN x).length + _ ≤ _; omega) ?_ 0
    have e : [] ++ encN x ++ flatN (((x :: l).drop 1).take (min 1000 (l.length + 1) - 1)) = flatN ((x :: l).take 1000) := by
      have : (1000 : Nat) = 999 + 1 := rfl
      rw [this, List.take_succ_cons]
      simp only [List.drop_succ_cons, List.drop_zero, List.nil_append, List.flatMap_cons]
      congr 2
      rw [Nat.add_comm 999 1] at *
      by_cases h : l.length ≤ 999
      · rw [List.take_of_length_le h, List.take_of_length_le (by omega)]
      · congr 1
        omega
    exact (congrArg (fun z => FinB (x :: l) ms bkK (bS (.o 2) 0) (aT (x :: l) ms z) 3) e).mpr (h1 (by simp))
/-! ### Texts are written -/
theorem bLoop (hl : ms.length ≤ 140737488351232) : ∀ (r i : Nat) (b : List Int), i + r = min 100 ms.length → b.length + 10010 * r ≤ 2000000 →
    ((∀ s ∈ (ms.drop i).take r, s.size ≤ 10000) → FinB l ms ckK (cS3 0) (rT3 l ms (.o 4) (b ++ flatT ((ms.drop i).take r))) 5) → ∀ m, FinB l ms (inK bkK (m + r + 1)) (bS (.o 2) i) (aT l ms b) 3
  | 0, i, b, hi, hb, h, m => by
    refine fin_round ?_
    have h := h (by simp)
    have e : b ++ flatT ((ms.drop i).take 0) = b := by simp
    rw [e] at h
    have hC := Clone_spec b (room_small (by omega))
    by_cases hil : i = ms.length
    · exact bb2_5 l b ms i m b _ _ _ (by simp; omega) hC (fin_weak h (by repeat (first | exact trivial | refine ⟨.inr rfl, ?_⟩ | refine ⟨.inl rfl, ?_⟩)))
    · exact bb2_4 l b ms i m b _ _ _ (by simp; omega) (by simp; omega) hC (fin_weak h (by repeat (first | exact trivial | refine ⟨.inr rfl, ?_⟩ | refine ⟨.inl rfl, ?_⟩)))
  | r + 1, i, b, hi, hb, h, m => by
    refine fin_round ?_
    have hlt : i < ms.length := by omega
    rw [dropT hlt] at h
    generalize hs : ms.getD i ByteArray.empty = s at h
    by_cases hbig : 1048576 < s.size
    · exact bb2_1 l b ms i _ true (by simp; omega) (by simp; omega) ⟨by omega, by omega⟩ hlt (by rw [hs]; simp; omega) knows_spec
    have hlen := enc_len s.size
    have hsl := strL_len s
    by_cases hmid : 10000 < s.size
    · exact bb2_2 l b ms i _ (encN s.size) true (by simp; omega) (by simp; omega) ⟨by omega, by omega⟩ hlt (by rw [hs]; simp; omega) (by rw [hs]; exact Number_spec s.size (by omega) (by omega)) (by rw [hs]; exact room_small (by omega)) (by rw [hs]; simp; omega) knows_spec
    refine bb2_3 l b ms i _ (encN s.size) _ _ _ (by simp; omega) (by simp; omega) ⟨by omega, by omega⟩ hlt (by rw [hs]; simp; omega) (by rw [hs]; exact Number_spec s.size (by omega) (by omega)) (by rw [hs]; exact room_small (by omega)) (by rw [hs]; simp; omega) (by rw [hs]; exact room_small (by rw [List.length_append]; omega)) ?_
    rw [step64 (by omega), hs]
    refine bLoop hl r (i + 1) _ (by omega) (by rw [List.length_append, List.length_append]; omega) ?_ m
    intro hsm
    have h := h (fun t ht => by
      rcases List.mem_cons.1 ht with rfl | ht
      · omega
      · exact hsm t ht)
    simpa [encT] using h
/-! ### Numbers are read -/
noncomputable abbrev rS (l : List Int) (ms : List ByteArray) (b : List Int) (lo n : Nat) : Tab cE := rT l ms (.s 3 1 lo n) b
theorem read_row {b r : List Int} {x : Int} {lo n : Nat} (hn : lo + n = b.length) (hd : b.drop lo = encN x ++ r) : encN x ++ r = List.take n (List.drop lo b) := by
  rw [hd, List.take_of_length_le]
  rw [← hd]
  simp
  omega
theorem drop_next {b r s : List Int} {lo : Nat} (hd : b.drop lo = s ++ r) : b.drop (lo + s.length) = r := by
  rw [← List.drop_drop, hd]
  simp
theorem cLoop (hw : Ints l) (hl : l.length ≤ 140737488351232) {b tl : List Int} (hb : b.length ≤ 10000000)
    (hD : ∀ lo n, lo + n = b.length → b.drop lo = tl → FinB l ms dkK (dS 0) (rS l ms b lo n) 4) : ∀ (r i lo n : Nat), i + r = min 1000 l.length → lo + n = b.length →
    b.drop lo = flatN ((l.drop i).take r) ++ tl → ∀ m, FinB l ms (inK ckK (m + r + 1)) (cS i) (rS l ms b lo n) 4
  | 0, i, lo, n, hi, hn, hd, m => by
    refine fin_round ?_
    have h := hD lo n hn (by simpa using hd)
    by_cases hil : i = l.length
    · exact bc2_4 l b ms i m lo n _ _ _ (by simp; omega) (fin_weak h (by repeat (first | exact trivial | refine ⟨.inr rfl, ?_⟩ | refine ⟨.inl rfl, ?_⟩)))
    · exact bc2_3 l b ms i m lo n _ _ _ (by simp; omega) (by simp; omega) (fin_weak h (by repeat (first | exact trivial | refine ⟨.inr rfl, ?_⟩ | refine ⟨.inl rfl, ?_⟩)))
  | r + 1, i, lo, n, hi, hn, hd, m => by
    refine fin_round ?_
    have hlt : i < l.length := by omega
    have hx := hw _ (memD hlt)
    rw [dropN hlt] at hd
    simp only [List.flatMap_cons, List.append_assoc] at hd
    generalize hy : l.getD i 0 = x at hx hd
    have hlen := enc_len x
    have hle : (encN x).length ≤ n := by
      have := congrArg List.length hd
      simp at this
      omega
    have hr := read_row hn hd
    have hspec := number_spec x hx.1 hx.2 (flatN ((l.drop (i + 1)).take r) ++ tl) (by rw [hr]; simp; omega)
    rw [hr] at hspec
    refine bc2_2 l b ms i _ lo n x (encN x).length 0 _ _ _ (by simp; omega) (by simp; omega) (by omega) hspec ⟨by omega, by omega, by omega⟩ ⟨by omega, by omega⟩ hlt (by rw [hy]; simp) ?_
    rw [step64 (by omega), Int.toNat_natCast]
    exact cLoop hw hl hb hD r (i + 1) _ _ (by omega) (by omega) (drop_next hd) m
theorem cStart (hw : Ints l) (hl : l.length ≤ 140737488351232) {b tl : List Int} (hb : b.length ≤ 10000000) (hd : b = flatN (l.take 1000) ++ tl)
    (hD : ∀ lo n, lo + n = b.length → b.drop lo = tl → FinB l ms dkK (dS 0) (rS l ms b lo n) 4) (h0 : l = [] → FinB l ms dkK (dS 0) (rT l ms (.o 3) b) 4) :
    FinB l ms ckK (cS3 0) (rT3 l ms (.o 4) b) 5 := by
  cases l with
  | nil =>
    refine fin_loop (0 + 1) (fin_round ?_)
    exact ec1_4 [] b ms 0 0 0 0 _ _ _ (by simp) (fin_weak (h0 rfl) (by repeat (first | exact trivial | refine ⟨.inr rfl, ?_⟩ | refine ⟨.inl rfl, ?_⟩)))
  | cons x l =>
    have hx := hw x List.mem_cons_self
    have hlen := enc_len x
    simp only [List.length_cons] at hl
    have ht : (x :: l).take 1000 = x :: l.take 999 := List.take_succ_cons
    have hd' : b.drop 0 = encN x ++ (flatN (l.take 999) ++ tl) := by
      rw [List.drop_zero, hd, ht]
      simp
    have hle : (encN x).length ≤ b.length := by
      have := congrArg List.length hd'
      simp at this
      omega
    have hr := read_row (lo := 0) (n := b.length) (by omega) hd'
    have hspec := number_spec x hx.1 hx.2 (flatN (l.take 999) ++ tl) (by rw [hr]; simp; omega)
    rw [hr] at hspec
    have e0 : List.take b.length (List.drop 0 b) = b := by simp
    rw [e0] at hspec
    refine fin_loop ((0 + (min 1000 (l.length + 1) - 1) + 1) + 1) (fin_round ?_)
    refine ec1_2 (x :: l) b ms 0 _ 0 0 x (encN x).length 0 _ _ _ (by simp) (by simp) hspec ⟨by omega, by omega, by omega⟩ ⟨by omega, by simp⟩ (by simp) (by simp) ?_
    rw [step64 (by omega), Int.toNat_natCast, Int.toNat_natCast]
    refine cLoop hw (by simp; omega) hb hD _ 1 _ _ (by simp; omega) (by omega) ?_ 0
    have hn := drop_next hd'
    rw [Nat.zero_add] at hn
    rw [hn]
    congr 2
    by_cases h : l.length ≤ 999
    · rw [List.take_of_length_le h, List.drop_succ_cons, List.drop_zero, List.take_of_length_le (by omega)]
    · rw [List.drop_succ_cons, List.drop_zero]
      congr 1
      omega
/-! ### Texts are read -/
theorem strL_bytes (s : ByteArray) : (bytesOf (strL s)).toList = s.toList := by
  rw [bytes_list, ByteArray.toList_eq]
  simp only [List.map_map]
  refine (List.map_congr_left fun b _ => ?_).trans (List.map_id _)
  simp
theorem dDone {b : List Int} {i m lo n : Nat} (hi : i = min 100 ms.length) (hn : n = 0) : FinB l ms (bodyK dkK m) (dS i) (rS l ms b lo n) 4 := by
  subst hn
  by_cases hil : i = ms.length
  · exact bd2_13 l b ms i m lo 0 true (by simp; omega) (by simp) knows_spec
  · exact bd2_11 l b ms i m lo 0 true (by simp; omega) (by simp; omega) (by simp) knows_spec
theorem text_bounds {b r : List Int} {s : ByteArray} {lo n : Nat} (hn : lo + n = b.length) (hd : b.drop lo = encT s ++ r) : (encN s.size).length + s.size ≤ n := by
  have := congrArg List.length hd
  simp [encT] at this
  omega
theorem text_at {b r : List Int} {s : ByteArray} {lo : Nat} (hd : b.drop lo = encT s ++ r) : List.take s.size (List.drop (lo + (encN s.size).length) b) = strL s := by
  rw [← List.drop_drop, hd, encT, List.append_assoc]
  have : (strL s).length = s.size := strL_len s
  rw [List.drop_left' rfl, List.take_left' this]
theorem dLoop {b : List Int} (hl : ms.length ≤ 140737488351232) (hb : b.length ≤ 10000000) : ∀ (r i lo n : Nat), i + r = min 100 ms.length → lo + n = b.length → (∀ s ∈ (ms.drop i).take r, s.size ≤ 10000) →
    b.drop lo = flatT ((ms.drop i).take r) → ∀ m, FinB l ms (inK dkK (m + r + 1)) (dS i) (rS l ms b lo n) 4
  | 0, i, lo, n, hi, hn, hs, hd, m => by
    refine fin_round (dDone (by omega) ?_)
    have := congrArg List.length hd
    simp at this
    omega
  | r + 1, i, lo, n, hi, hn, hs, hd, m => by
    refine fin_round ?_
    have hlt : i < ms.length := by omega
    rw [dropT hlt] at hd hs
    simp only [List.flatMap_cons] at hd
    generalize hy : ms.getD i ByteArray.empty = s at hd hs
    have hsz := hs s List.mem_cons_self
    have hlen := enc_len s.size
    have hbo := text_bounds hn hd
    have hd2 : b.drop lo = encN s.size ++ (strL s ++ flatT ((ms.drop (i + 1)).take r)) := by rw [hd]; simp [encT]
    have hr := read_row hn hd2
    have hspec := number_spec s.size (by omega) (by omega) (strL s ++ flatT ((ms.drop (i + 1)).take r)) (by rw [hr]; simp; omega)
    rw [hr] at hspec
    have w1 : IntKind.i64.wrap (((encN s.size).length : Int) + (s.size : Int)) = (((encN s.size).length + s.size : Nat) : Int) := by rw [wrap64 (by omega) (by omega)]; omega
    have w2 : IntKind.i64.wrap ((n : Int) - ((encN s.size).length : Int)) = (n : Int) - ((encN s.size).length : Int) := wrap64 (by omega) (by omega)
    have h := bd2_10 l b ms i (m + (r + 1)) lo n s.size (encN s.size).length 0 (.v (.bool true)) (TT l ms) 2
    rw [w1, w2, hy] at h
    simp only [Int.toNat_natCast] at h
    have e1 : (encN s.size).length + s.size - (encN s.size).length = s.size := by omega
    rw [e1, text_at hd, strL_bytes] at h
    refine h (by simp; omega) (by simp; omega) (by omega) hspec (by simp) (by simp) (by simp; omega) (by simp; omega) ⟨by omega, by omega, by omega⟩ (by omega) ⟨by omega, by omega, by omega⟩ ⟨by omega, by omega⟩ hlt (by simp) ?_
    rw [step64 (by omega)]
    have hnx := drop_next hd
    have e2 : lo + (encT s).length = lo + ((encN s.size).length + s.size) := by simp [encT]
    rw [e2] at hnx
    exact dLoop hl hb r (i + 1) _ _ (by omega) (by omega) (fun t ht => hs t (List.mem_cons_of_mem _ ht)) hnx m
theorem dStart {b : List Int} (hl : ms.length ≤ 140737488351232) (hb : b.length ≤ 10000000) {lo n : Nat} (hn : lo + n = b.length) (hs : ∀ s ∈ ms.take 100, s.size ≤ 10000) (hd : b.drop lo = flatT (ms.take 100)) :
    FinB l ms dkK (dS 0) (rS l ms b lo n) 4 := by
  refine fin_loop (0 + min 100 ms.length + 1) ?_
  have e : (ms.drop 0).take (min 100 ms.length) = ms.take 100 := by
    rw [List.drop_zero, ← List.take_eq_take_min]
  exact dLoop hl hb _ 0 lo n (by omega) hn (by rw [e]; exact hs) (by rw [e]; exact hd) 0
theorem dStart0 {b : List Int} (hl : ms.length ≤ 140737488351232) (hb : b.length ≤ 10000000) (hs : ∀ s ∈ ms.take 100, s.size ≤ 10000) (hd : b = flatT (ms.take 100)) :
    FinB l ms dkK (dS 0) (rT l ms (.o 3) b) 4 := by
  cases hms : ms with
  | nil =>
    subst hms
    refine fin_loop (0 + 1) (fin_round ?_)
    subst hd
    exact bd1_13 l _ [] 0 0 0 0 true (by simp) (by simp) knows_spec
  | cons s ms' =>
    rw [← hms]
    have hlt : 0 < ms.length := by rw [hms]; simp
    refine fin_loop ((0 + (min 100 ms.length - 1) + 1) + 1) (fin_round ?_)
    have e : ms.take 100 = (ms.drop 0).take (min 100 ms.length - 1 + 1) := by
      rw [List.drop_zero, List.take_eq_take_min]
      congr 1
      omega
    rw [e] at hs hd
    rw [dropT hlt] at hd hs
    simp only [List.flatMap_cons] at hd
    generalize hy : ms.getD 0 ByteArray.empty = s at hd hs
    have hd0 : b.drop 0 = encT s ++ flatT ((ms.drop (0 + 1)).take (min 100 ms.length - 1)) := by rw [List.drop_zero]; exact hd
    have hn : 0 + b.length = b.length := by omega
    have hsz := hs s List.mem_cons_self
    have hlen := enc_len s.size
    have hbo := text_bounds hn hd0
    have hd2 : b.drop 0 = encN s.size ++ (strL s ++ flatT ((ms.drop (0 + 1)).take (min 100 ms.length - 1))) := by rw [hd0]; simp [encT]
    have hr := read_row hn hd2
    have hspec := number_spec s.size (by omega) (by omega) (strL s ++ flatT ((ms.drop (0 + 1)).take (min 100 ms.length - 1))) (by rw [hr]; simp; omega)
    rw [hr] at hspec
    have e0 : List.take b.length (List.drop 0 b) = b := by simp
    rw [e0] at hspec
    have w1 : IntKind.i64.wrap (((encN s.size).length : Int) + (s.size : Int)) = (((encN s.size).length + s.size : Nat) : Int) := by rw [wrap64 (by omega) (by omega)]; omega
    have w2 : IntKind.i64.wrap ((b.length : Int) - ((encN s.size).length : Int)) = (b.length : Int) - ((encN s.size).length : Int) := wrap64 (by omega) (by omega)
    have h := bd1_10 l b ms 0 (0 + (min 100 ms.length - 1) + 1) 0 0 s.size (encN s.size).length 0 (.v (.bool true)) (TT l ms) 2
    rw [w1, w2, hy] at h
    simp only [Int.toNat_natCast] at h
    have e1 : (encN s.size).length + s.size - (encN s.size).length = s.size := by omega
    have ht := text_at hd0
    rw [Nat.zero_add] at ht
    rw [e1, ht, strL_bytes] at h
    refine h (by simp; omega) (by simp) hspec (by simp) (by simp) (by simp; omega) (by simp; omega) ⟨by omega, by omega, by omega⟩ (by omega) ⟨by omega, by omega, by omega⟩ ⟨by omega, by omega⟩ hlt (by simp) ?_
    rw [step64 (by omega)]
    have hnx := drop_next hd0
    have e2 : 0 + (encT s).length = (encN s.size).length + s.size := by simp [encT]
    rw [e2] at hnx
    exact dLoop hl hb _ (0 + 1) _ _ (by omega) (by omega) (fun t ht => hs t (List.mem_cons_of_mem _ ht)) hnx 0
/-! ### All of it -/
theorem flatN_len (l : List Int) : (flatN l).length ≤ 10 * l.length := by
  induction l with
  | nil => simp
  | cons x l ih =>
    have := enc_len x
    show (encN x ++ flatN l).length ≤ _
    rw [List.length_append, List.length_cons]
    omega
theorem flatT_len (l : List ByteArray) (h : ∀ s ∈ l, s.size ≤ 10000) : (flatT l).length ≤ 10010 * l.length := by
  induction l with
  | nil => simp
  | cons x l ih =>
    have := enc_len x.size
    have h1 := h x List.mem_cons_self
    have ih := ih fun s hs => h s (List.mem_cons_of_mem _ hs)
    have h2 := strL_len x
    show ((encN x.size ++ strL x) ++ flatT l).length ≤ _
    rw [List.length_append, List.length_append, List.length_cons]
    omega
theorem read_all (hw : Ints l) (hl : l.length ≤ 140737488351232) (hm : ms.length ≤ 140737488351232) (hs : ∀ s ∈ ms.take 100, s.size ≤ 10000) :
    FinB l ms ckK (cS3 0) (rT3 l ms (.o 4) (flatN (l.take 1000) ++ flatT (ms.take 100))) 5 := by
  have l1 := flatN_len (l.take 1000)
  have l2 := flatT_len (ms.take 100) hs
  have l3 : (l.take 1000).length ≤ 1000 := by simp; omega
  have l4 : (ms.take 100).length ≤ 100 := by simp; omega
  have hb : (flatN (l.take 1000) ++ flatT (ms.take 100)).length ≤ 10000000 := by rw [List.length_append]; omega
  refine cStart hw hl hb rfl (fun lo n hn hd => dStart hm hb hn hs hd) (fun h => dStart0 hm hb hs ?_)
  subst h
  simp
theorem bStart (hw : Ints l) (hl : l.length ≤ 140737488351232) (hm : ms.length ≤ 140737488351232) (h0 : l ≠ []) : FinB l ms bkK (bS (.o 2) 0) (aT l ms (flatN (l.take 1000))) 3 := by
  have l1 := flatN_len (l.take 1000)
  have l3 : (l.take 1000).length ≤ 1000 := by simp; omega
  refine fin_loop (0 + min 100 ms.length + 1) ?_
  have e : (ms.drop 0).take (min 100 ms.length) = ms.take 100 := by
    rw [List.drop_zero, ← List.take_eq_take_min]
  refine bLoop hm _ 0 _ (by omega) (by omega) ?_ 0
  rw [e]
  exact read_all hw hl hm
theorem bStart0 (hm : ms.length ≤ 140737488351232) : FinB [] ms bkK (bS (.v nilS) 0) (TT [] ms) 2 := by
  cases hms : ms with
  | nil =>
    refine fin_loop (0 + 1) (fin_round ?_)
    have h3 : FinB [] [] dkK (dS 0) (rT [] [] (.o 3) []) 4 := fin_loop (0 + 1) (fin_round (bd1_13 [] [] [] 0 0 0 0 true (by simp) (by simp) knows_spec))
    have h2 : FinB [] [] ckK (cS 0) (rT [] [] (.o 3) []) 4 := fin_loop (0 + 1) (fin_round (bc1_4 [] [] [] 0 0 0 0 _ _ _ (by simp) (fin_weak h3 (by repeat (first | exact trivial | refine ⟨.inr rfl, ?_⟩ | refine ⟨.inl rfl, ?_⟩)))))
    exact bb1_4 [] [] 0 [] _ _ _ (by simp) (Clone_spec [] (room_small (by simp))) (fin_weak h2 (by repeat (first | exact trivial | refine ⟨.inr rfl, ?_⟩ | refine ⟨.inl rfl, ?_⟩)))
  | cons s ms' =>
    rw [← hms]
    have hlt : 0 < ms.length := by rw [hms]; simp
    refine fin_loop ((0 + (min 100 ms.length - 1) + 1) + 1) (fin_round ?_)
    have hx : ms.getD (Int.toNat 0) ByteArray.empty = s := by rw [hms]; rfl
    have hlen := enc_len s.size
    have hsl := strL_len s
    by_cases hbig : 1048576 < s.size
    · exact bb1_1 [] ms _ true (by simp; omega) ⟨by omega, by omega⟩ hlt (by rw [hx]; simp; omega) knows_spec
    by_cases hmid : 10000 < s.size
    · exact bb1_2 [] ms _ (encN s.size) true (by simp; omega) ⟨by omega, by omega⟩ hlt (by rw [hx]; simp; omega) (by rw [hx]; exact Number_spec s.size (by omega) (by omega)) (by rw [hx]; exact room_small (by omega)) (by rw [hx]; simp; omega) knows_spec
    refine bb1_3 [] ms _ (encN s.size) _ _ _ (by simp; omega) ⟨by omega, by omega⟩ hlt (by rw [hx]; simp; omega) (by rw [hx]; exact Number_spec s.size (by omega) (by omega)) (by rw [hx]; exact room_small (by omega)) (by rw [hx]; simp; omega) (by rw [hx]; exact room_small (by show 0 + (encN s.size ++ strL s).length ≤ _; rw [List.length_append]; omega)) ?_
    have e0 : IntKind.i64.wrap (0 + 1) = ((1 : Nat) : Int) := by rfl
    rw [e0, hx]
    refine bLoop hm (min 100 ms.length - 1) 1 _ (by omega) (by show (encN s.size ++ strL s).length + _ ≤ _; rw [List.length_append]; omega) ?_ 0
    intro hsm
    have hd : ms.take 100 = s :: (ms.drop 1).take (min 100 ms.length - 1) := by
      rw [hms]
      simp only [List.drop_succ_cons, List.drop_zero, List.length_cons]
      rw [show (100 : Nat) = 99 + 1 from rfl, List.take_succ_cons, List.take_eq_take_min]
      congr 2
      omega
    have h := read_all (l := []) (ms := ms) (fun x hx => by simp at hx) (by simp) hm (by
      rw [hd]
      intro t ht
      rcases List.mem_cons.1 ht with rfl | ht
      · omega
      · exact hsm t ht)
    have e : flatN (([] : List Int).take 1000) ++ flatT (ms.take 100) = [] ++ (encN s.size ++ strL s) ++ flatT ((ms.drop 1).take (min 100 ms.length - 1)) := by
      rw [hd]
      simp [encT]
    exact (congrArg (fun z => FinB [] ms ckK (cS3 0) (rT3 [] ms (.o 4) z) 5) e).mp h
theorem back_does (l : List Int) (ms : List ByteArray) (hw : Ints l) (hl : l.length ≤ 140737488351232) (hm : ms.length ≤ 140737488351232) :
    Does cE 6 (TT l ms) 2 [.o 0, .o 1] (.v (.bool true)) [] 2 := by
  refine Does.nil (T' := TT l ms) ?_ rfl
  refine does_of_fin (fn := Try.f6) (c := bd Try.f6) rfl (by kernel_rfl) rfl ?_
  refine ba0_1 l ms _ _ _ ?_
  refine aStart hw hl (fun h => ?_) (fun h => bStart hw hl hm h)
  subst h
  exact bStart0 hm
end
theorem back_true (a0 : Option Addr) (len0 cap0 : Nat) (l0 : List Int) (a1 : Option Addr) (len1 cap1 : Nat) (l1 : List ByteArray) (W : World) (n0 : l0.length = len0) (g0 : ∀ x ∈ l0, (Lit.int .i64 x).wf = true) (o0 : Opened W (numF .i64) a0 len0 cap0 l0) (y0 : len0 * 8 ≤ 140737488351232)
    (n1 : l1.length = len1) (g1 : ∀ s ∈ l1, s.size ≤ maxLen) (o1 : Opened W strF a1 len1 cap1 l1) (y1 : len1 * 16 ≤ 140737488351232) :
    Calls Try.prog 6 #[.slice a0 len0 cap0, .slice a1 len1 cap1] W fun e w' => e = .returned (.bool true) ∧ Below W.heap.size W w' := by
  have hw : Ints l0 := fun x hx => by simpa [Lit.wf, IntKind.min, IntKind.max, IntKind.signed, IntKind.bits] using g0 x hx
  have h := back_does l0 l1 hw (by omega) (by omega)
  exact law_ros (E := cE) [.row 3 (.slice a0 len0 cap0) l0, .row 9 (.slice a1 len1 cap1) l1] (enters (fn := Try.f6) rfl (by kernel_rfl) rfl) h W ⟨ro_of_opened o0, ro_of_opened o1, trivial⟩
end Go.Proofs.YtomgifkpnfgimaaC
