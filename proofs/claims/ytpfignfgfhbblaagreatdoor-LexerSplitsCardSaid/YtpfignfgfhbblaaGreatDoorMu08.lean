import Derived.Test.YtpfignfgfhbblaaGreatDoorMu05
import Derived.Test.YtpfignfgfhbblaaGreatDoorMu07
import Derived.Shelf.Strconv.Itoa3
import Derived.Shelf.Strconv.AtoiAll
import Derived.Shelf.Strings.SlTrimAscii
import Derived.Shelf.Strings.Search3
import Derived.Shelf.Strings.Prefix
import Derived.Lib.AtoiErrMem
import Derived.Test.YtpfignfgfhbblaaGreatDoorMu04
import Derived.KernelRfl
/- The program's Parse, at every text. -/
namespace Go.Proofs.YtpfignfgfhbblaaGreatDoorC
open Go.Proofs Go.Proofs.YtpfignfgfhbblaaGreatDoorSx Go.RowKit Go.Sort Go.Lib
set_option maxRecDepth 100000
set_option linter.unusedVariables false
set_option linter.unusedSimpArgs false
/-! ### Prefix and point -/
theorem oL_toList (l : List UInt8) : (oL l).toList = l := by
  rw [ByteArray.toList_eq, oL_data]
theorem cutp_does (s : List UInt8) : Does cE 149 [] 0 [.v (st (oL s)), .v (st (ByteArray.mk #[45]))] (.v (.tuple #[st (oL (bodyL s)), .bool (sgn s)])) [] 0 := by
  have e45 : ByteArray.mk #[45] = oL [45] := rfl
  rw [e45]
  cases s with
  | nil => exact cutp_3 (h0 := by rw [oL_size, oL_size]; rfl)
  | cons c r =>
    have hd : decide (((oL (c :: r)).size : Int) ≥ ((oL [45]).size : Int)) = true := by
      rw [oL_size, oL_size]
      simp
      omega
    have hb : (0 : Int) ≤ 0 ∧ (0 : Int) ≤ ((oL [45]).size : Int) ∧ ((oL [45]).size : Int) ≤ ((oL (c :: r)).size : Int) := by
      rw [oL_size, oL_size]
      simp
      omega
    have he : ((oL (c :: r)).extract (Int.toNat 0) ((oL [45]).size : Int).toNat).toList = [c] := by
      rw [oL_ext, oL_toList, oL_size]
      rfl
    by_cases hc : c = 45
    · subst hc
      have h := cutp_2 (bs := oL (45 :: r)) (ss := oL [45]) (h0 := hd) (h1 := hb) (h2 := by rw [he, oL_toList]; rfl) (h3 := by
        rw [oL_size, oL_size]
        simp
        omega)
      have e2 : (oL (45 :: r)).extract ((oL [45]).size : Int).toNat ((oL (45 :: r)).size : Int).toNat = oL r := by
        rw [oL_ext, oL_size, oL_size]
        simp
      rw [e2] at h
      have e3 : bodyL (45 :: r) = r := by simp [bodyL, sgn]
      have e4 : sgn (45 :: r) = true := by simp [sgn]
      rw [e3, e4]
      exact h
    · have h := cutp_1 (bs := oL (c :: r)) (ss := oL [45]) (h0 := hd) (h1 := hb) (h2 := by
        rw [he, oL_toList]
        simp [hc])
      have e4 : sgn (c :: r) = false := by simp [sgn, hc]
      have e3 : bodyL (c :: r) = c :: r := by simp [bodyL, e4]
      rw [e3, e4]
      exact h
theorem index_sp : ∀ l : List UInt8, indexByte l 46 = (match (spD l).2 with | none => -1 | some _ => ((spD l).1.length : Int))
  | [] => rfl
  | c :: r => by
    have ih := index_sp r
    rw [indexByte, spD]
    by_cases hc : c = 46
    · subst hc
      simp
    · rw [if_neg hc]
      have : (c == 46) = false := by simpa using hc
      rw [this, ih]
      cases h : (spD r).2 with
      | none => simp
      | some p =>
        have : ¬ (((spD r).1.length : Int) = -1) := by omega
        simp [this]
theorem idx_does (l : List UInt8) : Does cE 185 [] 0 [.v (st (oL l)), .v (st (ByteArray.mk #[46]))] (.v (it (indexByte l 46))) [] 0 := by
  refine does_lib (l := [st (oL l), st (ByteArray.mk #[46])]) (enters (fn := Tryz.f185) rfl (by kernel_rfl) rfl) (fun w hg => ?_)
  refine (Any.stringslite_Index_one Tryz.laysIndex (oL l) 46 w).mono fun e w' hh => ?_
  rw [oL_data] at hh
  exact ⟨hh.1, hh.2 ▸ Below.refl _ _⟩
theorem sp_len : ∀ (l p : List UInt8), (spD l).2 = some p → l.length = (spD l).1.length + 1 + p.length := by
  intro l p h
  have := congrArg List.length (sp_back l)
  rw [h] at this
  simp at this
  omega
theorem cut_does (l : List UInt8) (hl : l.length ≤ 9223372036854775807) : Does cE 147 [] 0 [.v (st (oL l)), .v (st (ByteArray.mk #[46]))] (.v (.tuple #[st (oL (spD l).1), st (oL ((spD l).2.getD [])), .bool (spD l).2.isSome])) [] 0 := by
  have hi := idx_does l
  rw [index_sp] at hi
  have hb := sp_back l
  have e46 : ((ByteArray.mk #[46]).size : Int) = 1 := rfl
  refine scut_1 (h0 := ?_)
  cases hp : (spD l).2 with
  | none =>
    rw [hp] at hi hb
    have h := lcut_2 (bs := oL l) (ss := ByteArray.mk #[46]) (h0 := hi) (h1 := rfl)
    simp only [List.append_nil] at hb
    rw [← hb]
    exact h
  | some p =>
    rw [hp] at hi hb
    have hlen := sp_len l p hp
    have hw : IntKind.i64.wrap (((spD l).1.length : Int) + ((ByteArray.mk #[46]).size : Int)) = (((spD l).1.length + 1 : Nat) : Int) := by
      rw [e46, wrap64 (by omega) (by omega)]
      rfl
    have h := lcut_1 (bs := oL l) (ss := ByteArray.mk #[46]) (h0 := hi) (h1 := by simp) (h2 := by rw [oL_size]; simp; omega) (h3 := by rw [hw, oL_size]; omega)
    rw [hw] at h
    have e1 : (oL l).extract (Int.toNat 0) ((spD l).1.length : Int).toNat = oL (spD l).1 := by
      rw [oL_ext]
      congr 1
      have h2 : l = (spD l).1 ++ 46 :: p := hb
      generalize (spD l).1 = w at h2
      subst h2
      simp
    have e2 : (oL l).extract (((spD l).1.length + 1 : Nat) : Int).toNat ((oL l).size : Int).toNat = oL p := by
      rw [oL_ext, oL_size]
      congr 1
      have h2 : l = (spD l).1 ++ 46 :: p := hb
      generalize (spD l).1 = w at h2
      subst h2
      have e3 : ((w.length + 1 : Nat) : Int).toNat = w.length + 1 := by omega
      rw [e3]
      have e4 : List.drop (w.length + 1) (w ++ 46 :: p) = p := by
        rw [List.drop_append]
        simp
      rw [e4]
      apply List.take_of_length_le
      simp
      omega
    rw [e1, e2] at h
    exact h
/-! ### What is read, by its rules -/
theorem p_rule1 (ng : Bool) {w : List UInt8} {p : Option (List UInt8)} (h : w = [] ∨ p = some [] ∨ 6 < (p.getD []).length ∨ (1 < w.length ∧ w.head? = some 48) ∨ (w ++ p.getD []).all isD = false) : parseB ng w p = (0, 0, 21) := by
  unfold parseB
  rw [if_pos h]
theorem p_rule2 {ng : Bool} {w : List UInt8} {p : Option (List UInt8)} (h : ng = true ∧ valD 0 (w ++ p.getD []) = 0) : parseB ng w p = (0, 0, 21) := by
  unfold parseB
  rw [if_pos h]
  split <;> rfl
theorem p_rule3 {ng : Bool} {w : List UInt8} {p : Option (List UInt8)} (h1 : w ≠ []) (h2 : p ≠ some []) (h3 : (p.getD []).length ≤ 6) (h4 : ¬ (1 < w.length ∧ w.head? = some 48)) (h5 : (w ++ p.getD []).all isD = true) (h6 : ¬ (ng = true ∧ valD 0 (w ++ p.getD []) = 0)) :
    parseB ng w p = fitP (valD 0 (w ++ p.getD [])) ng (p.getD []).length := by
  have hb : ¬ (w = [] ∨ p = some [] ∨ 6 < (p.getD []).length ∨ (1 < w.length ∧ w.head? = some 48) ∨ (w ++ p.getD []).all isD = false) := by
    rintro (h | h | h | h | h)
    · exact h1 h
    · exact h2 h
    · omega
    · exact h4 h
    · rw [h5] at h; cases h
  unfold parseB fitP fits sg
  rw [if_neg hb, if_neg h6]
  cases ng with
  | true =>
    simp only [if_true]
    by_cases h : valD 0 (w ++ p.getD []) ≤ 9223372036854775808
    · rw [if_pos h, if_pos (by omega)]
    · rw [if_neg h, if_neg (by omega)]
  | false =>
    simp only [Bool.false_eq_true, if_false]
    by_cases h : valD 0 (w ++ p.getD []) < 9223372036854775808
    · rw [if_pos h, if_pos (by omega)]
    · rw [if_neg h, if_neg (by omega)]
/-- What comes of rows of digits. -/
def endR (ng : Bool) (sc : Int) (al : List UInt8) : Int × Int × Int :=
  if al.all isD = false then (0, 0, 21) else if ng = true ∧ valD 0 al = 0 then (0, 0, 21) else fitP (valD 0 al) ng sc
theorem p_end {ng : Bool} {w : List UInt8} {p : Option (List UInt8)} (h1 : w ≠ []) (h2 : p ≠ some []) (h3 : (p.getD []).length ≤ 6) (h4 : ¬ (1 < w.length ∧ w.head? = some 48)) : parseB ng w p = endR ng (p.getD []).length (w ++ p.getD []) := by
  unfold endR
  by_cases h5 : (w ++ p.getD []).all isD = false
  · rw [if_pos h5, p_rule1 ng (.inr (.inr (.inr (.inr h5))))]
  · rw [if_neg h5]
    by_cases h6 : ng = true ∧ valD 0 (w ++ p.getD []) = 0
    · rw [if_pos h6, p_rule2 h6]
    · rw [if_neg h6, p_rule3 h1 h2 h3 h4 (by simpa using h5) h6]
end Go.Proofs.YtpfignfgfhbblaaGreatDoorC
/- The program's Parse, at every text: its loop and what it comes to. Written by a program (wip/dec/gentd.py). -/
namespace Go.Proofs.YtpfignfgfhbblaaGreatDoorC
open Go.Proofs Go.Proofs.YtpfignfgfhbblaaGreatDoorSx Go.RowKit Go.Sort Go.Lib
set_option maxRecDepth 100000
set_option linter.unusedVariables false
set_option linter.unusedSimpArgs false
theorem inK_prK (m : Nat) : inK (prK m) m = prK m := rfl
theorem wrap8e (x : Int) : IntKind.u8.wrap x = x % 256 := by simp [IntKind.wrap, IntKind.bits, IntKind.signed]
theorem byte_lt (c : UInt8) : c.toNat < 256 := c.toNat_lt
theorem dig_no {c : UInt8} (h : isD c = false) : decide (IntKind.u8.wrap (((c.toNat : Nat) : Int) - 48) > 9) = true := by
  have := byte_lt c
  unfold isD at h
  simp only [decide_eq_false_iff_not] at h
  rw [wrap8e]
  simp only [decide_eq_true_eq]
  omega
theorem dig_yes {c : UInt8} (h : isD c = true) : IntKind.u8.wrap (((c.toNat : Nat) : Int) - 48) = ((c.toNat - 48 : Nat) : Int) ∧ decide (IntKind.u8.wrap (((c.toNat : Nat) : Int) - 48) > 9) = false := by
  have := byte_lt c
  unfold isD at h
  simp only [decide_eq_true_eq] at h
  rw [wrap8e]
  simp only [decide_eq_false_iff_not]
  omega
theorem isD_le {c : UInt8} (h : isD c = true) : c.toNat - 48 ≤ 9 := by
  unfold isD at h
  simp only [decide_eq_true_eq] at h
  omega
theorem step_does {X : Int} (h0 : 0 ≤ X) (h1 : X < 18446744073709551616) {c : UInt8} (hc : isD c = true) :
    Does cE 150 [] 0 [.v (bg (X / 18446744073709551616) (X % 18446744073709551616) false), .v (iu 10)] (.v (Bv (X * 10) false)) [] 0 ∧
    Does cE 151 [] 0 [.v (Bv (X * 10) false), .v (bg 0 (IntKind.u64.wrap (IntKind.u8.wrap (((c.toNat : Nat) : Int) - 48))) false)] (.v (Bv (X * 10 + ((c.toNat - 48 : Nat) : Int)) false)) [] 0 := by
  have hb : big128 = 340282366920938463463374607431768211456 := rfl
  have hd := isD_le hc
  refine ⟨ptimes_does h0 (by omega) (by rw [hb]; omega) (by rw [hb]; omega) false, ?_⟩
  have h := pplus_does (x := X * 10) (y := ((c.toNat - 48 : Nat) : Int)) (by omega) (by omega) (by rw [hb]; omega) false false
  have e1 : ((c.toNat - 48 : Nat) : Int) / 18446744073709551616 = 0 := by omega
  have e2 : ((c.toNat - 48 : Nat) : Int) % 18446744073709551616 = ((c.toNat - 48 : Nat) : Int) := by omega
  have e3 : IntKind.u64.wrap (IntKind.u8.wrap (((c.toNat : Nat) : Int) - 48)) = ((c.toNat - 48 : Nat) : Int) := by
    rw [(dig_yes hc).1, wrU (by omega) (by omega)]
  rw [e3]
  unfold addM at h
  rw [if_pos rfl] at h
  simp only at h
  have e4 : Bv ((c.toNat - 48 : Nat) : Int) false = bg 0 ((c.toNat - 48 : Nat) : Int) false := by
    unfold Bv
    rw [e1, e2]
  rw [e4] at h
  exact h
theorem next_range {X : Int} (h0 : 0 ≤ X) (h1 : X < 18446744073709551616) {c : UInt8} (hc : isD c = true) : 0 ≤ X * 10 + ((c.toNat - 48 : Nat) : Int) ∧ X * 10 + ((c.toNat - 48 : Nat) : Int) < big128 := by
  have hb : big128 = 340282366920938463463374607431768211456 := rfl
  have hd := isD_le hc
  rw [hb]
  omega
section
variable {al : List UInt8} {i n : Nat}
theorem take_next (h : al.length = i + n + 1) : al.take (i + 1) = al.take i ++ [al.getD i 0] := by
  rw [List.take_add_one]
  congr 1
  have : i < al.length := by omega
  rw [List.getElem?_eq_getElem this, List.getD_eq_getElem?_getD, List.getElem?_eq_getElem this]
  rfl
theorem last_take (h : al.length = i + n + 1) (hn : n = 0) : al.take (i + 1) = al := List.take_of_length_le (by omega)
theorem all_next (h : al.length = i + n + 1) (hc : isD (al.getD i 0) = true) (ha : (al.take i).all isD = true) : (al.take (i + 1)).all isD = true := by
  rw [take_next h, List.all_append, ha, List.all_cons, hc]
  rfl
theorem val_step (h : al.length = i + n + 1) : valD 0 (al.take (i + 1)) = 10 * valD 0 (al.take i) + ((al.getD i 0).toNat - 48) := by
  rw [take_next h, valD_snoc]
theorem val_next {X : Int} (h : al.length = i + n + 1) (hc : isD (al.getD i 0) = true) (hx : X = (valD 0 (al.take i) : Int)) : X * 10 + (((al.getD i 0).toNat - 48 : Nat) : Int) = (valD 0 (al.take (i + 1)) : Int) := by
  rw [val_step h, hx]
  omega
theorem end_bad {ng : Bool} {sc : Int} (h : al.length = i + n + 1) (hc : isD (al.getD i 0) = false) : endR ng sc al = (0, 0, 21) := by
  unfold endR
  have : al.all isD = false := by
    cases ha : al.all isD with
    | false => rfl
    | true =>
      have hlt : i < al.length := by omega
      have := List.all_eq_true.1 ha al[i] (List.getElem_mem hlt)
      rw [List.getD_eq_getElem?_getD, List.getElem?_eq_getElem hlt] at hc
      simp only [Option.getD_some] at hc
      rw [this] at hc
      cases hc
  rw [if_pos this]
theorem end_zero {sc : Int} (h : al.all isD = true) (hv : valD 0 al = 0) : endR true sc al = (0, 0, 21) := by
  unfold endR
  rw [h, if_neg (by simp), if_pos ⟨rfl, hv⟩]
theorem end_over {ng : Bool} {sc : Int} (h : al.all isD = true) (hv : 18446744073709551616 ≤ valD 0 al) : endR ng sc al = (0, 0, 32) := by
  unfold endR
  rw [h, if_neg (by simp), if_neg (by rintro ⟨_, e⟩; omega)]
  have hf : ¬ fits (valD 0 al : Int) ng := by
    unfold fits
    cases ng <;> simp <;> omega
  unfold fitP
  rw [if_neg hf]
theorem end_fit {Y sc : Int} (h : al.all isD = true) (hv : Y = (valD 0 al : Int)) (hz : valD 0 al ≠ 0) : endR true sc al = fitP Y true sc := by
  unfold endR
  rw [h, if_neg (by simp), if_neg (by rintro ⟨_, e⟩; omega), hv]
theorem end_fit2 {Y sc : Int} (h : al.all isD = true) (hv : Y = (valD 0 al : Int)) : endR false sc al = fitP Y false sc := by
  unfold endR
  rw [h, if_neg (by simp), if_neg (by rintro ⟨e, _⟩; cases e), hv]
end
theorem zero_yes {Y : Int} (h : Y = 0) : (Y / 18446744073709551616 == 0 && (Y % 18446744073709551616 == 0 && (false == false && true))) = true := by
  subst h
  rfl
theorem zero_no {Y : Int} (h : Y ≠ 0) (h0 : 0 ≤ Y) : (Y / 18446744073709551616 == 0 && (Y % 18446744073709551616 == 0 && (false == false && true))) = false := by
  by_cases h1 : Y / 18446744073709551616 = 0
  · have h2 : ¬ Y % 18446744073709551616 = 0 := by omega
    have h3 : (Y % 18446744073709551616 == 0) = false := by simpa using h2
    rw [h3]
    simp
  · have h3 : (Y / 18446744073709551616 == 0) = false := by simpa using h1
    rw [h3]
    rfl
/-- Where the loop stands: no more than 64 bits yet, or more. -/
structure Inv (al : List UInt8) (i : Nat) (X : Int) (ov : Bool) : Prop where
  all : (al.take i).all isD = true
  no : ov = false → X = (valD 0 (al.take i) : Int) ∧ X < 18446744073709551616
  yes : ov = true → 18446744073709551616 ≤ X ∧ 18446744073709551616 ≤ valD 0 (al.take i)
  x0 : 0 ≤ X
abbrev prS (ng ov : Bool) (sc : Int) (i : Nat) (al : List UInt8) : List SV := [.na, .na, .p 0 0, .v (it 0), .na, .v (.bool ng), .na, .na, .na, .v (it sc), .p 1 0, .v (.bool ov), .v (it i), .v (st (oL al))] ++ List.replicate 82 .na
theorem inv_next {al : List UInt8} {i n : Nat} {X : Int} (h : al.length = i + n + 1) (hc : isD (al.getD i 0) = true) (hall : (al.take i).all isD = true) (x0 : 0 ≤ X) (hx : X = (valD 0 (al.take i) : Int)) : Inv al (i + 1) (X * 10 + (((al.getD i 0).toNat - 48 : Nat) : Int)) (decide ((X * 10 + (((al.getD i 0).toNat - 48 : Nat) : Int)) / 18446744073709551616 > 0)) := by
  have hv := val_next h hc hx
  refine ⟨all_next h hc hall, fun e => ?_, fun e => ?_, by omega⟩
  · simp only [decide_eq_false_iff_not] at e
    omega
  · simp only [decide_eq_true_eq] at e
    omega
theorem inv_over {al : List UInt8} {i n : Nat} {X : Int} (h : al.length = i + n + 1) (hc : isD (al.getD i 0) = true) (hi : Inv al i X true) : Inv al (i + 1) X true := by
  have hv := val_step h
  have hy := hi.yes rfl
  exact ⟨all_next h hc hi.all, fun e => (by cases e), fun _ => ⟨hy.1, by omega⟩, hi.x0⟩
theorem pr_loop {al : List UInt8} (hl : al.length ≤ 9223372036854775807) (ng : Bool) (sc : Int) : ∀ (n i : Nat) (X : Int) (ov : Bool), al.length = i + n + 1 → Inv al i X ov →
    Fin cE Tryz.f94 0 (.v (ans (endR ng sc al))) [] 0 (prK (n + 1)) (prS ng ov sc i al) (pT (X / 18446744073709551616) (X % 18446744073709551616)) 2 := by
  intro n
  induction n using Nat.strongRecOn with
  | _ n ih =>
    intro i X ov hlen hinv
    have hb : (0 : Int) ≤ (i : Int) ∧ (i : Int) < ((oL al).size : Int) := by rw [oL_size]; omega
    have hall := hinv.all
    have x0 := hinv.x0
    cases ov with
    | false =>
      obtain ⟨hx, x1⟩ := hinv.no rfl
      by_cases hc : isD (al.getD i 0) = true
      · obtain ⟨y1, y2⟩ := dig_yes hc
        obtain ⟨s1, s2⟩ := step_does x0 x1 hc
        by_cases hm : n = 0
        · have hlast := last_take hlen hm
          have hv := val_next hlen hc hx
          have ha := all_next hlen hc hall
          rw [hlast] at hv ha
          obtain ⟨z0, z1⟩ := next_range x0 x1 hc
          generalize hY : X * 10 + (((al.getD i 0).toNat - 48 : Nat) : Int) = Y at s2 hv z0 z1
          by_cases hg : ng = true
          · subst hg
            by_cases hz : Y = 0
            · have he : endR true sc al = (0, 0, 21) := end_zero ha (by omega)
              rw [he]
              exact prc_3 (al := oL al) (ov := false) (sc := sc) (h0 := hb) (m := n) (h1 := y2) (h2 := rfl) (h3 := s1) (h4 := s2) (h5 := by rw [oL_size, step64 (by omega)]; simp; omega) (h6 := rfl) (h7 := zero_yes hz)
            · by_cases ho : Y / 18446744073709551616 > 0
              · have he : endR true sc al = (0, 0, 32) := end_over ha (by omega)
                rw [he]
                exact prc_4 (al := oL al) (ov := false) (sc := sc) (h0 := hb) (m := n) (h1 := y2) (h2 := rfl) (h3 := s1) (h4 := s2) (h5 := by rw [oL_size, step64 (by omega)]; simp; omega) (h6 := rfl) (h7 := zero_no hz z0) (h8 := by simpa using ho)
              · have he : endR true sc al = fitP Y true sc := end_fit ha hv (by omega)
                rw [he]
                exact prc_5 (al := oL al) (ov := false) (sc := sc) (h0 := hb) (m := n) (h1 := y2) (h2 := rfl) (h3 := s1) (h4 := s2) (h5 := by rw [oL_size, step64 (by omega)]; simp; omega) (h6 := rfl) (h7 := zero_no hz z0) (h8 := by simpa using ho) (h9 := pback_does z0 z1 true sc)
          · have hg2 : ng = false := by simpa using hg
            subst hg2
            by_cases ho : Y / 18446744073709551616 > 0
            · have he : endR false sc al = (0, 0, 32) := end_over ha (by omega)
              rw [he]
              exact prc_6 (al := oL al) (ov := false) (sc := sc) (h0 := hb) (m := n) (h1 := y2) (h2 := rfl) (h3 := s1) (h4 := s2) (h5 := by rw [oL_size, step64 (by omega)]; simp; omega) (h6 := rfl) (h7 := by simpa using ho)
            · have he : endR false sc al = fitP Y false sc := end_fit2 ha hv
              rw [he]
              exact prc_7 (al := oL al) (ov := false) (sc := sc) (h0 := hb) (m := n) (h1 := y2) (h2 := rfl) (h3 := s1) (h4 := s2) (h5 := by rw [oL_size, step64 (by omega)]; simp; omega) (h6 := rfl) (h7 := by simpa using ho) (h8 := pback_does z0 z1 false sc)
        · obtain ⟨k, rfl⟩ : ∃ k, n = k + 1 := ⟨n - 1, by omega⟩
          have h := prc_2 (al := oL al) (ov := false) (sc := sc) (h0 := hb) (ng := ng) (m := k + 1) (res := .v (ans (endR ng sc al))) (T' := []) (n' := 0) (h1 := y2) (h2 := rfl) (h3 := s1) (h4 := s2) (h5 := by rw [oL_size, step64 (by omega)]; simp; omega)
          rw [step64 (by omega)] at h
          refine h ?_
          rw [inK_prK]
          exact ih k (by omega) (i + 1) _ _ (by omega) (inv_next hlen hc hall x0 hx)
      · have he : endR ng sc al = (0, 0, 21) := end_bad hlen (by simpa using hc)
        rw [he]
        exact prc_1 (al := oL al) (ov := false) (sc := sc) (h0 := hb) (ng := ng) (h := X / 18446744073709551616) (l := X % 18446744073709551616) (m := n) (h1 := dig_no (Bool.eq_false_iff.2 hc))
    | true =>
      obtain ⟨o1, o2⟩ := hinv.yes rfl
      by_cases hc : isD (al.getD i 0) = true
      · obtain ⟨y1, y2⟩ := dig_yes hc
        by_cases hm : n = 0
        · have hlast := last_take hlen hm
          have hi2 := inv_over hlen hc hinv
          have ha := hi2.all
          have hv := (hi2.yes rfl).2
          rw [hlast] at ha hv
          have he : endR ng sc al = (0, 0, 32) := end_over ha hv
          rw [he]
          by_cases hg : ng = true
          · subst hg
            exact prc_10 (al := oL al) (ov := true) (sc := sc) (m := n) (h0 := hb) (h1 := y2) (h2 := rfl) (h3 := by rw [oL_size, step64 (by omega)]; simp; omega) (h4 := rfl) (h5 := zero_no (by omega) x0) (h6 := rfl)
          · have hg2 : ng = false := by simpa using hg
            subst hg2
            exact prc_12 (al := oL al) (ov := true) (h := X / 18446744073709551616) (l := X % 18446744073709551616) (sc := sc) (m := n) (h0 := hb) (h1 := y2) (h2 := rfl) (h3 := by rw [oL_size, step64 (by omega)]; simp; omega) (h4 := rfl) (h5 := rfl)
        · obtain ⟨k, rfl⟩ : ∃ k, n = k + 1 := ⟨n - 1, by omega⟩
          have h := prc_8 (al := oL al) (ng := ng) (ov := true) (sc := sc) (h := X / 18446744073709551616) (l := X % 18446744073709551616) (h0 := hb) (m := k + 1) (res := .v (ans (endR ng sc al))) (T' := []) (n' := 0) (h1 := y2) (h2 := rfl) (h3 := by rw [oL_size, step64 (by omega)]; simp; omega)
          rw [step64 (by omega)] at h
          refine h ?_
          rw [inK_prK]
          exact ih k (by omega) (i + 1) _ _ (by omega) (inv_over hlen hc hinv)
      · have he : endR ng sc al = (0, 0, 21) := end_bad hlen (by simpa using hc)
        rw [he]
        exact prc_1 (al := oL al) (ng := ng) (ov := true) (h := X / 18446744073709551616) (l := X % 18446744073709551616) (sc := sc) (m := n) (h0 := hb) (h1 := dig_no (Bool.eq_false_iff.2 hc))
theorem first_A (n : Nat) (ng : Bool) (s w t : List UInt8) (hs : s.length ≤ 9223372036854775807) (hlen : (w ++ t).length = 0 + n + 1) (hw : (w ++ t).length ≤ s.length) (q0 : Does cE 149 [] 0 [.v (st (oL s)), .v (st (ByteArray.mk #[45]))] (.v (.tuple #[st (oL (bodyL s)), .bool ng])) [] 0) (q1 : Does cE 147 [] 0 [.v (st (oL (bodyL s))), .v (st (ByteArray.mk #[46]))] (.v (.tuple #[st (oL w), st (oL t), .bool true])) [] 0) (q2 : ((oL w).toList == (ByteArray.mk #[]).toList) = false) (q4 : ((oL t).toList == (ByteArray.mk #[]).toList) = false) (q5 : decide (((oL t).size : Int) > 6) = false) (q6 : decide (((oL w).size : Int) > 1) = true) (q7 : (0 : Int) ≤ 0 ∧ (0 : Int) < ((oL w).size : Int)) (q8 : ((((w.getD 0 0).toNat : Nat) : Int) == 48) = false) :
    Fin cE Tryz.f94 0 (.v (ans (endR ng (t.length : Int) (w ++ t)))) [] 0 (scK psK (n + 1)) ([.v (st (oL s)), .na, .p 0 0, .v (it 0)] ++ List.replicate 92 .na) [(0, .box 88 [.v (it 0), .v (it 0)])] 1 := by
  have esz : ((oL t).size : Int) = (t.length : Int) := by rw [oL_size]
  have q9 : (oL w).size + (oL t).size ≤ 9223372036854775807 := by
    rw [oL_size, oL_size, ← List.length_append]
    omega
  have q10 : (0 : Int) ≤ 0 ∧ (0 : Int) < (((oL w ++ oL t).size : Nat) : Int) := by
    rw [oL_app, oL_size]
    omega
  have X0 : ∃ X : Int, X = 0 := ⟨0, rfl⟩
  obtain ⟨X, hX⟩ := X0
  have x0 : 0 ≤ X := by omega
  have x1 : X < 18446744073709551616 := by omega
  have hx : X = (valD 0 ((w ++ t).take 0) : Int) := by rw [hX]; rfl
  have hall : ((w ++ t).take 0).all isD = true := rfl
  by_cases hc : isD ((w ++ t).getD 0 0) = true
  · obtain ⟨y1, y2⟩ := dig_yes hc
    obtain ⟨s1, s2⟩ := step_does x0 x1 hc
    have eX1 : X / 18446744073709551616 = 0 := by omega
    have eX2 : X % 18446744073709551616 = 0 := by omega
    rw [eX1, eX2] at s1
    by_cases hm : n = 0
    · have hlast := last_take hlen hm
      have hv := val_next hlen hc hx
      have ha := all_next hlen hc hall
      rw [hlast] at hv ha
      obtain ⟨z0, z1⟩ := next_range x0 x1 hc
      generalize hY : X * 10 + ((((w ++ t).getD 0 0).toNat - 48 : Nat) : Int) = Y at s2 hv z0 z1
      by_cases hg : ng = true
      · subst hg
        by_cases hz : Y = 0
        · have he : endR true (t.length : Int) (w ++ t) = (0, 0, 21) := end_zero ha (by omega)
          rw [he]
          exact prb_7 (bs := oL s) (s2 := oL w) (s3 := oL t) (h0 := q0) (h1 := q1) (h2 := q2) (h3 := rfl) (h4 := q4) (h5 := q5) (h6 := q6) (h7 := q7) (h8 := q8) (h9 := q9) (h10 := q10) (m := n) (h11 := y2) (h12 := s1) (h13 := s2) (h14 := by
              rw [oL_app, oL_size, wrap64 (by decide) (by decide)]
              simp only [decide_eq_false_iff_not]
              omega) (h15 := rfl) (h16 := zero_yes hz)
        · by_cases ho : Y / 18446744073709551616 > 0
          · have he : endR true (t.length : Int) (w ++ t) = (0, 0, 32) := end_over ha (by omega)
            rw [he]
            exact prb_8 (bs := oL s) (s2 := oL w) (s3 := oL t) (h0 := q0) (h1 := q1) (h2 := q2) (h3 := rfl) (h4 := q4) (h5 := q5) (h6 := q6) (h7 := q7) (h8 := q8) (h9 := q9) (h10 := q10) (m := n) (h11 := y2) (h12 := s1) (h13 := s2) (h14 := by
              rw [oL_app, oL_size, wrap64 (by decide) (by decide)]
              simp only [decide_eq_false_iff_not]
              omega) (h15 := rfl) (h16 := zero_no hz z0) (h17 := by simpa using ho)
          · have he : endR true (t.length : Int) (w ++ t) = fitP Y true (t.length : Int) := end_fit ha hv (by omega)
            rw [he]
            exact prb_9 (bs := oL s) (s2 := oL w) (s3 := oL t) (h0 := q0) (h1 := q1) (h2 := q2) (h3 := rfl) (h4 := q4) (h5 := q5) (h6 := q6) (h7 := q7) (h8 := q8) (h9 := q9) (h10 := q10) (m := n) (h11 := y2) (h12 := s1) (h13 := s2) (h14 := by
              rw [oL_app, oL_size, wrap64 (by decide) (by decide)]
              simp only [decide_eq_false_iff_not]
              omega) (h15 := rfl) (h16 := zero_no hz z0) (h17 := by simpa using ho) (h18 := by rw [esz]; exact pback_does z0 z1 true (t.length : Int))
      · have hg2 : ng = false := by simpa using hg
        subst hg2
        by_cases ho : Y / 18446744073709551616 > 0
        · have he : endR false (t.length : Int) (w ++ t) = (0, 0, 32) := end_over ha (by omega)
          rw [he]
          exact prb_10 (bs := oL s) (s2 := oL w) (s3 := oL t) (h0 := q0) (h1 := q1) (h2 := q2) (h3 := rfl) (h4 := q4) (h5 := q5) (h6 := q6) (h7 := q7) (h8 := q8) (h9 := q9) (h10 := q10) (m := n) (h11 := y2) (h12 := s1) (h13 := s2) (h14 := by
              rw [oL_app, oL_size, wrap64 (by decide) (by decide)]
              simp only [decide_eq_false_iff_not]
              omega) (h15 := rfl) (h16 := by simpa using ho)
        · have he : endR false (t.length : Int) (w ++ t) = fitP Y false (t.length : Int) := end_fit2 ha hv
          rw [he]
          exact prb_11 (bs := oL s) (s2 := oL w) (s3 := oL t) (h0 := q0) (h1 := q1) (h2 := q2) (h3 := rfl) (h4 := q4) (h5 := q5) (h6 := q6) (h7 := q7) (h8 := q8) (h9 := q9) (h10 := q10) (m := n) (h11 := y2) (h12 := s1) (h13 := s2) (h14 := by
              rw [oL_app, oL_size, wrap64 (by decide) (by decide)]
              simp only [decide_eq_false_iff_not]
              omega) (h15 := rfl) (h16 := by simpa using ho) (h17 := by rw [esz]; exact pback_does z0 z1 false (t.length : Int))
    · obtain ⟨k, rfl⟩ : ∃ k, n = k + 1 := ⟨n - 1, by omega⟩
      have h := prb_6 (bs := oL s) (s2 := oL w) (s3 := oL t) (h0 := q0) (h1 := q1) (h2 := q2) (h3 := rfl) (h4 := q4) (h5 := q5) (h6 := q6) (h7 := q7) (h8 := q8) (h9 := q9) (h10 := q10) (m := k + 1) (res := .v (ans (endR ng (t.length : Int) (w ++ t)))) (T' := []) (n' := 0) (h11 := y2) (h12 := s1) (h13 := s2) (h14 := by
              rw [oL_app, oL_size, wrap64 (by decide) (by decide)]
              simp only [decide_eq_true_eq]
              omega)
      rw [oL_app, esz, wrap64 (n := 0 + 1) (by decide) (by decide)] at h
      refine h ?_
      rw [inK_prK]
      exact pr_loop (by omega) ng (t.length : Int) k (0 + 1) _ _ (by omega) (inv_next hlen hc hall x0 hx)
  · have he : endR ng (t.length : Int) (w ++ t) = (0, 0, 21) := end_bad hlen (by simpa using hc)
    rw [he]
    exact prb_5 (bs := oL s) (s2 := oL w) (s3 := oL t) (h0 := q0) (h1 := q1) (h2 := q2) (h3 := rfl) (h4 := q4) (h5 := q5) (h6 := q6) (h7 := q7) (h8 := q8) (h9 := q9) (h10 := q10) (m := n) (h11 := dig_no (Bool.eq_false_iff.2 hc))
theorem first_B (n : Nat) (ng : Bool) (s w t : List UInt8) (hs : s.length ≤ 9223372036854775807) (hlen : (w ++ t).length = 0 + n + 1) (hw : (w ++ t).length ≤ s.length) (q0 : Does cE 149 [] 0 [.v (st (oL s)), .v (st (ByteArray.mk #[45]))] (.v (.tuple #[st (oL (bodyL s)), .bool ng])) [] 0) (q1 : Does cE 147 [] 0 [.v (st (oL (bodyL s))), .v (st (ByteArray.mk #[46]))] (.v (.tuple #[st (oL w), st (oL t), .bool true])) [] 0) (q2 : ((oL w).toList == (ByteArray.mk #[]).toList) = false) (q4 : ((oL t).toList == (ByteArray.mk #[]).toList) = false) (q5 : decide (((oL t).size : Int) > 6) = false) (q6 : decide (((oL w).size : Int) > 1) = false) :
    Fin cE Tryz.f94 0 (.v (ans (endR ng (t.length : Int) (w ++ t)))) [] 0 (scK psK (n + 1)) ([.v (st (oL s)), .na, .p 0 0, .v (it 0)] ++ List.replicate 92 .na) [(0, .box 88 [.v (it 0), .v (it 0)])] 1 := by
  have esz : ((oL t).size : Int) = (t.length : Int) := by rw [oL_size]
  have q9 : (oL w).size + (oL t).size ≤ 9223372036854775807 := by
    rw [oL_size, oL_size, ← List.length_append]
    omega
  have q10 : (0 : Int) ≤ 0 ∧ (0 : Int) < (((oL w ++ oL t).size : Nat) : Int) := by
    rw [oL_app, oL_size]
    omega
  have X0 : ∃ X : Int, X = 0 := ⟨0, rfl⟩
  obtain ⟨X, hX⟩ := X0
  have x0 : 0 ≤ X := by omega
  have x1 : X < 18446744073709551616 := by omega
  have hx : X = (valD 0 ((w ++ t).take 0) : Int) := by rw [hX]; rfl
  have hall : ((w ++ t).take 0).all isD = true := rfl
  by_cases hc : isD ((w ++ t).getD 0 0) = true
  · obtain ⟨y1, y2⟩ := dig_yes hc
    obtain ⟨s1, s2⟩ := step_does x0 x1 hc
    have eX1 : X / 18446744073709551616 = 0 := by omega
    have eX2 : X % 18446744073709551616 = 0 := by omega
    rw [eX1, eX2] at s1
    by_cases hm : n = 0
    · have hlast := last_take hlen hm
      have hv := val_next hlen hc hx
      have ha := all_next hlen hc hall
      rw [hlast] at hv ha
      obtain ⟨z0, z1⟩ := next_range x0 x1 hc
      generalize hY : X * 10 + ((((w ++ t).getD 0 0).toNat - 48 : Nat) : Int) = Y at s2 hv z0 z1
      by_cases hg : ng = true
      · subst hg
        by_cases hz : Y = 0
        · have he : endR true (t.length : Int) (w ++ t) = (0, 0, 21) := end_zero ha (by omega)
          rw [he]
          exact prb_14 (bs := oL s) (s2 := oL w) (s3 := oL t) (h0 := q0) (h1 := q1) (h2 := q2) (h3 := rfl) (h4 := q4) (h5 := q5) (h6 := q6) (h7 := q9) (h8 := q10) (m := n) (h9 := y2) (h10 := s1) (h11 := s2) (h12 := by
              rw [oL_app, oL_size, wrap64 (by decide) (by decide)]
              simp only [decide_eq_false_iff_not]
              omega) (h13 := rfl) (h14 := zero_yes hz)
        · by_cases ho : Y / 18446744073709551616 > 0
          · have he : endR true (t.length : Int) (w ++ t) = (0, 0, 32) := end_over ha (by omega)
            rw [he]
            exact prb_15 (bs := oL s) (s2 := oL w) (s3 := oL t) (h0 := q0) (h1 := q1) (h2 := q2) (h3 := rfl) (h4 := q4) (h5 := q5) (h6 := q6) (h7 := q9) (h8 := q10) (m := n) (h9 := y2) (h10 := s1) (h11 := s2) (h12 := by
              rw [oL_app, oL_size, wrap64 (by decide) (by decide)]
              simp only [decide_eq_false_iff_not]
              omega) (h13 := rfl) (h14 := zero_no hz z0) (h15 := by simpa using ho)
          · have he : endR true (t.length : Int) (w ++ t) = fitP Y true (t.length : Int) := end_fit ha hv (by omega)
            rw [he]
            exact prb_16 (bs := oL s) (s2 := oL w) (s3 := oL t) (h0 := q0) (h1 := q1) (h2 := q2) (h3 := rfl) (h4 := q4) (h5 := q5) (h6 := q6) (h7 := q9) (h8 := q10) (m := n) (h9 := y2) (h10 := s1) (h11 := s2) (h12 := by
              rw [oL_app, oL_size, wrap64 (by decide) (by decide)]
              simp only [decide_eq_false_iff_not]
              omega) (h13 := rfl) (h14 := zero_no hz z0) (h15 := by simpa using ho) (h16 := by rw [esz]; exact pback_does z0 z1 true (t.length : Int))
      · have hg2 : ng = false := by simpa using hg
        subst hg2
        by_cases ho : Y / 18446744073709551616 > 0
        · have he : endR false (t.length : Int) (w ++ t) = (0, 0, 32) := end_over ha (by omega)
          rw [he]
          exact prb_17 (bs := oL s) (s2 := oL w) (s3 := oL t) (h0 := q0) (h1 := q1) (h2 := q2) (h3 := rfl) (h4 := q4) (h5 := q5) (h6 := q6) (h7 := q9) (h8 := q10) (m := n) (h9 := y2) (h10 := s1) (h11 := s2) (h12 := by
              rw [oL_app, oL_size, wrap64 (by decide) (by decide)]
              simp only [decide_eq_false_iff_not]
              omega) (h13 := rfl) (h14 := by simpa using ho)
        · have he : endR false (t.length : Int) (w ++ t) = fitP Y false (t.length : Int) := end_fit2 ha hv
          rw [he]
          exact prb_18 (bs := oL s) (s2 := oL w) (s3 := oL t) (h0 := q0) (h1 := q1) (h2 := q2) (h3 := rfl) (h4 := q4) (h5 := q5) (h6 := q6) (h7 := q9) (h8 := q10) (m := n) (h9 := y2) (h10 := s1) (h11 := s2) (h12 := by
              rw [oL_app, oL_size, wrap64 (by decide) (by decide)]
              simp only [decide_eq_false_iff_not]
              omega) (h13 := rfl) (h14 := by simpa using ho) (h15 := by rw [esz]; exact pback_does z0 z1 false (t.length : Int))
    · obtain ⟨k, rfl⟩ : ∃ k, n = k + 1 := ⟨n - 1, by omega⟩
      have h := prb_13 (bs := oL s) (s2 := oL w) (s3 := oL t) (h0 := q0) (h1 := q1) (h2 := q2) (h3 := rfl) (h4 := q4) (h5 := q5) (h6 := q6) (h7 := q9) (h8 := q10) (m := k + 1) (res := .v (ans (endR ng (t.length : Int) (w ++ t)))) (T' := []) (n' := 0) (h9 := y2) (h10 := s1) (h11 := s2) (h12 := by
              rw [oL_app, oL_size, wrap64 (by decide) (by decide)]
              simp only [decide_eq_true_eq]
              omega)
      rw [oL_app, esz, wrap64 (n := 0 + 1) (by decide) (by decide)] at h
      refine h ?_
      rw [inK_prK]
      exact pr_loop (by omega) ng (t.length : Int) k (0 + 1) _ _ (by omega) (inv_next hlen hc hall x0 hx)
  · have he : endR ng (t.length : Int) (w ++ t) = (0, 0, 21) := end_bad hlen (by simpa using hc)
    rw [he]
    exact prb_12 (bs := oL s) (s2 := oL w) (s3 := oL t) (h0 := q0) (h1 := q1) (h2 := q2) (h3 := rfl) (h4 := q4) (h5 := q5) (h6 := q6) (h7 := q9) (h8 := q10) (m := n) (h9 := dig_no (Bool.eq_false_iff.2 hc))
theorem first_C (n : Nat) (ng : Bool) (s w t : List UInt8) (hs : s.length ≤ 9223372036854775807) (hlen : (w ++ t).length = 0 + n + 1) (hw : (w ++ t).length ≤ s.length) (q0 : Does cE 149 [] 0 [.v (st (oL s)), .v (st (ByteArray.mk #[45]))] (.v (.tuple #[st (oL (bodyL s)), .bool ng])) [] 0) (q1 : Does cE 147 [] 0 [.v (st (oL (bodyL s))), .v (st (ByteArray.mk #[46]))] (.v (.tuple #[st (oL w), st (oL t), .bool false])) [] 0) (q2 : ((oL w).toList == (ByteArray.mk #[]).toList) = false) (q5 : decide (((oL t).size : Int) > 6) = false) (q6 : decide (((oL w).size : Int) > 1) = true) (q7 : (0 : Int) ≤ 0 ∧ (0 : Int) < ((oL w).size : Int)) (q8 : ((((w.getD 0 0).toNat : Nat) : Int) == 48) = false) :
    Fin cE Tryz.f94 0 (.v (ans (endR ng (t.length : Int) (w ++ t)))) [] 0 (scK psK (n + 1)) ([.v (st (oL s)), .na, .p 0 0, .v (it 0)] ++ List.replicate 92 .na) [(0, .box 88 [.v (it 0), .v (it 0)])] 1 := by
  have esz : ((oL t).size : Int) = (t.length : Int) := by rw [oL_size]
  have q9 : (oL w).size + (oL t).size ≤ 9223372036854775807 := by
    rw [oL_size, oL_size, ← List.length_append]
    omega
  have q10 : (0 : Int) ≤ 0 ∧ (0 : Int) < (((oL w ++ oL t).size : Nat) : Int) := by
    rw [oL_app, oL_size]
    omega
  have X0 : ∃ X : Int, X = 0 := ⟨0, rfl⟩
  obtain ⟨X, hX⟩ := X0
  have x0 : 0 ≤ X := by omega
  have x1 : X < 18446744073709551616 := by omega
  have hx : X = (valD 0 ((w ++ t).take 0) : Int) := by rw [hX]; rfl
  have hall : ((w ++ t).take 0).all isD = true := rfl
  by_cases hc : isD ((w ++ t).getD 0 0) = true
  · obtain ⟨y1, y2⟩ := dig_yes hc
    obtain ⟨s1, s2⟩ := step_does x0 x1 hc
    have eX1 : X / 18446744073709551616 = 0 := by omega
    have eX2 : X % 18446744073709551616 = 0 := by omega
    rw [eX1, eX2] at s1
    by_cases hm : n = 0
    · have hlast := last_take hlen hm
      have hv := val_next hlen hc hx
      have ha := all_next hlen hc hall
      rw [hlast] at hv ha
      obtain ⟨z0, z1⟩ := next_range x0 x1 hc
      generalize hY : X * 10 + ((((w ++ t).getD 0 0).toNat - 48 : Nat) : Int) = Y at s2 hv z0 z1
      by_cases hg : ng = true
      · subst hg
        by_cases hz : Y = 0
        · have he : endR true (t.length : Int) (w ++ t) = (0, 0, 21) := end_zero ha (by omega)
          rw [he]
          exact prb_23 (bs := oL s) (s2 := oL w) (s3 := oL t) (h0 := q0) (h1 := q1) (h2 := q2) (h3 := rfl) (h4 := q5) (h5 := q6) (h6 := q7) (h7 := q8) (h8 := q9) (h9 := q10) (m := n) (h10 := y2) (h11 := s1) (h12 := s2) (h13 := by
              rw [oL_app, oL_size, wrap64 (by decide) (by decide)]
              simp only [decide_eq_false_iff_not]
              omega) (h14 := rfl) (h15 := zero_yes hz)
        · by_cases ho : Y / 18446744073709551616 > 0
          · have he : endR true (t.length : Int) (w ++ t) = (0, 0, 32) := end_over ha (by omega)
            rw [he]
            exact prb_24 (bs := oL s) (s2 := oL w) (s3 := oL t) (h0 := q0) (h1 := q1) (h2 := q2) (h3 := rfl) (h4 := q5) (h5 := q6) (h6 := q7) (h7 := q8) (h8 := q9) (h9 := q10) (m := n) (h10 := y2) (h11 := s1) (h12 := s2) (h13 := by
              rw [oL_app, oL_size, wrap64 (by decide) (by decide)]
              simp only [decide_eq_false_iff_not]
              omega) (h14 := rfl) (h15 := zero_no hz z0) (h16 := by simpa using ho)
          · have he : endR true (t.length : Int) (w ++ t) = fitP Y true (t.length : Int) := end_fit ha hv (by omega)
            rw [he]
            exact prb_25 (bs := oL s) (s2 := oL w) (s3 := oL t) (h0 := q0) (h1 := q1) (h2 := q2) (h3 := rfl) (h4 := q5) (h5 := q6) (h6 := q7) (h7 := q8) (h8 := q9) (h9 := q10) (m := n) (h10 := y2) (h11 := s1) (h12 := s2) (h13 := by
              rw [oL_app, oL_size, wrap64 (by decide) (by decide)]
              simp only [decide_eq_false_iff_not]
              omega) (h14 := rfl) (h15 := zero_no hz z0) (h16 := by simpa using ho) (h17 := by rw [esz]; exact pback_does z0 z1 true (t.length : Int))
      · have hg2 : ng = false := by simpa using hg
        subst hg2
        by_cases ho : Y / 18446744073709551616 > 0
        · have he : endR false (t.length : Int) (w ++ t) = (0, 0, 32) := end_over ha (by omega)
          rw [he]
          exact prb_26 (bs := oL s) (s2 := oL w) (s3 := oL t) (h0 := q0) (h1 := q1) (h2 := q2) (h3 := rfl) (h4 := q5) (h5 := q6) (h6 := q7) (h7 := q8) (h8 := q9) (h9 := q10) (m := n) (h10 := y2) (h11 := s1) (h12 := s2) (h13 := by
              rw [oL_app, oL_size, wrap64 (by decide) (by decide)]
              simp only [decide_eq_false_iff_not]
              omega) (h14 := rfl) (h15 := by simpa using ho)
        · have he : endR false (t.length : Int) (w ++ t) = fitP Y false (t.length : Int) := end_fit2 ha hv
          rw [he]
          exact prb_27 (bs := oL s) (s2 := oL w) (s3 := oL t) (h0 := q0) (h1 := q1) (h2 := q2) (h3 := rfl) (h4 := q5) (h5 := q6) (h6 := q7) (h7 := q8) (h8 := q9) (h9 := q10) (m := n) (h10 := y2) (h11 := s1) (h12 := s2) (h13 := by
              rw [oL_app, oL_size, wrap64 (by decide) (by decide)]
              simp only [decide_eq_false_iff_not]
              omega) (h14 := rfl) (h15 := by simpa using ho) (h16 := by rw [esz]; exact pback_does z0 z1 false (t.length : Int))
    · obtain ⟨k, rfl⟩ : ∃ k, n = k + 1 := ⟨n - 1, by omega⟩
      have h := prb_22 (bs := oL s) (s2 := oL w) (s3 := oL t) (h0 := q0) (h1 := q1) (h2 := q2) (h3 := rfl) (h4 := q5) (h5 := q6) (h6 := q7) (h7 := q8) (h8 := q9) (h9 := q10) (m := k + 1) (res := .v (ans (endR ng (t.length : Int) (w ++ t)))) (T' := []) (n' := 0) (h10 := y2) (h11 := s1) (h12 := s2) (h13 := by
              rw [oL_app, oL_size, wrap64 (by decide) (by decide)]
              simp only [decide_eq_true_eq]
              omega)
      rw [oL_app, esz, wrap64 (n := 0 + 1) (by decide) (by decide)] at h
      refine h ?_
      rw [inK_prK]
      exact pr_loop (by omega) ng (t.length : Int) k (0 + 1) _ _ (by omega) (inv_next hlen hc hall x0 hx)
  · have he : endR ng (t.length : Int) (w ++ t) = (0, 0, 21) := end_bad hlen (by simpa using hc)
    rw [he]
    exact prb_21 (bs := oL s) (s2 := oL w) (s3 := oL t) (h0 := q0) (h1 := q1) (h2 := q2) (h3 := rfl) (h4 := q5) (h5 := q6) (h6 := q7) (h7 := q8) (h8 := q9) (h9 := q10) (m := n) (h10 := dig_no (Bool.eq_false_iff.2 hc))
theorem first_D (n : Nat) (ng : Bool) (s w t : List UInt8) (hs : s.length ≤ 9223372036854775807) (hlen : (w ++ t).length = 0 + n + 1) (hw : (w ++ t).length ≤ s.length) (q0 : Does cE 149 [] 0 [.v (st (oL s)), .v (st (ByteArray.mk #[45]))] (.v (.tuple #[st (oL (bodyL s)), .bool ng])) [] 0) (q1 : Does cE 147 [] 0 [.v (st (oL (bodyL s))), .v (st (ByteArray.mk #[46]))] (.v (.tuple #[st (oL w), st (oL t), .bool false])) [] 0) (q2 : ((oL w).toList == (ByteArray.mk #[]).toList) = false) (q5 : decide (((oL t).size : Int) > 6) = false) (q6 : decide (((oL w).size : Int) > 1) = false) :
    Fin cE Tryz.f94 0 (.v (ans (endR ng (t.length : Int) (w ++ t)))) [] 0 (scK psK (n + 1)) ([.v (st (oL s)), .na, .p 0 0, .v (it 0)] ++ List.replicate 92 .na) [(0, .box 88 [.v (it 0), .v (it 0)])] 1 := by
  have esz : ((oL t).size : Int) = (t.length : Int) := by rw [oL_size]
  have q9 : (oL w).size + (oL t).size ≤ 9223372036854775807 := by
    rw [oL_size, oL_size, ← List.length_append]
    omega
  have q10 : (0 : Int) ≤ 0 ∧ (0 : Int) < (((oL w ++ oL t).size : Nat) : Int) := by
    rw [oL_app, oL_size]
    omega
  have X0 : ∃ X : Int, X = 0 := ⟨0, rfl⟩
  obtain ⟨X, hX⟩ := X0
  have x0 : 0 ≤ X := by omega
  have x1 : X < 18446744073709551616 := by omega
  have hx : X = (valD 0 ((w ++ t).take 0) : Int) := by rw [hX]; rfl
  have hall : ((w ++ t).take 0).all isD = true := rfl
  by_cases hc : isD ((w ++ t).getD 0 0) = true
  · obtain ⟨y1, y2⟩ := dig_yes hc
    obtain ⟨s1, s2⟩ := step_does x0 x1 hc
    have eX1 : X / 18446744073709551616 = 0 := by omega
    have eX2 : X % 18446744073709551616 = 0 := by omega
    rw [eX1, eX2] at s1
    by_cases hm : n = 0
    · have hlast := last_take hlen hm
      have hv := val_next hlen hc hx
      have ha := all_next hlen hc hall
      rw [hlast] at hv ha
      obtain ⟨z0, z1⟩ := next_range x0 x1 hc
      generalize hY : X * 10 + ((((w ++ t).getD 0 0).toNat - 48 : Nat) : Int) = Y at s2 hv z0 z1
      by_cases hg : ng = true
      · subst hg
        by_cases hz : Y = 0
        · have he : endR true (t.length : Int) (w ++ t) = (0, 0, 21) := end_zero ha (by omega)
          rw [he]
          exact prb_30 (bs := oL s) (s2 := oL w) (s3 := oL t) (h0 := q0) (h1 := q1) (h2 := q2) (h3 := rfl) (h4 := q5) (h5 := q6) (h6 := q9) (h7 := q10) (m := n) (h8 := y2) (h9 := s1) (h10 := s2) (h11 := by
              rw [oL_app, oL_size, wrap64 (by decide) (by decide)]
              simp only [decide_eq_false_iff_not]
              omega) (h12 := rfl) (h13 := zero_yes hz)
        · by_cases ho : Y / 18446744073709551616 > 0
          · have he : endR true (t.length : Int) (w ++ t) = (0, 0, 32) := end_over ha (by omega)
            rw [he]
            exact prb_31 (bs := oL s) (s2 := oL w) (s3 := oL t) (h0 := q0) (h1 := q1) (h2 := q2) (h3 := rfl) (h4 := q5) (h5 := q6) (h6 := q9) (h7 := q10) (m := n) (h8 := y2) (h9 := s1) (h10 := s2) (h11 := by
              rw [oL_app, oL_size, wrap64 (by decide) (by decide)]
              simp only [decide_eq_false_iff_not]
              omega) (h12 := rfl) (h13 := zero_no hz z0) (h14 := by simpa using ho)
          · have he : endR true (t.length : Int) (w ++ t) = fitP Y true (t.length : Int) := end_fit ha hv (by omega)
            rw [he]
            exact prb_32 (bs := oL s) (s2 := oL w) (s3 := oL t) (h0 := q0) (h1 := q1) (h2 := q2) (h3 := rfl) (h4 := q5) (h5 := q6) (h6 := q9) (h7 := q10) (m := n) (h8 := y2) (h9 := s1) (h10 := s2) (h11 := by
              rw [oL_app, oL_size, wrap64 (by decide) (by decide)]
              simp only [decide_eq_false_iff_not]
              omega) (h12 := rfl) (h13 := zero_no hz z0) (h14 := by simpa using ho) (h15 := by rw [esz]; exact pback_does z0 z1 true (t.length : Int))
      · have hg2 : ng = false := by simpa using hg
        subst hg2
        by_cases ho : Y / 18446744073709551616 > 0
        · have he : endR false (t.length : Int) (w ++ t) = (0, 0, 32) := end_over ha (by omega)
          rw [he]
          exact prb_33 (bs := oL s) (s2 := oL w) (s3 := oL t) (h0 := q0) (h1 := q1) (h2 := q2) (h3 := rfl) (h4 := q5) (h5 := q6) (h6 := q9) (h7 := q10) (m := n) (h8 := y2) (h9 := s1) (h10 := s2) (h11 := by
              rw [oL_app, oL_size, wrap64 (by decide) (by decide)]
              simp only [decide_eq_false_iff_not]
              omega) (h12 := rfl) (h13 := by simpa using ho)
        · have he : endR false (t.length : Int) (w ++ t) = fitP Y false (t.length : Int) := end_fit2 ha hv
          rw [he]
          exact prb_34 (bs := oL s) (s2 := oL w) (s3 := oL t) (h0 := q0) (h1 := q1) (h2 := q2) (h3 := rfl) (h4 := q5) (h5 := q6) (h6 := q9) (h7 := q10) (m := n) (h8 := y2) (h9 := s1) (h10 := s2) (h11 := by
              rw [oL_app, oL_size, wrap64 (by decide) (by decide)]
              simp only [decide_eq_false_iff_not]
              omega) (h12 := rfl) (h13 := by simpa using ho) (h14 := by rw [esz]; exact pback_does z0 z1 false (t.length : Int))
    · obtain ⟨k, rfl⟩ : ∃ k, n = k + 1 := ⟨n - 1, by omega⟩
      have h := prb_29 (bs := oL s) (s2 := oL w) (s3 := oL t) (h0 := q0) (h1 := q1) (h2 := q2) (h3 := rfl) (h4 := q5) (h5 := q6) (h6 := q9) (h7 := q10) (m := k + 1) (res := .v (ans (endR ng (t.length : Int) (w ++ t)))) (T' := []) (n' := 0) (h8 := y2) (h9 := s1) (h10 := s2) (h11 := by
              rw [oL_app, oL_size, wrap64 (by decide) (by decide)]
              simp only [decide_eq_true_eq]
              omega)
      rw [oL_app, esz, wrap64 (n := 0 + 1) (by decide) (by decide)] at h
      refine h ?_
      rw [inK_prK]
      exact pr_loop (by omega) ng (t.length : Int) k (0 + 1) _ _ (by omega) (inv_next hlen hc hall x0 hx)
  · have he : endR ng (t.length : Int) (w ++ t) = (0, 0, 21) := end_bad hlen (by simpa using hc)
    rw [he]
    exact prb_28 (bs := oL s) (s2 := oL w) (s3 := oL t) (h0 := q0) (h1 := q1) (h2 := q2) (h3 := rfl) (h4 := q5) (h5 := q6) (h6 := q9) (h7 := q10) (m := n) (h8 := dig_no (Bool.eq_false_iff.2 hc))
end Go.Proofs.YtpfignfgfhbblaaGreatDoorC
/- The program's Parse, at every text: joined. -/
namespace Go.Proofs.YtpfignfgfhbblaaGreatDoorC
open Go.Proofs Go.Proofs.YtpfignfgfhbblaaGreatDoorSx Go.RowKit Go.Sort Go.Lib
set_option maxRecDepth 100000
set_option linter.unusedVariables false
set_option linter.unusedSimpArgs false
theorem empty_list : (ByteArray.mk #[]).toList = [] := oL_toList []
theorem ne_empty {l : List UInt8} (h : l ≠ []) : ((oL l).toList == (ByteArray.mk #[]).toList) = false := by
  rw [oL_toList, empty_list]
  cases l with
  | nil => exact (h rfl).elim
  | cons a r => rfl
theorem is_empty {l : List UInt8} (h : l = []) : ((oL l).toList == (ByteArray.mk #[]).toList) = true := by
  rw [oL_toList, empty_list, h]
  rfl
theorem head_eq {w : List UInt8} (h : w ≠ []) : ((((w.getD 0 0).toNat : Nat) : Int) == 48) = decide (w.head? = some 48) := by
  cases w with
  | nil => exact (h rfl).elim
  | cons c r =>
    simp only [List.getD_cons_zero, List.head?_cons, Option.some.injEq]
    by_cases hc : c = 48
    · subst hc
      rfl
    · have : ¬ ((c.toNat : Nat) : Int) = 48 := by
        intro e
        apply hc
        apply UInt8.toNat_inj.1
        have e48 : (48 : UInt8).toNat = 48 := rfl
        omega
      have h2 : (((c.toNat : Nat) : Int) == 48) = false := by simpa using this
      rw [h2]
      simp [hc]
theorem body_len (s : List UInt8) : (bodyL s).length ≤ s.length := by
  unfold bodyL
  split
  · simp
  · exact Nat.le_refl _
theorem sp_le (l : List UInt8) : ((spD l).1 ++ (spD l).2.getD []).length ≤ l.length := by
  cases h : (spD l).2 with
  | none =>
    have := congrArg List.length (sp_back l)
    rw [h] at this
    simp at this ⊢
    omega
  | some p =>
    have := sp_len l p h
    simp
    omega
theorem parse_does (s : List UInt8) (hs : s.length ≤ 9223372036854775807) : Does cE 94 [] 0 [.v (st (oL s))] (.v (ans (parseL s))) [] 0 := by
  refine does_of_fin (fn := Tryz.f94) (c := bd Tryz.f94) rfl (by kernel_rfl) rfl ?_
  refine pra_1 (oL s) _ _ _ ?_
  have q0 := cutp_does s
  have hbl := body_len s
  have q1 := cut_does (bodyL s) (by omega)
  have hsl := sp_le (bodyL s)
  unfold parseL
  generalize hw : (spD (bodyL s)).1 = w at q1 hsl ⊢
  generalize hp : (spD (bodyL s)).2 = p at q1 hsl ⊢
  generalize hng : sgn s = ng at q0 ⊢
  by_cases w0 : w = []
  · rw [p_rule1 ng (.inl w0)]
    exact fin_scope (0 + 1) (prb_1 (bs := oL s) (m := 0) (h0 := q0) (h1 := q1) (h2 := is_empty w0))
  have q2 := ne_empty w0
  have hlw : 0 < w.length := by
    cases w with
    | nil => exact (w0 rfl).elim
    | cons a r => simp
  have q7 : (0 : Int) ≤ 0 ∧ (0 : Int) < ((oL w).size : Int) := by rw [oL_size]; omega
  cases p with
  | none =>
    simp only [Option.getD_none, Option.isSome_none] at q1 hsl
    have q5 : decide (((oL []).size : Int) > 6) = false := rfl
    by_cases hl : 1 < w.length
    · have q6 : decide (((oL w).size : Int) > 1) = true := by rw [oL_size]; simp; omega
      by_cases h48 : w.head? = some 48
      · rw [p_rule1 ng (.inr (.inr (.inr (.inl ⟨hl, h48⟩))))]
        exact fin_scope (0 + 1) (prb_20 (bs := oL s) (m := 0) (s2 := oL w) (h0 := q0) (h1 := q1) (h2 := q2) (h3 := rfl) (h4 := q5) (h5 := q6) (h6 := q7) (h7 := (head_eq w0).trans (by simpa using h48)))
      · rw [p_end w0 (by simp) (by simp) (by rintro ⟨_, e⟩; exact h48 e)]
        exact fin_scope (w.length - 1 + 1) (first_C (w.length - 1) ng s w [] hs (by simp; omega) (by omega) q0 q1 q2 q5 q6 q7 ((head_eq w0).trans (by simpa using h48)))
    · have q6 : decide (((oL w).size : Int) > 1) = false := by rw [oL_size]; simp; omega
      rw [p_end w0 (by simp) (by simp) (by rintro ⟨e, _⟩; exact hl e)]
      exact fin_scope (w.length - 1 + 1) (first_D (w.length - 1) ng s w [] hs (by simp; omega) (by omega) q0 q1 q2 q5 q6)
  | some t =>
    simp only [Option.getD_some, Option.isSome_some] at q1 hsl
    by_cases t0 : t = []
    · subst t0
      rw [p_rule1 ng (.inr (.inl rfl))]
      exact fin_scope (0 + 1) (prb_2 (bs := oL s) (m := 0) (h0 := q0) (h1 := q1) (h2 := q2) (h3 := rfl) (h4 := is_empty rfl))
    have q4 := ne_empty t0
    by_cases t6 : 6 < t.length
    · have q5 : decide (((oL t).size : Int) > 6) = true := by rw [oL_size]; simp; omega
      rw [p_rule1 ng (p := some t) (.inr (.inr (.inl (by simpa using t6))))]
      exact fin_scope (0 + 1) (prb_3 (bs := oL s) (m := 0) (h0 := q0) (h1 := q1) (h2 := q2) (h3 := rfl) (h4 := q4) (h5 := q5))
    have q5 : decide (((oL t).size : Int) > 6) = false := by rw [oL_size]; simp; omega
    have tt : some t ≠ some [] := by simpa using t0
    by_cases hl : 1 < w.length
    · have q6 : decide (((oL w).size : Int) > 1) = true := by rw [oL_size]; simp; omega
      by_cases h48 : w.head? = some 48
      · rw [p_rule1 ng (.inr (.inr (.inr (.inl ⟨hl, h48⟩))))]
        exact fin_scope (0 + 1) (prb_4 (bs := oL s) (m := 0) (s2 := oL w) (h0 := q0) (h1 := q1) (h2 := q2) (h3 := rfl) (h4 := q4) (h5 := q5) (h6 := q6) (h7 := q7) (h8 := (head_eq w0).trans (by simpa using h48)))
      · rw [p_end w0 tt (by simp; omega) (by rintro ⟨_, e⟩; exact h48 e)]
        exact fin_scope ((w ++ t).length - 1 + 1) (first_A ((w ++ t).length - 1) ng s w t hs (by simp; omega) (by omega) q0 q1 q2 q4 q5 q6 q7 ((head_eq w0).trans (by simpa using h48)))
    · have q6 : decide (((oL w).size : Int) > 1) = false := by rw [oL_size]; simp; omega
      rw [p_end w0 tt (by simp; omega) (by rintro ⟨e, _⟩; exact hl e)]
      exact fin_scope ((w ++ t).length - 1 + 1) (first_B ((w ++ t).length - 1) ng s w t hs (by simp; omega) (by omega) q0 q1 q2 q4 q5 q6)
end Go.Proofs.YtpfignfgfhbblaaGreatDoorC
/- Go's library, told where points and values are written and read: Itoa, Atoi, Trim, Cut at a comma, TrimSuffix, Contains. -/
namespace Go.Proofs.YtpfignfgfhbblaaGreatDoorC
open Go.Proofs Go.Proofs.YtpfignfgfhbblaaGreatDoorSx Go.RowKit Go.Sort Go.Lib Go.Shelf
set_option maxRecDepth 100000
set_option linter.unusedVariables false
set_option linter.unusedSimpArgs false
def sq : List UInt8 → List UInt8 × Option (List UInt8)
  | [] => ([], none)
  | c :: r => if c = 44 then ([], some r) else (c :: (sq r).1, (sq r).2)
theorem sq_back : ∀ (l : List UInt8), l = (sq l).1 ++ (match (sq l).2 with | none => [] | some p => 44 :: p)
  | [] => rfl
  | c :: r => by
    rw [sq]
    by_cases h : c = 44
    · rw [if_pos h, h]
      rfl
    · rw [if_neg h]
      show c :: r = c :: ((sq r).1 ++ _)
      rw [← sq_back r]
theorem index_sq : ∀ l : List UInt8, indexByte l 44 = (match (sq l).2 with | none => -1 | some _ => ((sq l).1.length : Int))
  | [] => rfl
  | c :: r => by
    have ih := index_sq r
    rw [indexByte, sq]
    by_cases hc : c = 44
    · subst hc
      simp
    · rw [if_neg hc]
      have : (c == 44) = false := by simpa using hc
      rw [this, ih]
      cases h : (sq r).2 with
      | none => simp
      | some p =>
        have : ¬ (((sq r).1.length : Int) = -1) := by omega
        simp [this]
theorem idx44_does (l : List UInt8) : Does cE 185 [] 0 [.v (st (oL l)), .v (st (ByteArray.mk #[44]))] (.v (it (indexByte l 44))) [] 0 := by
  refine does_lib (l := [st (oL l), st (ByteArray.mk #[44])]) (enters (fn := Tryz.f185) rfl (by kernel_rfl) rfl) (fun w hg => ?_)
  refine (Any.stringslite_Index_one Tryz.laysIndex (oL l) 44 w).mono fun e w' hh => ?_
  rw [oL_data] at hh
  exact ⟨hh.1, hh.2 ▸ Below.refl _ _⟩
theorem sq_len : ∀ (l p : List UInt8), (sq l).2 = some p → l.length = (sq l).1.length + 1 + p.length := by
  intro l p h
  have := congrArg List.length (sq_back l)
  rw [h] at this
  simp at this
  omega
theorem cut44_does (l : List UInt8) (hl : l.length ≤ 9223372036854775807) : Does cE 147 [] 0 [.v (st (oL l)), .v (st (ByteArray.mk #[44]))] (.v (.tuple #[st (oL (sq l).1), st (oL ((sq l).2.getD [])), .bool (sq l).2.isSome])) [] 0 := by
  have hi := idx44_does l
  rw [index_sq] at hi
  have hb := sq_back l
  have e44 : ((ByteArray.mk #[44]).size : Int) = 1 := rfl
  refine scut_1 (h0 := ?_)
  cases hp : (sq l).2 with
  | none =>
    rw [hp] at hi hb
    have h := lcut_2 (bs := oL l) (ss := ByteArray.mk #[44]) (h0 := hi) (h1 := rfl)
    simp only [List.append_nil] at hb
    rw [← hb]
    exact h
  | some p =>
    rw [hp] at hi hb
    have hlen := sq_len l p hp
    have hw : IntKind.i64.wrap (((sq l).1.length : Int) + ((ByteArray.mk #[44]).size : Int)) = (((sq l).1.length + 1 : Nat) : Int) := by
      rw [e44, wrap64 (by omega) (by omega)]
      rfl
    have h := lcut_1 (bs := oL l) (ss := ByteArray.mk #[44]) (h0 := hi) (h1 := by simp) (h2 := by rw [oL_size]; simp; omega) (h3 := by rw [hw, oL_size]; omega)
    rw [hw] at h
    have e1 : (oL l).extract (Int.toNat 0) ((sq l).1.length : Int).toNat = oL (sq l).1 := by
      rw [oL_ext]
      congr 1
      have h2 : l = (sq l).1 ++ 44 :: p := hb
      generalize (sq l).1 = w at h2
      subst h2
      simp
    have e2 : (oL l).extract (((sq l).1.length + 1 : Nat) : Int).toNat ((oL l).size : Int).toNat = oL p := by
      rw [oL_ext, oL_size]
      congr 1
      have h2 : l = (sq l).1 ++ 44 :: p := hb
      generalize (sq l).1 = w at h2
      subst h2
      have e3 : ((w.length + 1 : Nat) : Int).toNat = w.length + 1 := by omega
      rw [e3]
      have e4 : List.drop (w.length + 1) (w ++ 44 :: p) = p := by
        rw [List.drop_append]
        simp
      rw [e4]
      apply List.take_of_length_le
      simp
      omega
    rw [e1, e2] at h
    exact h
/-- strconv.Itoa. -/
theorem itoa_does (n : Int) (hn : I64 n) : Does cE 110 [] 0 [.v (it n)] (.v (st (oL (Lib.itoa n)))) [] 0 := by
  refine does_lib (l := [it n]) (enters (fn := Tryz.f110) rfl (by kernel_rfl) rfl) (fun w hg => ?_)
  refine (Any.strconv_Itoa Tryz.laysItoa n hn.1 hn.2 w (tens_in hg)).mono fun e w' hh => ?_
  obtain ⟨e1, k, os, rfl⟩ := hh
  exact ⟨e1, below_more w k os⟩
/-- strconv.Atoi at a numeral that an int holds. -/
theorem atoi_ok (l : List UInt8) (hl : l.length ≤ 140737488355328) {v : Int} (h : Lib.atoiAll l = .ok v) : Does cE 148 [] 0 [.v (st (oL l))] (.v (.tuple #[it v, .nilIface])) [] 0 := by
  refine does_lib (l := [st (oL l)]) (enters (fn := Tryz.f148) rfl (by kernel_rfl) rfl) (fun w hg => ?_)
  refine (Any.strconv_Atoi_ok Tryz.laysAtoi (oL l) (by rw [oL_size]; omega) v (by rw [oL_data]; exact h) w).mono fun e w' hh => ?_
  obtain ⟨e1, e2⟩ := hh
  refine ⟨e1, ?_⟩
  rcases e2 with rfl | ⟨t, rfl⟩
  · exact Below.refl _ _
  · exact Lib.bytesWorld_below _ _ _
/-- At any other text: some number, and an error. -/
theorem atoi_bad (l : List UInt8) (hl : l.length ≤ 140737488355328) (h : ∀ v, Lib.atoiAll l ≠ .ok v) : ∃ n : Int, Does cE 148 [] 0 [.v (st (oL l))] (.t [.v (it n), .ni]) [] 0 := by
  have rl : ∀ (n : Int) (t : TypeId) (p : Value) (U : Nat → Prop) (μ : Nat → Value), rel U μ (.t [.v (it n), .ni]) (.tuple #[it n, .iface t p]) := by
    intro n t p U μ
    unfold rel
    exact ⟨[it n, .iface t p], rfl, slots_cons.2 ⟨rel_v.2 rfl, slots_cons.2 ⟨by unfold rel; exact ⟨t, p, rfl⟩, slots_nil⟩⟩⟩
  cases hc : Lib.atoiAll l with
  | ok v => exact absurd hc (h v)
  | «syntax» =>
    refine ⟨0, does_libR (l := [st (oL l)]) (enters (fn := Tryz.f148) rfl (by kernel_rfl) rfl) (fun w hg => ?_)⟩
    obtain ⟨_, ev, hm, hev⟩ := hg.2 5 _ rfl
    refine (Any.strconv_Atoi_syntax Tryz.laysAtoi (oL l) (by rw [oL_size]; omega) (by rw [oL_data]; exact hc) ev w hm hev).mono fun e w' hh => ?_
    obtain ⟨M, e1, _, _, e4⟩ := hh
    exact ⟨_, e1, rl _ _ _, e4⟩
  | range =>
    refine ⟨Lib.atoiSat l, does_libR (l := [st (oL l)]) (enters (fn := Tryz.f148) rfl (by kernel_rfl) rfl) (fun w hg => ?_)⟩
    obtain ⟨_, ev, hm, hev⟩ := hg.2 6 _ rfl
    refine (Any.strconv_Atoi_range Tryz.laysAtoi (oL l) (by rw [oL_size]; omega) (by rw [oL_data]; exact hc) ev w hm hev).mono fun e w' hh => ?_
    obtain ⟨M, e1, _, _, e4⟩ := hh
    rw [oL_data] at e1
    exact ⟨_, e1, rl _ _ _, e4⟩
/-- strings.Trim of '<' and '>'. -/
theorem trim_does (l : List UInt8) (hl : l.length ≤ 140737488355328) : Does cE 65 [] 0 [.v (st (oL l)), .v (st (ByteArray.mk #[60, 62]))] (.v (st (oL (Lib.trimS l [60, 62])))) [] 0 := by
  refine does_lib (l := [st (oL l), st (ByteArray.mk #[60, 62])]) (enters (fn := Tryz.f65) rfl (by kernel_rfl) rfl) (fun w hg => ?_)
  have h := Any.strings_Trim_laid Tryz.laysTrim (by kernel_rfl) (oL l) (ByteArray.mk #[60, 62]) w (by rw [oL_size]; omega) (by decide) (ascii_of_all (by decide))
  rw [oL_data] at h
  exact h
/-- strings.TrimSuffix of '.'; strings.Contains of '.'. -/
theorem trims_does (l : List UInt8) (hl : l.length ≤ 140737488355328) : Does cE 95 [] 0 [.v (st (oL l)), .v (st (ByteArray.mk #[46]))] (.v (st (oL (Lib.trimSuffix l [46])))) [] 0 := by
  refine does_lib (l := [st (oL l), st (ByteArray.mk #[46])]) (enters (fn := Tryz.f95) rfl (by kernel_rfl) rfl) (fun w hg => ?_)
  refine (Any.strings_TrimSuffix Tryz.laysTrimSuffix (oL l) (ByteArray.mk #[46]) w (by rw [oL_size]; omega)).mono fun e w' hh => ?_
  rw [oL_data] at hh
  exact ⟨hh.1, hh.2 ▸ Below.refl _ _⟩
theorem cont46_does (l : List UInt8) : Does cE 96 [] 0 [.v (st (oL l)), .v (st (ByteArray.mk #[46]))] (.v (.bool (decide (0 ≤ Lib.indexByte l 46)))) [] 0 := by
  refine does_lib (l := [st (oL l), st (ByteArray.mk #[46])]) (enters (fn := Tryz.f96) rfl (by kernel_rfl) rfl) (fun w hg => ?_)
  refine (Any.strings_Contains_one Tryz.laysContains (oL l) 46 w).mono fun e w' hh => ?_
  rw [oL_data] at hh
  exact ⟨hh.1, hh.2 ▸ Below.refl _ _⟩
end Go.Proofs.YtpfignfgfhbblaaGreatDoorC
/- How long numerals are. -/
namespace Go.Proofs.YtpfignfgfhbblaaGreatDoorC
open Go.Proofs Go.Proofs.YtpfignfgfhbblaaGreatDoorSx Go.Lib
theorem itoa_len {n : Int} (h : I64 n) : (Lib.itoa n).length ≤ 21 := by
  unfold Lib.itoa
  split
  · have := nd_le (u := n.natAbs) (by omega)
    simp only [List.length_cons]
    omega
  · have := nd_le (u := n.toNat) (by omega)
    omega
theorem neg_size {n : Int} (h : I64 n) : (ByteArray.mk #[45]).size + (oL (Lib.itoa n)).size ≤ 9223372036854775807 := by
  have := itoa_len h
  rw [oL_size]
  show 1 + _ ≤ _
  omega
theorem one_size (x : Int) {t : List UInt8} (h : t.length ≤ 100) : (bytesOf [x]).size + (oL t).size ≤ 9223372036854775807 := by
  rw [bytesOf_one, oL_size, oL_size]
  simp only [List.length_cons, List.length_nil]
  omega
theorem pos_of {s : ByteArray} (h : (!s.toList == (ByteArray.mk #[]).toList) = true) : (0 : Int) < (s.size : Int) := by
  by_cases h0 : s.size = 0
  · exfalso
    have e : s.toList = [] := by
      rw [Go.ByteArray.toList_eq]
      exact List.eq_nil_of_length_eq_zero (by rw [Array.length_toList]; exact h0)
    rw [e, Go.ByteArray.toList_eq] at h
    exact absurd h (by decide)
  · omega
end Go.Proofs.YtpfignfgfhbblaaGreatDoorC
/- The reference's numerals. Printed by a program (wip/tools); Lean checks each. -/
namespace Go.Proofs.YtpfignfgfhbblaaGreatDoorC
open Go.Proofs Go.Proofs.YtpfignfgfhbblaaGreatDoorSx Go.Lib
set_option maxRecDepth 100000
set_option linter.unusedVariables false
noncomputable def dgtK : List It := stackAt [1, 1, 1, 0, 0] (bd Tryz.f113) [] []
noncomputable def numK3 : List It := stackAt [1, 1, 1, 1, 0, 0] (bd Tryz.f100) [] []
abbrev dgtS (u : Int) (t : List UInt8) : List SV := [.v (it u), .na, .na, .v (st (oL t))] ++ List.replicate 25 .na
abbrev numS (s : ByteArray) (i n : Int) : List SV := [.v (st s), .na, .na, .na, .v (it i), .v (it n)] ++ List.replicate 48 .na
def rDb (u : Int) (t : List UInt8) (m : Nat) (R1 : Value) : Value :=
  bif (decide (u > 9)) then R1
  else (.string (bytesOf [IntKind.u8.wrap (IntKind.i64.wrap (48 + u))] ++ oL t))
theorem rDb_fin (u : Int) (t : List UInt8) (m : Nat) (R1 : Value) (h0 : (0 : Int) ≤ u) (hu : u ≤ 9223372036854775807) (ht : t.length ≤ 100) (hF1 : (decide (u > 9)) = true → Fin cE Tryz.f113 0 (.v R1) [] 0 (inK dgtK (m)) ([.v (.int .i64 (IntKind.i64.wrap (u.tdiv 10))), .na, .na, .v (.string (bytesOf [IntKind.u8.wrap (IntKind.i64.wrap (48 + u.tmod 10))] ++ oL t))] ++ List.replicate 25 .na) [] 0) : Fin cE Tryz.f113 0 (.v (rDb u t m R1)) [] 0 (bodyK dgtK m) (dgtS u t) [] 0 := by
  unfold rDb
  refine fbif (fun c1 => ?_) (fun c1 => ?_)
  · exact sat (keep := [0, 3]) (by decide) [.t, .l, .l] (by kernel_rfl) (cj c1 (cj (by (first | exact one_size _ ht | omega | (simp [ByteArray.size_append, oL_size, ByteArray.size] at *; omega)) : (bytesOf [IntKind.u8.wrap (IntKind.i64.wrap (48 + u.tmod 10))]).size + (oL t).size ≤ 9223372036854775807) cj0)) (hF1 c1)
  · exact sfin (keep := [0, 3]) (by decide) [.f] (by kernel_rfl) (cj c1 (cj (by (first | exact one_size _ ht | omega | (simp [ByteArray.size_append, oL_size, ByteArray.size] at *; omega)) : (bytesOf [IntKind.u8.wrap (IntKind.i64.wrap (48 + u))]).size + (oL t).size ≤ 9223372036854775807) cj0))
def rNb (s : ByteArray) (i : Nat) (n : Int) (m : Nat) (R1 : Value) : Value :=
  bif (decide ((i : Int) < (s.size : Int))) then bif (decide ((((s.data.toList.getD i 0).toNat : Nat) : Int) ≥ 48)) then bif (decide ((((s.data.toList.getD i 0).toNat : Nat) : Int) ≤ 57)) then bif (decide ((i : Int) < 10)) then R1
        else bif (!s.toList == (ByteArray.mk #[]).toList) then bif ((((s.data.toList.getD (Int.toNat 0) 0).toNat : Nat) : Int) == 45) then (.tuple #[(.int .i64 (IntKind.i64.wrap (0 - n))), (.int .i64 ((i : Int)))])
            else (.tuple #[(.int .i64 (n)), (.int .i64 ((i : Int)))])
          else (.tuple #[(.int .i64 (n)), (.int .i64 ((i : Int)))])
      else bif (!s.toList == (ByteArray.mk #[]).toList) then bif ((((s.data.toList.getD (Int.toNat 0) 0).toNat : Nat) : Int) == 45) then (.tuple #[(.int .i64 (IntKind.i64.wrap (0 - n))), (.int .i64 ((i : Int)))])
          else (.tuple #[(.int .i64 (n)), (.int .i64 ((i : Int)))])
        else (.tuple #[(.int .i64 (n)), (.int .i64 ((i : Int)))])
    else bif (!s.toList == (ByteArray.mk #[]).toList) then bif ((((s.data.toList.getD (Int.toNat 0) 0).toNat : Nat) : Int) == 45) then (.tuple #[(.int .i64 (IntKind.i64.wrap (0 - n))), (.int .i64 ((i : Int)))])
        else (.tuple #[(.int .i64 (n)), (.int .i64 ((i : Int)))])
      else (.tuple #[(.int .i64 (n)), (.int .i64 ((i : Int)))])
  else bif (!s.toList == (ByteArray.mk #[]).toList) then bif ((((s.data.toList.getD (Int.toNat 0) 0).toNat : Nat) : Int) == 45) then (.tuple #[(.int .i64 (IntKind.i64.wrap (0 - n))), (.int .i64 ((i : Int)))])
      else (.tuple #[(.int .i64 (n)), (.int .i64 ((i : Int)))])
    else (.tuple #[(.int .i64 (n)), (.int .i64 ((i : Int)))])
theorem rNb_fin (s : ByteArray) (i : Nat) (n : Int) (m : Nat) (R1 : Value) (hs : s.size ≤ 140737488355328) (hi : i ≤ 10) (hF1 : (decide ((i : Int) < (s.size : Int))) = true → (decide ((((s.data.toList.getD i 0).toNat : Nat) : Int) ≥ 48)) = true → (decide ((((s.data.toList.getD i 0).toNat : Nat) : Int) ≤ 57)) = true → (decide ((i : Int) < 10)) = true → Fin cE Tryz.f100 0 (.v R1) [] 0 (inK numK3 (m)) ([.v (.string (s)), .na, .na, .na, .v (.int .i64 (IntKind.i64.wrap ((i : Int) + 1))), .v (.int .i64 (IntKind.i64.wrap (IntKind.i64.wrap (10 * n) + IntKind.i64.wrap (IntKind.u8.wrap ((((s.data.toList.getD i 0).toNat : Nat) : Int) - 48)))))] ++ List.replicate 48 .na) [] 0) : Fin cE Tryz.f100 0 (.v (rNb s i n m R1)) [] 0 (bodyK numK3 m) (numS s i n) [] 0 := by
  unfold rNb
  refine fbif (fun c1 => ?_) (fun c1 => ?_)
  · refine fbif (fun c2 => ?_) (fun c2 => ?_)
    · refine fbif (fun c3 => ?_) (fun c3 => ?_)
      · refine fbif (fun c4 => ?_) (fun c4 => ?_)
        · exact sat (keep := [0, 4, 5]) (by decide) [.t, .t, .t, .t, .t, .t, .t, .t, .t, .t, .t, .t, .t, .t] (by kernel_rfl) (cj c1 (cj c1 (cj c1 (cj (by (first | omega | (have := of_decide_eq_true c1; omega) | exact ⟨by decide, pos_of (by assumption)⟩) : 0 ≤ (i : Int) ∧ (i : Int) < (s.size : Int)) (cj c1 (cj c1 (cj c2 (cj c2 (cj c2 (cj (by (first | omega | (have := of_decide_eq_true c1; omega) | exact ⟨by decide, pos_of (by assumption)⟩) : 0 ≤ (i : Int) ∧ (i : Int) < (s.size : Int)) (cj c2 (cj c2 (cj c3 (cj c3 (cj c3 (cj c4 (cj (by (first | omega | (have := of_decide_eq_true c1; omega) | exact ⟨by decide, pos_of (by assumption)⟩) : 0 ≤ (i : Int) ∧ (i : Int) < (s.size : Int)) cj0))))))))))))))))) (hF1 c1 c2 c3 c4)
        · refine fbif (fun c5 => ?_) (fun c5 => ?_)
          · refine fbif (fun c6 => ?_) (fun c6 => ?_)
            · exact sfin (keep := [0, 4, 5]) (by decide) [.t, .t, .t, .t, .t, .t, .t, .t, .t, .t, .t, .t, .t, .f, .t, .t, .t, .t, .t] (by kernel_rfl) (cj c1 (cj c1 (cj c1 (cj (by (first | omega | (have := of_decide_eq_true c1; omega) | exact ⟨by decide, pos_of (by assumption)⟩) : 0 ≤ (i : Int) ∧ (i : Int) < (s.size : Int)) (cj c1 (cj c1 (cj c2 (cj c2 (cj c2 (cj (by (first | omega | (have := of_decide_eq_true c1; omega) | exact ⟨by decide, pos_of (by assumption)⟩) : 0 ≤ (i : Int) ∧ (i : Int) < (s.size : Int)) (cj c2 (cj c2 (cj c3 (cj c3 (cj c3 (cj c4 (cj c5 (cj c5 (cj (by (first | omega | (have := of_decide_eq_true c1; omega) | exact ⟨by decide, pos_of (by assumption)⟩) : (0 : Int) ≤ 0 ∧ (0 : Int) < (s.size : Int)) (cj c5 (cj c5 (cj c6 cj0))))))))))))))))))))))
            · exact sfin (keep := [0, 4, 5]) (by decide) [.t, .t, .t, .t, .t, .t, .t, .t, .t, .t, .t, .t, .t, .f, .t, .t, .t, .t, .f] (by kernel_rfl) (cj c1 (cj c1 (cj c1 (cj (by (first | omega | (have := of_decide_eq_true c1; omega) | exact ⟨by decide, pos_of (by assumption)⟩) : 0 ≤ (i : Int) ∧ (i : Int) < (s.size : Int)) (cj c1 (cj c1 (cj c2 (cj c2 (cj c2 (cj (by (first | omega | (have := of_decide_eq_true c1; omega) | exact ⟨by decide, pos_of (by assumption)⟩) : 0 ≤ (i : Int) ∧ (i : Int) < (s.size : Int)) (cj c2 (cj c2 (cj c3 (cj c3 (cj c3 (cj c4 (cj c5 (cj c5 (cj (by (first | omega | (have := of_decide_eq_true c1; omega) | exact ⟨by decide, pos_of (by assumption)⟩) : (0 : Int) ≤ 0 ∧ (0 : Int) < (s.size : Int)) (cj c5 (cj c5 (cj c6 cj0))))))))))))))))))))))
          · exact sfin (keep := [0, 4, 5]) (by decide) [.t, .t, .t, .t, .t, .t, .t, .t, .t, .t, .t, .t, .t, .f, .f, .f, .f, .f, .l] (by kernel_rfl) (cj c1 (cj c1 (cj c1 (cj (by (first | omega | (have := of_decide_eq_true c1; omega) | exact ⟨by decide, pos_of (by assumption)⟩) : 0 ≤ (i : Int) ∧ (i : Int) < (s.size : Int)) (cj c1 (cj c1 (cj c2 (cj c2 (cj c2 (cj (by (first | omega | (have := of_decide_eq_true c1; omega) | exact ⟨by decide, pos_of (by assumption)⟩) : 0 ≤ (i : Int) ∧ (i : Int) < (s.size : Int)) (cj c2 (cj c2 (cj c3 (cj c3 (cj c3 (cj c4 (cj c5 (cj c5 (cj c5 (cj c5 cj0))))))))))))))))))))
      · refine fbif (fun c7 => ?_) (fun c7 => ?_)
        · refine fbif (fun c8 => ?_) (fun c8 => ?_)
          · exact sfin (keep := [0, 4, 5]) (by decide) [.t, .t, .t, .t, .t, .t, .t, .t, .t, .t, .f, .f, .f, .l, .t, .t, .t, .t, .t] (by kernel_rfl) (cj c1 (cj c1 (cj c1 (cj (by (first | omega | (have := of_decide_eq_true c1; omega) | exact ⟨by decide, pos_of (by assumption)⟩) : 0 ≤ (i : Int) ∧ (i : Int) < (s.size : Int)) (cj c1 (cj c1 (cj c2 (cj c2 (cj c2 (cj (by (first | omega | (have := of_decide_eq_true c1; omega) | exact ⟨by decide, pos_of (by assumption)⟩) : 0 ≤ (i : Int) ∧ (i : Int) < (s.size : Int)) (cj c2 (cj c2 (cj c3 (cj c3 (cj c3 (cj c7 (cj c7 (cj (by (first | omega | (have := of_decide_eq_true c1; omega) | exact ⟨by decide, pos_of (by assumption)⟩) : (0 : Int) ≤ 0 ∧ (0 : Int) < (s.size : Int)) (cj c7 (cj c7 (cj c8 cj0)))))))))))))))))))))
          · exact sfin (keep := [0, 4, 5]) (by decide) [.t, .t, .t, .t, .t, .t, .t, .t, .t, .t, .f, .f, .f, .l, .t, .t, .t, .t, .f] (by kernel_rfl) (cj c1 (cj c1 (cj c1 (cj (by (first | omega | (have := of_decide_eq_true c1; omega) | exact ⟨by decide, pos_of (by assumption)⟩) : 0 ≤ (i : Int) ∧ (i : Int) < (s.size : Int)) (cj c1 (cj c1 (cj c2 (cj c2 (cj c2 (cj (by (first | omega | (have := of_decide_eq_true c1; omega) | exact ⟨by decide, pos_of (by assumption)⟩) : 0 ≤ (i : Int) ∧ (i : Int) < (s.size : Int)) (cj c2 (cj c2 (cj c3 (cj c3 (cj c3 (cj c7 (cj c7 (cj (by (first | omega | (have := of_decide_eq_true c1; omega) | exact ⟨by decide, pos_of (by assumption)⟩) : (0 : Int) ≤ 0 ∧ (0 : Int) < (s.size : Int)) (cj c7 (cj c7 (cj c8 cj0)))))))))))))))))))))
        · exact sfin (keep := [0, 4, 5]) (by decide) [.t, .t, .t, .t, .t, .t, .t, .t, .t, .t, .f, .f, .f, .l, .f, .f, .f, .f, .l] (by kernel_rfl) (cj c1 (cj c1 (cj c1 (cj (by (first | omega | (have := of_decide_eq_true c1; omega) | exact ⟨by decide, pos_of (by assumption)⟩) : 0 ≤ (i : Int) ∧ (i : Int) < (s.size : Int)) (cj c1 (cj c1 (cj c2 (cj c2 (cj c2 (cj (by (first | omega | (have := of_decide_eq_true c1; omega) | exact ⟨by decide, pos_of (by assumption)⟩) : 0 ≤ (i : Int) ∧ (i : Int) < (s.size : Int)) (cj c2 (cj c2 (cj c3 (cj c3 (cj c3 (cj c7 (cj c7 (cj c7 (cj c7 cj0)))))))))))))))))))
    · refine fbif (fun c9 => ?_) (fun c9 => ?_)
      · refine fbif (fun c10 => ?_) (fun c10 => ?_)
        · exact sfin (keep := [0, 4, 5]) (by decide) [.t, .t, .t, .t, .t, .f, .f, .f, .f, .f, .l, .l, .l, .l, .t, .t, .t, .t, .t] (by kernel_rfl) (cj c1 (cj c1 (cj c1 (cj (by (first | omega | (have := of_decide_eq_true c1; omega) | exact ⟨by decide, pos_of (by assumption)⟩) : 0 ≤ (i : Int) ∧ (i : Int) < (s.size : Int)) (cj c1 (cj c1 (cj c2 (cj c2 (cj c2 (cj c2 (cj c2 (cj c9 (cj c9 (cj (by (first | omega | (have := of_decide_eq_true c1; omega) | exact ⟨by decide, pos_of (by assumption)⟩) : (0 : Int) ≤ 0 ∧ (0 : Int) < (s.size : Int)) (cj c9 (cj c9 (cj c10 cj0)))))))))))))))))
        · exact sfin (keep := [0, 4, 5]) (by decide) [.t, .t, .t, .t, .t, .f, .f, .f, .f, .f, .l, .l, .l, .l, .t, .t, .t, .t, .f] (by kernel_rfl) (cj c1 (cj c1 (cj c1 (cj (by (first | omega | (have := of_decide_eq_true c1; omega) | exact ⟨by decide, pos_of (by assumption)⟩) : 0 ≤ (i : Int) ∧ (i : Int) < (s.size : Int)) (cj c1 (cj c1 (cj c2 (cj c2 (cj c2 (cj c2 (cj c2 (cj c9 (cj c9 (cj (by (first | omega | (have := of_decide_eq_true c1; omega) | exact ⟨by decide, pos_of (by assumption)⟩) : (0 : Int) ≤ 0 ∧ (0 : Int) < (s.size : Int)) (cj c9 (cj c9 (cj c10 cj0)))))))))))))))))
      · exact sfin (keep := [0, 4, 5]) (by decide) [.t, .t, .t, .t, .t, .f, .f, .f, .f, .f, .l, .l, .l, .l, .f, .f, .f, .f, .l] (by kernel_rfl) (cj c1 (cj c1 (cj c1 (cj (by (first | omega | (have := of_decide_eq_true c1; omega) | exact ⟨by decide, pos_of (by assumption)⟩) : 0 ≤ (i : Int) ∧ (i : Int) < (s.size : Int)) (cj c1 (cj c1 (cj c2 (cj c2 (cj c2 (cj c2 (cj c2 (cj c9 (cj c9 (cj c9 (cj c9 cj0)))))))))))))))
  · refine fbif (fun c11 => ?_) (fun c11 => ?_)
    · refine fbif (fun c12 => ?_) (fun c12 => ?_)
      · exact sfin (keep := [0, 4, 5]) (by decide) [.f, .f, .f, .f, .f, .l, .l, .l, .l, .l, .l, .l, .l, .l, .t, .t, .t, .t, .t] (by kernel_rfl) (cj c1 (cj c1 (cj c1 (cj c1 (cj c1 (cj c11 (cj c11 (cj (by (first | omega | (have := of_decide_eq_true c1; omega) | exact ⟨by decide, pos_of (by assumption)⟩) : (0 : Int) ≤ 0 ∧ (0 : Int) < (s.size : Int)) (cj c11 (cj c11 (cj c12 cj0)))))))))))
      · exact sfin (keep := [0, 4, 5]) (by decide) [.f, .f, .f, .f, .f, .l, .l, .l, .l, .l, .l, .l, .l, .l, .t, .t, .t, .t, .f] (by kernel_rfl) (cj c1 (cj c1 (cj c1 (cj c1 (cj c1 (cj c11 (cj c11 (cj (by (first | omega | (have := of_decide_eq_true c1; omega) | exact ⟨by decide, pos_of (by assumption)⟩) : (0 : Int) ≤ 0 ∧ (0 : Int) < (s.size : Int)) (cj c11 (cj c11 (cj c12 cj0)))))))))))
    · exact sfin (keep := [0, 4, 5]) (by decide) [.f, .f, .f, .f, .f, .l, .l, .l, .l, .l, .l, .l, .l, .l, .f, .f, .f, .f, .l] (by kernel_rfl) (cj c1 (cj c1 (cj c1 (cj c1 (cj c1 (cj c11 (cj c11 (cj c11 (cj c11 cj0)))))))))
def rDa (n : Int) (R1 : Value) : Value :=
  bif (decide (n < 0)) then (.string ((ByteArray.mk #[45]) ++ oL (Go.Lib.itoa (IntKind.i64.wrap (0 - n)))))
  else R1
theorem rDa_fin (n : Int) (R1 : Value) (hn : I64 n) (hn2 : I64 (IntKind.i64.wrap (0 - n))) (hneg : n < 0 → Does cE 113 [] 0 [.v (it (IntKind.i64.wrap (0 - n)))] (.v (st (oL (Lib.itoa (IntKind.i64.wrap (0 - n)))))) [] 0) (hF1 : (decide (n < 0)) = false → Fin cE Tryz.f113 0 (.v R1) [] 0 dgtK ([.v (.int .i64 (n)), .na, .na, .v (.string ((ByteArray.mk #[])))] ++ List.replicate 25 .na) [] 0) : Fin cE Tryz.f113 0 (.v (rDa n R1)) [] 0 [.code (bd Tryz.f113)] (argsS [.v (it n)] Tryz.f113.ntmps) [] 0 := by
  unfold rDa
  refine fbif (fun c1 => ?_) (fun c1 => ?_)
  · exact sfin (keep := [0, 3]) (by decide) [.t, .c (.v (.string (oL (Go.Lib.itoa (IntKind.i64.wrap (0 - n)))))) [] 0] (by kernel_rfl) (cj c1 (cj (hneg (of_decide_eq_true c1)) (cj (by (first | exact neg_size hn2 | omega) : (ByteArray.mk #[45]).size + (oL (Go.Lib.itoa (IntKind.i64.wrap (0 - n)))).size ≤ 9223372036854775807) cj0)))
  · exact sat (keep := [0, 3]) (by decide) [.f] (by kernel_rfl) (cj c1 cj0) (hF1 c1)
def rNa (s : ByteArray) (R1 R2 : SV × Tab cE × Nat) : SV × Tab cE × Nat :=
  bif (!s.toList == (ByteArray.mk #[]).toList) then bif ((((s.data.toList.getD (Int.toNat 0) 0).toNat : Nat) : Int) == 45) then R1
    else R2
  else R2
theorem rNa_fin (s : ByteArray) (R1 R2 : SV × Tab cE × Nat) (hs : s.size ≤ 140737488355328) (hF1 : (!s.toList == (ByteArray.mk #[]).toList) = true → ((((s.data.toList.getD (Int.toNat 0) 0).toNat : Nat) : Int) == 45) = true → Fin cE Tryz.f100 0 R1.1 R1.2.1 R1.2.2 numK3 ([.v (.string (s)), .na, .na, .na, .v (.int .i64 (1)), .v (.int .i64 (0))] ++ List.replicate 48 .na) [] 0) (hF2 : Fin cE Tryz.f100 0 R2.1 R2.2.1 R2.2.2 numK3 ([.v (.string (s)), .na, .na, .na, .v (.int .i64 (0)), .v (.int .i64 (0))] ++ List.replicate 48 .na) [] 0) : Fin cE Tryz.f100 0 (rNa s R1 R2).1 (rNa s R1 R2).2.1 (rNa s R1 R2).2.2 [.code (bd Tryz.f100)] (argsS [.v (st s)] Tryz.f100.ntmps) [] 0 := by
  unfold rNa
  refine fbif3 (fun c1 => ?_) (fun c1 => ?_)
  · refine fbif3 (fun c2 => ?_) (fun c2 => ?_)
    · exact sat (keep := [0, 4, 5]) (by decide) [.t, .t, .t, .t, .t] (by kernel_rfl) (cj c1 (cj c1 (cj (by (first | omega | exact ⟨by decide, pos_of (by assumption)⟩) : (0 : Int) ≤ 0 ∧ (0 : Int) < (s.size : Int)) (cj c1 (cj c1 (cj c2 cj0)))))) (hF1 c1 c2)
    · exact sat (keep := [0, 4, 5]) (by decide) [.t, .t, .t, .t, .f] (by kernel_rfl) (cj c1 (cj c1 (cj (by (first | omega | exact ⟨by decide, pos_of (by assumption)⟩) : (0 : Int) ≤ 0 ∧ (0 : Int) < (s.size : Int)) (cj c1 (cj c1 (cj c2 cj0)))))) (hF2)
  · exact sat (keep := [0, 4, 5]) (by decide) [.f, .f, .f, .f, .l] (by kernel_rfl) (cj c1 (cj c1 (cj c1 (cj c1 cj0)))) (hF2)
end Go.Proofs.YtpfignfgfhbblaaGreatDoorC
/- The reference's numerals of points: told. -/
namespace Go.Proofs.YtpfignfgfhbblaaGreatDoorC
open Go.Proofs Go.Proofs.YtpfignfgfhbblaaGreatDoorSx Go.Lib
set_option maxRecDepth 100000
set_option linter.unusedVariables false
theorem digit_eqi (d : Nat) (h : d < 10) : bytesOf [IntKind.u8.wrap (IntKind.i64.wrap (48 + (d : Int)))] = oL [UInt8.ofNat (48 + d)] := by
  have e : IntKind.u8.wrap (IntKind.i64.wrap (48 + (d : Int))) = ((48 + d : Nat) : Int) := by
    rw [wrap64 (by omega) (by omega), wrap8e]; omega
  rw [e, bytesOf_one, Int.toNat_natCast]
theorem dgt_loop : ∀ (f u : Nat) (t : List UInt8), u < 10 ^ (f + 1) → u ≤ 9223372036854775807 → t.length + f ≤ 100 → Fin cE Tryz.f113 0 (.v (st (oL (decDigits u ++ t)))) [] 0 (bodyK dgtK f) (dgtS u t) [] 0 := by
  have last : ∀ (f u : Nat) (t : List UInt8), u < 10 → t.length ≤ 100 → Fin cE Tryz.f113 0 (.v (st (oL (decDigits u ++ t)))) [] 0 (bodyK dgtK f) (dgtS u t) [] 0 := by
    intro f u t h9 ht
    have h := rDb_fin u t f (it 0) (by omega) (by omega) ht (fun c1 => absurd (of_decide_eq_true c1) (by omega))
    have e : rDb u t f (it 0) = st (oL (decDigits u ++ t)) := by
      unfold rDb
      rw [decide_eq_false (by omega)]
      show Value.string (bytesOf [IntKind.u8.wrap (IntKind.i64.wrap (48 + (u : Int)))] ++ oL t) = _
      rw [digit_eqi u h9, oL_app, ← dec_small h9]
    rw [e] at h
    exact h
  intro f
  induction f with
  | zero => intro u t h hu ht; exact last 0 u t (by simpa using h) (by omega)
  | succ f ih =>
    intro u t h hu ht
    by_cases h9 : u < 10
    · exact last (f + 1) u t h9 (by omega)
    · have em : ((u : Int).tmod 10) = ((u % 10 : Nat) : Int) := by rw [Int.tmod_eq_emod_of_nonneg (by omega)]; omega
      have ed : IntKind.i64.wrap ((u : Int).tdiv 10) = ((u / 10 : Nat) : Int) := by
        have e1 : (u : Int).tdiv 10 = ((u / 10 : Nat) : Int) := by rw [Int.tdiv_eq_ediv_of_nonneg (by omega)]; omega
        rw [e1, wrap64 (by omega) (by omega)]
      have hp : u / 10 < 10 ^ (f + 1) := by
        rw [Nat.pow_succ] at h
        omega
      have hi := ih (u / 10) (UInt8.ofNat (48 + u % 10) :: t) hp (by omega) (by simp; omega)
      have h := rDb_fin u t (f + 1) (st (oL (decDigits u ++ t))) (by omega) (by omega) (by omega) (fun c1 => by
        rw [em, ed]
        show Fin _ _ _ _ _ _ _ ([.v (it ((u / 10 : Nat) : Int)), .na, .na, .v (.string (bytesOf [IntKind.u8.wrap (IntKind.i64.wrap (48 + ((u % 10 : Nat) : Int)))] ++ oL t))] ++ List.replicate 25 .na) _ _
        rw [digit_eqi (u % 10) (Nat.mod_lt _ (by decide)), oL_app]
        refine fin_round ?_
        rw [dec_big h9]
        simpa using hi)
      have e : rDb u t (f + 1) (st (oL (decDigits u ++ t))) = st (oL (decDigits u ++ t)) := by
        unfold rDb
        rw [decide_eq_true (by omega)]
        rfl
      rw [e] at h
      exact h
theorem rdig_pos (u : Nat) (hu : u ≤ 9223372036854775807) : Does cE 113 [] 0 [.v (it u)] (.v (st (oL (decDigits u)))) [] 0 := by
  refine does_of_fin (fn := Tryz.f113) (c := bd Tryz.f113) rfl (by kernel_rfl) rfl ?_
  have h := rDa_fin (u : Int) (st (oL (decDigits u))) (by omega) (by rw [wrap64 (by omega) (by omega)]; omega) (fun h => absurd h (by omega)) (fun c1 => by
    refine fin_loop (18 + 1) (fin_round ?_)
    have := dgt_loop 18 u [] (by omega) hu (by simp)
    rw [List.append_nil] at this
    exact this)
  have e : rDa (u : Int) (st (oL (decDigits u))) = st (oL (decDigits u)) := by
    unfold rDa
    rw [decide_eq_false (by omega)]
    rfl
  rw [e] at h
  exact h
theorem rdig_does (n : Int) (hn : I64 n) (hb : -9223372036854775807 ≤ n) : Does cE 113 [] 0 [.v (it n)] (.v (st (oL (Lib.itoa n)))) [] 0 := by
  by_cases h0 : n < 0
  · have hw : IntKind.i64.wrap (0 - n) = ((n.natAbs : Nat) : Int) := by rw [wrap64 (by omega) (by omega)]; omega
    have hp := rdig_pos n.natAbs (by omega)
    have ei : Lib.itoa ((n.natAbs : Nat) : Int) = decDigits n.natAbs := by
      unfold Lib.itoa
      rw [if_neg (by omega), Int.toNat_natCast]
    refine does_of_fin (fn := Tryz.f113) (c := bd Tryz.f113) rfl (by kernel_rfl) rfl ?_
    have h := rDa_fin n (it 0) hn (by rw [hw]; omega) (fun _ => by rw [hw, ei]; exact hp) (fun c1 => absurd h0 (of_decide_eq_false c1))
    have e : rDa n (it 0) = st (oL (Lib.itoa n)) := by
      unfold rDa
      rw [decide_eq_true h0, hw, ei]
      show Value.string (oL [45] ++ oL (decDigits n.natAbs)) = _
      rw [oL_app]
      unfold Lib.itoa
      rw [if_pos h0]
      rfl
    rw [e] at h
    exact h
  · have hp := rdig_pos n.toNat (by omega)
    have en : ((n.toNat : Nat) : Int) = n := by omega
    rw [en] at hp
    have ei : Lib.itoa n = decDigits n.toNat := by
      unfold Lib.itoa
      rw [if_neg h0]
    rw [ei]
    exact hp
end Go.Proofs.YtpfignfgfhbblaaGreatDoorC
/- A point's text: sizes, bounds. -/
namespace Go.Proofs.YtpfignfgfhbblaaGreatDoorC
open Go.Proofs Go.Proofs.YtpfignfgfhbblaaGreatDoorSx Go.Lib
set_option maxRecDepth 100000
theorem gp_sz {A B : List UInt8} (hA : A.length ≤ 21) (hB : B.length ≤ 21) :
    (ByteArray.mk #[60]).size + (oL A).size ≤ 9223372036854775807 ∧ (ByteArray.mk #[60] ++ oL A).size + (ByteArray.mk #[44]).size ≤ 9223372036854775807 ∧ (ByteArray.mk #[60] ++ oL A ++ ByteArray.mk #[44]).size + (oL B).size ≤ 9223372036854775807 ∧ (ByteArray.mk #[60] ++ oL A ++ ByteArray.mk #[44] ++ oL B).size + (ByteArray.mk #[62]).size ≤ 9223372036854775807 := by
  rw [show ByteArray.mk #[60] = oL [60] from rfl, show ByteArray.mk #[44] = oL [44] from rfl, show ByteArray.mk #[62] = oL [62] from rfl, oL_app, oL_app, oL_app]
  simp only [oL_size, List.length_append, List.length_cons, List.length_nil]
  omega
theorem rt_b {x y : Int} (h : (!rt x y) = false) : (-1048576 ≤ x ∧ x ≤ 1048576) ∧ -1048576 ≤ y ∧ y ≤ 1048576 := by
  have h' : rt x y = true := by simpa using h
  unfold rt at h'
  simp at h'
  omega
theorem rdig_of {n : Int} (h : -1048576 ≤ n ∧ n ≤ 1048576) : Does cE 113 [] 0 [.v (it n)] (.v (st (oL (Lib.itoa n)))) [] 0 := rdig_does n (by omega) (by omega)
/-- A point's text. -/
def prG (x y : Int) : List UInt8 := bif rt x y then 60 :: (Lib.itoa x ++ 44 :: (Lib.itoa y ++ [62])) else []
theorem prG_cat (x y : Int) : ByteArray.mk #[60] ++ oL (Lib.itoa x) ++ ByteArray.mk #[44] ++ oL (Lib.itoa y) ++ ByteArray.mk #[62] = oL (60 :: (Lib.itoa x ++ 44 :: (Lib.itoa y ++ [62]))) := by
  rw [show ByteArray.mk #[60] = oL [60] from rfl, show ByteArray.mk #[44] = oL [44] from rfl, show ByteArray.mk #[62] = oL [62] from rfl, oL_app, oL_app, oL_app, oL_app]
  congr 1
  simp
end Go.Proofs.YtpfignfgfhbblaaGreatDoorC
/- Points' texts. Printed by a program (wip/tools); Lean checks each. -/
namespace Go.Proofs.YtpfignfgfhbblaaGreatDoorC
open Go.Proofs Go.Proofs.YtpfignfgfhbblaaGreatDoorSx Go.Lib
set_option maxRecDepth 100000
set_option linter.unusedVariables false
def pGp (x y : Int) : Value :=
  bif (!rt x y) then (.string ((ByteArray.mk #[])))
  else (.string ((ByteArray.mk #[60]) ++ oL (Go.Lib.itoa x) ++ (ByteArray.mk #[44]) ++ oL (Go.Lib.itoa y) ++ (ByteArray.mk #[62])))
theorem pGp_does (x y : Int) (hx : I64 x) (hy : I64 y) : Does cE 53 [] 0 [.v (dc x y)] (.v (pGp x y)) [] 0 := by
  unfold pGp
  refine tbif (fun c1 => ?_) (fun c1 => ?_)
  · exact pth (fn := Tryz.f53) rfl (by kernel_rfl) [.c (.v (.bool (rt x y))) [] 0, .t] (by kernel_rfl) (cj (gright_does (x) (y)) (cj c1 cj0))
  · exact pth (fn := Tryz.f53) rfl (by kernel_rfl) [.c (.v (.bool (rt x y))) [] 0, .f, .c (.v (.string (oL (Go.Lib.itoa x)))) [] 0, .c (.v (.string (oL (Go.Lib.itoa y)))) [] 0] (by kernel_rfl) (cj (gright_does (x) (y)) (cj c1 (cj (itoa_does (x) (by first | assumption | decide)) (cj (by (first | exact (gp_sz (itoa_len hx) (itoa_len hy)).1 | exact (gp_sz (itoa_len hx) (itoa_len hy)).2.1 | exact (gp_sz (itoa_len hx) (itoa_len hy)).2.2.1 | exact (gp_sz (itoa_len hx) (itoa_len hy)).2.2.2) : (ByteArray.mk #[60]).size + (oL (Go.Lib.itoa x)).size ≤ 9223372036854775807) (cj (by (first | exact (gp_sz (itoa_len hx) (itoa_len hy)).1 | exact (gp_sz (itoa_len hx) (itoa_len hy)).2.1 | exact (gp_sz (itoa_len hx) (itoa_len hy)).2.2.1 | exact (gp_sz (itoa_len hx) (itoa_len hy)).2.2.2) : ((ByteArray.mk #[60]) ++ oL (Go.Lib.itoa x)).size + (ByteArray.mk #[44]).size ≤ 9223372036854775807) (cj (itoa_does (y) (by first | assumption | decide)) (cj (by (first | exact (gp_sz (itoa_len hx) (itoa_len hy)).1 | exact (gp_sz (itoa_len hx) (itoa_len hy)).2.1 | exact (gp_sz (itoa_len hx) (itoa_len hy)).2.2.1 | exact (gp_sz (itoa_len hx) (itoa_len hy)).2.2.2) : ((ByteArray.mk #[60]) ++ oL (Go.Lib.itoa x) ++ (ByteArray.mk #[44])).size + (oL (Go.Lib.itoa y)).size ≤ 9223372036854775807) (cj (by (first | exact (gp_sz (itoa_len hx) (itoa_len hy)).1 | exact (gp_sz (itoa_len hx) (itoa_len hy)).2.1 | exact (gp_sz (itoa_len hx) (itoa_len hy)).2.2.1 | exact (gp_sz (itoa_len hx) (itoa_len hy)).2.2.2) : ((ByteArray.mk #[60]) ++ oL (Go.Lib.itoa x) ++ (ByteArray.mk #[44]) ++ oL (Go.Lib.itoa y)).size + (ByteArray.mk #[62]).size ≤ 9223372036854775807) cj0))))))))
def rGp (x y : Int) : Value :=
  bif (!rt x y) then (.string ((ByteArray.mk #[])))
  else (.string ((ByteArray.mk #[60]) ++ oL (Go.Lib.itoa x) ++ (ByteArray.mk #[44]) ++ oL (Go.Lib.itoa y) ++ (ByteArray.mk #[62])))
theorem rGp_does (x y : Int) (hx : I64 x) (hy : I64 y) : Does cE 56 [] 0 [.v (dc x y)] (.v (rGp x y)) [] 0 := by
  unfold rGp
  refine tbif (fun c1 => ?_) (fun c1 => ?_)
  · exact pth (fn := Tryz.f56) rfl (by kernel_rfl) [.c (.v (.bool (rt x y))) [] 0, .t] (by kernel_rfl) (cj (rgright_does (x) (y)) (cj c1 cj0))
  · exact pth (fn := Tryz.f56) rfl (by kernel_rfl) [.c (.v (.bool (rt x y))) [] 0, .f, .c (.v (.string (oL (Go.Lib.itoa x)))) [] 0, .c (.v (.string (oL (Go.Lib.itoa y)))) [] 0] (by kernel_rfl) (cj (rgright_does (x) (y)) (cj c1 (cj (rdig_of (n := (x)) (by first | exact (rt_b c1).1 | exact (rt_b c1).2)) (cj (by (first | exact (gp_sz (itoa_len hx) (itoa_len hy)).1 | exact (gp_sz (itoa_len hx) (itoa_len hy)).2.1 | exact (gp_sz (itoa_len hx) (itoa_len hy)).2.2.1 | exact (gp_sz (itoa_len hx) (itoa_len hy)).2.2.2) : (ByteArray.mk #[60]).size + (oL (Go.Lib.itoa x)).size ≤ 9223372036854775807) (cj (by (first | exact (gp_sz (itoa_len hx) (itoa_len hy)).1 | exact (gp_sz (itoa_len hx) (itoa_len hy)).2.1 | exact (gp_sz (itoa_len hx) (itoa_len hy)).2.2.1 | exact (gp_sz (itoa_len hx) (itoa_len hy)).2.2.2) : ((ByteArray.mk #[60]) ++ oL (Go.Lib.itoa x)).size + (ByteArray.mk #[44]).size ≤ 9223372036854775807) (cj (rdig_of (n := (y)) (by first | exact (rt_b c1).1 | exact (rt_b c1).2)) (cj (by (first | exact (gp_sz (itoa_len hx) (itoa_len hy)).1 | exact (gp_sz (itoa_len hx) (itoa_len hy)).2.1 | exact (gp_sz (itoa_len hx) (itoa_len hy)).2.2.1 | exact (gp_sz (itoa_len hx) (itoa_len hy)).2.2.2) : ((ByteArray.mk #[60]) ++ oL (Go.Lib.itoa x) ++ (ByteArray.mk #[44])).size + (oL (Go.Lib.itoa y)).size ≤ 9223372036854775807) (cj (by (first | exact (gp_sz (itoa_len hx) (itoa_len hy)).1 | exact (gp_sz (itoa_len hx) (itoa_len hy)).2.1 | exact (gp_sz (itoa_len hx) (itoa_len hy)).2.2.1 | exact (gp_sz (itoa_len hx) (itoa_len hy)).2.2.2) : ((ByteArray.mk #[60]) ++ oL (Go.Lib.itoa x) ++ (ByteArray.mk #[44]) ++ oL (Go.Lib.itoa y)).size + (ByteArray.mk #[62]).size ≤ 9223372036854775807) cj0))))))))
end Go.Proofs.YtpfignfgfhbblaaGreatDoorC
/- Points' texts, told: program and reference alike. -/
namespace Go.Proofs.YtpfignfgfhbblaaGreatDoorC
open Go.Proofs Go.Proofs.YtpfignfgfhbblaaGreatDoorSx Go.Lib
set_option maxRecDepth 100000
theorem gprint_does (x y : Int) (hx : I64 x) (hy : I64 y) : Does cE 53 [] 0 [.v (dc x y)] (.v (st (oL (prG x y)))) [] 0 := by
  have h := pGp_does x y hx hy
  have e : pGp x y = st (oL (prG x y)) := by
    unfold pGp prG
    rw [prG_cat]
    cases rt x y <;> rfl
  rw [e] at h
  exact h
theorem rgprint_does (x y : Int) (hx : I64 x) (hy : I64 y) : Does cE 56 [] 0 [.v (dc x y)] (.v (st (oL (prG x y)))) [] 0 := by
  have h := rGp_does x y hx hy
  have e : rGp x y = st (oL (prG x y)) := by
    unfold rGp prG
    rw [prG_cat]
    cases rt x y <;> rfl
  rw [e] at h
  exact h
end Go.Proofs.YtpfignfgfhbblaaGreatDoorC
/- gauss.Parse. Printed by a program (wip/tools); Lean checks each. -/
namespace Go.Proofs.YtpfignfgfhbblaaGreatDoorC
open Go.Proofs Go.Proofs.YtpfignfgfhbblaaGreatDoorSx Go.Lib
set_option maxRecDepth 100000
set_option linter.unusedVariables false
def pPa (l w u v : List UInt8) (cb : Bool) (f : ByteArray → Int) : Value :=
  bif (rt (f (oL u)) (f (oL v))) then bif ((oL (prG (f (oL u)) (f (oL v)))).toList == (oL l).toList) then (.tuple #[(.agg #[(.int .i64 (f (oL u))), (.int .i64 (f (oL v)))]), (.int .i64 (0))])
    else (.tuple #[(.agg #[(.int .i64 (0)), (.int .i64 (0))]), (.int .i64 (21))])
  else (.tuple #[(.agg #[(.int .i64 (0)), (.int .i64 (0))]), (.int .i64 (21))])
theorem pPa_does (l w u v : List UInt8) (cb : Bool) (f : ByteArray → Int) (hT : Does cE 65 [] 0 [.v (st (oL l)), .v (st (ByteArray.mk #[60, 62]))] (.v (st (oL w))) [] 0) (hC : Does cE 147 [] 0 [.v (st (oL w)), .v (st (ByteArray.mk #[44]))] (.v (.tuple #[st (oL u), st (oL v), .bool cb])) [] 0) (hA : ∀ s, s = oL u ∨ s = oL v → Does cE 148 [] 0 [.v (st s)] (.v (.tuple #[it (f s), .nilIface])) [] 0) (hI : ∀ s, I64 (f s)) : Does cE 93 [] 0 [.v (st (oL l))] (.v (pPa l w u v cb f)) [] 0 := by
  unfold pPa
  refine tbif (fun c1 => ?_) (fun c1 => ?_)
  · refine tbif (fun c2 => ?_) (fun c2 => ?_)
    · exact pth (fn := Tryz.f93) rfl (by kernel_rfl) [.c (.v (.string (oL w))) [] 0, .c (.v (.tuple #[(.string (oL u)), (.string (oL v)), (.bool (cb))])) [] 0, .c (.v (.tuple #[(.int .i64 (f (oL u))), (.nilIface)])) [] 0, .c (.v (.tuple #[(.int .i64 (f (oL v))), (.nilIface)])) [] 0, .l, .l, .l, .l, .l, .c (.v (.bool (rt (f (oL u)) (f (oL v))))) [] 0, .l, .t, .t, .c (.v (.string (oL (prG (f (oL u)) (f (oL v)))))) [] 0, .t, .t, .t, .t] (by kernel_rfl) (cj (hT) (cj (hC) (cj (hA (oL u) (by simp)) (cj (hA (oL v) (by simp)) (cj (gright_does (f (oL u)) (f (oL v))) (cj c1 (cj c1 (cj (gprint_does (f (oL u)) (f (oL v)) (hI _) (hI _)) (cj c1 (cj c1 (cj c1 (cj c2 cj0))))))))))))
    · exact pth (fn := Tryz.f93) rfl (by kernel_rfl) [.c (.v (.string (oL w))) [] 0, .c (.v (.tuple #[(.string (oL u)), (.string (oL v)), (.bool (cb))])) [] 0, .c (.v (.tuple #[(.int .i64 (f (oL u))), (.nilIface)])) [] 0, .c (.v (.tuple #[(.int .i64 (f (oL v))), (.nilIface)])) [] 0, .l, .l, .l, .l, .l, .c (.v (.bool (rt (f (oL u)) (f (oL v))))) [] 0, .l, .t, .t, .c (.v (.string (oL (prG (f (oL u)) (f (oL v)))))) [] 0, .t, .t, .t, .f] (by kernel_rfl) (cj (hT) (cj (hC) (cj (hA (oL u) (by simp)) (cj (hA (oL v) (by simp)) (cj (gright_does (f (oL u)) (f (oL v))) (cj c1 (cj c1 (cj (gprint_does (f (oL u)) (f (oL v)) (hI _) (hI _)) (cj c1 (cj c1 (cj c1 (cj c2 cj0))))))))))))
  · exact pth (fn := Tryz.f93) rfl (by kernel_rfl) [.c (.v (.string (oL w))) [] 0, .c (.v (.tuple #[(.string (oL u)), (.string (oL v)), (.bool (cb))])) [] 0, .c (.v (.tuple #[(.int .i64 (f (oL u))), (.nilIface)])) [] 0, .c (.v (.tuple #[(.int .i64 (f (oL v))), (.nilIface)])) [] 0, .l, .l, .l, .l, .l, .c (.v (.bool (rt (f (oL u)) (f (oL v))))) [] 0, .l, .f, .f, .f, .f, .f, .l] (by kernel_rfl) (cj (hT) (cj (hC) (cj (hA (oL u) (by simp)) (cj (hA (oL v) (by simp)) (cj (gright_does (f (oL u)) (f (oL v))) (cj c1 (cj c1 (cj c1 (cj c1 (cj c1 cj0))))))))))
end Go.Proofs.YtpfignfgfhbblaaGreatDoorC
/- gauss.Parse, told. -/
namespace Go.Proofs.YtpfignfgfhbblaaGreatDoorC
open Go.Proofs Go.Proofs.YtpfignfgfhbblaaGreatDoorSx Go.Lib
set_option maxRecDepth 100000
set_option linter.unusedVariables false
section
variable {l w u v : List UInt8} {cb : Bool}
abbrev TrimTo (l w : List UInt8) : Prop := Does cE 65 [] 0 [.v (st (oL l)), .v (st (ByteArray.mk #[60, 62]))] (.v (st (oL w))) [] 0
abbrev CutTo (w u v : List UInt8) (cb : Bool) : Prop := Does cE 147 [] 0 [.v (st (oL w)), .v (st (ByteArray.mk #[44]))] (.v (.tuple #[st (oL u), st (oL v), .bool cb])) [] 0
abbrev AtoiOk (u : List UInt8) (a : Int) : Prop := Does cE 148 [] 0 [.v (st (oL u))] (.v (.tuple #[it a, .nilIface])) [] 0
abbrev AtoiBad (u : List UInt8) (a : Int) : Prop := Does cE 148 [] 0 [.v (st (oL u))] (.t [.v (it a), .ni]) [] 0
theorem gp_b1 {n b : Int} (hT : TrimTo l w) (hC : CutTo w u v cb) (h1 : AtoiBad u n) (h2 : AtoiOk v b) : Does cE 93 [] 0 [.v (st (oL l))] (.v (.tuple #[dc 0 0, it 21])) [] 0 :=
  pth (fn := Tryz.f93) rfl (by kernel_rfl) ([.c (.v (st (oL w))) [] 0, .c (.v (.tuple #[st (oL u), st (oL v), .bool cb])) [] 0, .c (.t [.v (it n), .ni]) [] 0, .c (.v (.tuple #[it b, .nilIface])) [] 0] ++ List.replicate 16 .l) (by kernel_rfl) (cj hT (cj hC (cj h1 (cj h2 cj0))))
theorem gp_b2 {a n : Int} (hT : TrimTo l w) (hC : CutTo w u v cb) (h1 : AtoiOk u a) (h2 : AtoiBad v n) : Does cE 93 [] 0 [.v (st (oL l))] (.v (.tuple #[dc 0 0, it 21])) [] 0 :=
  pth (fn := Tryz.f93) rfl (by kernel_rfl) ([.c (.v (st (oL w))) [] 0, .c (.v (.tuple #[st (oL u), st (oL v), .bool cb])) [] 0, .c (.v (.tuple #[it a, .nilIface])) [] 0, .c (.t [.v (it n), .ni]) [] 0] ++ List.replicate 16 .l) (by kernel_rfl) (cj hT (cj hC (cj h1 (cj h2 cj0))))
theorem gp_b3 {m n : Int} (hT : TrimTo l w) (hC : CutTo w u v cb) (h1 : AtoiBad u m) (h2 : AtoiBad v n) : Does cE 93 [] 0 [.v (st (oL l))] (.v (.tuple #[dc 0 0, it 21])) [] 0 :=
  pth (fn := Tryz.f93) rfl (by kernel_rfl) ([.c (.v (st (oL w))) [] 0, .c (.v (.tuple #[st (oL u), st (oL v), .bool cb])) [] 0, .c (.t [.v (it m), .ni]) [] 0, .c (.t [.v (it n), .ni]) [] 0] ++ List.replicate 16 .l) (by kernel_rfl) (cj hT (cj hC (cj h1 (cj h2 cj0))))
end
def trG (l : List UInt8) : List UInt8 × Option (List UInt8) := sq (Lib.trimS l [60, 62])
/-- What a text of a point comes to. -/
def gpL (l : List UInt8) : Int × Int × Int := match Lib.atoiAll (trG l).1, Lib.atoiAll ((trG l).2.getD []) with
  | .ok a, .ok b => bif rt a b && prG a b == l then (a, b, 0) else (0, 0, 21)
  | _, _ => (0, 0, 21)
theorem trim_le (l cs : List UInt8) : (Lib.trimS l cs).length ≤ l.length := by
  have dw : ∀ (p : UInt8 → Bool) (x : List UInt8), (x.dropWhile p).length ≤ x.length := fun p x => (List.dropWhile_sublist p).length_le
  unfold Lib.trimS Lib.trimLeftS Lib.trimRightS
  refine Nat.le_trans (dw _ _) ?_
  rw [List.length_reverse]
  refine Nat.le_trans (dw _ _) ?_
  rw [List.length_reverse]
  exact Nat.le_refl _
theorem trG_le (l : List UInt8) : (trG l).1.length ≤ l.length ∧ ((trG l).2.getD []).length ≤ l.length := by
  have h := congrArg List.length (sq_back (Lib.trimS l [60, 62]))
  have ht := trim_le l [60, 62]
  unfold trG
  cases hc : (sq (Lib.trimS l [60, 62])).2 with
  | none =>
    rw [hc] at h
    simp at h
    exact ⟨by omega, by simp⟩
  | some p =>
    rw [hc] at h
    simp at h
    exact ⟨by omega, by simp; omega⟩
theorem atoi_i64 {l : List UInt8} {v : Int} (h : Lib.atoiAll l = .ok v) : I64 v := by
  unfold Lib.atoiAll at h
  split at h
  · cases h
  · rename_i c r
    simp only at h
    split at h
    · cases h
    · cases h
    · rename_i u hu
      split at h
      · cases h
      · split at h
        · cases h
        · simp only [NumEnd.ok.injEq] at h
          split at h <;> omega
def aI (s : ByteArray) : Int := match Lib.atoiAll s.data.toList with
  | .ok v => v
  | _ => 0
theorem aI_64 (s : ByteArray) : I64 (aI s) := by
  unfold aI
  split
  · rename_i v h
    exact atoi_i64 h
  · decide
theorem aI_ok {l : List UInt8} {v : Int} (h : Lib.atoiAll l = .ok v) : aI (oL l) = v := by
  unfold aI
  rw [oL_data, h]
theorem gparse_does (l : List UInt8) (hl : l.length ≤ 140737488355328) : Does cE 93 [] 0 [.v (st (oL l))] (.v (.tuple #[dc (gpL l).1 (gpL l).2.1, it (gpL l).2.2])) [] 0 := by
  have hle := trG_le l
  have hT : TrimTo l (Lib.trimS l [60, 62]) := trim_does l hl
  have hC : CutTo (Lib.trimS l [60, 62]) (trG l).1 ((trG l).2.getD []) (trG l).2.isSome := cut44_does (Lib.trimS l [60, 62]) (by have := trim_le l [60, 62]; omega)
  have ok := fun (x : List UInt8) (hx : x.length ≤ l.length) (v : Int) (h : Lib.atoiAll x = .ok v) => atoi_ok x (by omega) h
  have bad := fun (x : List UInt8) (hx : x.length ≤ l.length) (h : ∀ v, Lib.atoiAll x ≠ .ok v) => atoi_bad x (by omega) h
  have no : (∀ v, Lib.atoiAll (trG l).1 ≠ .ok v) ∨ (∀ v, Lib.atoiAll ((trG l).2.getD []) ≠ .ok v) → gpL l = (0, 0, 21) := by
    intro h
    unfold gpL
    split
    · rename_i a b ha hb
      rcases h with h | h
      · exact absurd ha (h a)
      · exact absurd hb (h b)
    · rfl
  by_cases h1 : ∃ a, Lib.atoiAll (trG l).1 = .ok a
  · obtain ⟨a, ha⟩ := h1
    by_cases h2 : ∃ b, Lib.atoiAll ((trG l).2.getD []) = .ok b
    · obtain ⟨b, hb⟩ := h2
      have h := pPa_does l (Lib.trimS l [60, 62]) (trG l).1 ((trG l).2.getD []) (trG l).2.isSome aI hT hC (fun s hs => by
        rcases hs with rfl | rfl
        · rw [aI_ok ha]; exact ok _ hle.1 a ha
        · rw [aI_ok hb]; exact ok _ hle.2 b hb) aI_64
      have e : pPa l (Lib.trimS l [60, 62]) (trG l).1 ((trG l).2.getD []) (trG l).2.isSome aI = .tuple #[dc (gpL l).1 (gpL l).2.1, it (gpL l).2.2] := by
        have gp : gpL l = bif rt a b && prG a b == l then (a, b, 0) else (0, 0, 21) := by
          unfold gpL
          rw [ha, hb]
        unfold pPa
        rw [gp, aI_ok ha, aI_ok hb]
        have e2 : ((oL (prG a b)).toList == (oL l).toList) = (prG a b == l) := by rw [oL_toList, oL_toList]
        rw [e2]
        cases rt a b
        · rfl
        · cases (prG a b == l) <;> rfl
      rw [e] at h
      exact h
    · have h2 : ∀ v, Lib.atoiAll ((trG l).2.getD []) ≠ .ok v := fun v h => h2 ⟨v, h⟩
      rw [no (.inr h2)]
      obtain ⟨n, hn⟩ := bad _ hle.2 h2
      exact gp_b2 hT hC (ok _ hle.1 a ha) hn
  · have h1 : ∀ v, Lib.atoiAll (trG l).1 ≠ .ok v := fun v h => h1 ⟨v, h⟩
    rw [no (.inl h1)]
    obtain ⟨m, hm⟩ := bad _ hle.1 h1
    by_cases h2 : ∃ b, Lib.atoiAll ((trG l).2.getD []) = .ok b
    · obtain ⟨b, hb⟩ := h2
      exact gp_b1 hT hC hm (ok _ hle.2 b hb)
    · obtain ⟨n, hn⟩ := bad _ hle.2 (fun v h => h2 ⟨v, h⟩)
      exact gp_b3 hT hC hm hn
end Go.Proofs.YtpfignfgfhbblaaGreatDoorC
