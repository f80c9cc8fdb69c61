import Derived.Test.YtcneenlcbjicnaaDoorPT2
import Derived.Test.YtcneenlcbjicnaaDoorTB
/- The program's Parse, at every text. -/
namespace Go.Proofs.YtcneenlcbjicnaaDoorC
open Go.Proofs Go.Proofs.YtcneenlcbjicnaaDoorSx Go.RowKit Go.Sort Go.Lib
set_option maxRecDepth 100000
set_option linter.unusedVariables false
set_option linter.unusedSimpArgs false
/-! ### Prefix and point -/
theorem oL_toList (l : List UInt8) : (oL l).toList = l := by
  rw [ByteArray.toList_eq, oL_data]
theorem cutp_does (s : List UInt8) : Does cE 56 [] 0 [.v (st (oL s)), .v (st (ByteArray.mk #[45]))] (.v (.tuple #[st (oL (bodyL s)), .bool (sgn s)])) [] 0 := by
  have e45 : ByteArray.mk #[45] = oL [45] := rfl
  rw [e45]
  cases s with
  | nil => exact cutp_3 (h0 := by rw [oL_size, oL_size]; rfl)
  | cons c r =>
    have hd : decide (((oL (c :: r)).size : Int) ≥ ((oL [45]).size : Int)) = true := by
      rw [oL_size, oL_size]
      simp
      omega
    have hb : (0 : Int) ≤ 0 ∧ (0 : Int) ≤ ((oL [45]).size : Int) ∧ ((oL [45]).size : Int) ≤ ((oL (c :: r)).size : Int) := by
      rw [oL_size, oL_size]
      simp
      omega
    have he : ((oL (c :: r)).extract (Int.toNat 0) ((oL [45]).size : Int).toNat).toList = [c] := by
      rw [oL_ext, oL_toList, oL_size]
      rfl
    by_cases hc : c = 45
    · subst hc
      have h := cutp_2 (bs := oL (45 :: r)) (ss := oL [45]) (h0 := hd) (h1 := hb) (h2 := by rw [he, oL_toList]; rfl) (h3 := by
        rw [oL_size, oL_size]
        simp
        omega)
      have e2 : (oL (45 :: r)).extract ((oL [45]).size : Int).toNat ((oL (45 :: r)).size : Int).toNat = oL r := by
        rw [oL_ext, oL_size, oL_size]
        simp
      rw [e2] at h
      have e3 : bodyL (45 :: r) = r := by simp [bodyL, sgn]
      have e4 : sgn (45 :: r) = true := by simp [sgn]
      rw [e3, e4]
      exact h
    · have h := cutp_1 (bs := oL (c :: r)) (ss := oL [45]) (h0 := hd) (h1 := hb) (h2 := by
        rw [he, oL_toList]
        simp [hc])
      have e4 : sgn (c :: r) = false := by simp [sgn, hc]
      have e3 : bodyL (c :: r) = c :: r := by simp [bodyL, e4]
      rw [e3, e4]
      exact h
theorem index_sp : ∀ l : List UInt8, indexByte l 46 = (match (sp l).2 with | none => -1 | some _ => ((sp l).1.length : Int))
  | [] => rfl
  | c :: r => by
    have ih := index_sp r
    rw [indexByte, sp]
    by_cases hc : c = 46
    · subst hc
      simp
    · rw [if_neg hc]
      have : (c == 46) = false := by simpa using hc
      rw [this, ih]
      cases h : (sp r).2 with
      | none => simp
      | some p =>
        have : ¬ (((sp r).1.length : Int) = -1) := by omega
        simp [this]
theorem idx_does (l : List UInt8) : Does cE 81 [] 0 [.v (st (oL l)), .v (st (ByteArray.mk #[46]))] (.v (it (indexByte l 46))) [] 0 := by
  refine does_lib (l := [st (oL l), st (ByteArray.mk #[46])]) (enters (fn := Tryd.f81) rfl (by kernel_rfl) rfl) (fun w hg => ?_)
  refine (Any.stringslite_Index_one Tryd.laysIndex (oL l) 46 w).mono fun e w' hh => ?_
  rw [oL_data] at hh
  exact ⟨hh.1, hh.2 ▸ Below.refl _ _⟩
theorem sp_len : ∀ (l p : List UInt8), (sp l).2 = some p → l.length = (sp l).1.length + 1 + p.length := by
  intro l p h
  have := congrArg List.length (sp_back l)
  rw [h] at this
  simp at this
  omega
theorem cut_does (l : List UInt8) (hl : l.length ≤ 9223372036854775807) : Does cE 57 [] 0 [.v (st (oL l)), .v (st (ByteArray.mk #[46]))] (.v (.tuple #[st (oL (sp l).1), st (oL ((sp l).2.getD [])), .bool (sp l).2.isSome])) [] 0 := by
  have hi := idx_does l
  rw [index_sp] at hi
  have hb := sp_back l
  have e46 : ((ByteArray.mk #[46]).size : Int) = 1 := rfl
  refine scut_1 (h0 := ?_)
  cases hp : (sp l).2 with
  | none =>
    rw [hp] at hi hb
    have h := lcut_2 (bs := oL l) (ss := ByteArray.mk #[46]) (h0 := hi) (h1 := rfl)
    simp only [List.append_nil] at hb
    rw [← hb]
    exact h
  | some p =>
    rw [hp] at hi hb
    have hlen := sp_len l p hp
    have hw : IntKind.i64.wrap (((sp l).1.length : Int) + ((ByteArray.mk #[46]).size : Int)) = (((sp l).1.length + 1 : Nat) : Int) := by
      rw [e46, wrap64 (by omega) (by omega)]
      rfl
    have h := lcut_1 (bs := oL l) (ss := ByteArray.mk #[46]) (h0 := hi) (h1 := by simp) (h2 := by rw [oL_size]; simp; omega) (h3 := by rw [hw, oL_size]; omega)
    rw [hw] at h
    have e1 : (oL l).extract (Int.toNat 0) ((sp l).1.length : Int).toNat = oL (sp l).1 := by
      rw [oL_ext]
      congr 1
      have h2 : l = (sp l).1 ++ 46 :: p := hb
      generalize (sp l).1 = w at h2
      subst h2
      simp
    have e2 : (oL l).extract (((sp l).1.length + 1 : Nat) : Int).toNat ((oL l).size : Int).toNat = oL p := by
      rw [oL_ext, oL_size]
      congr 1
      have h2 : l = (sp l).1 ++ 46 :: p := hb
      generalize (sp l).1 = w at h2
      subst h2
      have e3 : ((w.length + 1 : Nat) : Int).toNat = w.length + 1 := by omega
      rw [e3]
      have e4 : List.drop (w.length + 1) (w ++ 46 :: p) = p := by
        rw [List.drop_append]
        simp
      rw [e4]
      apply List.take_of_length_le
      simp
      omega
    rw [e1, e2] at h
    exact h
/-! ### What is read, by its rules -/
theorem p_rule1 (ng : Bool) {w : List UInt8} {p : Option (List UInt8)} (h : w = [] ∨ p = some [] ∨ 6 < (p.getD []).length ∨ (1 < w.length ∧ w.head? = some 48) ∨ (w ++ p.getD []).all isD = false) : parseB ng w p = (0, 0, 21) := by
  unfold parseB
  rw [if_pos h]
theorem p_rule2 {ng : Bool} {w : List UInt8} {p : Option (List UInt8)} (h : ng = true ∧ valF 0 (w ++ p.getD []) = 0) : parseB ng w p = (0, 0, 21) := by
  unfold parseB
  rw [if_pos h]
  split <;> rfl
theorem p_rule3 {ng : Bool} {w : List UInt8} {p : Option (List UInt8)} (h1 : w ≠ []) (h2 : p ≠ some []) (h3 : (p.getD []).length ≤ 6) (h4 : ¬ (1 < w.length ∧ w.head? = some 48)) (h5 : (w ++ p.getD []).all isD = true) (h6 : ¬ (ng = true ∧ valF 0 (w ++ p.getD []) = 0)) :
    parseB ng w p = fitP (valF 0 (w ++ p.getD [])) ng (p.getD []).length := by
  have hb : ¬ (w = [] ∨ p = some [] ∨ 6 < (p.getD []).length ∨ (1 < w.length ∧ w.head? = some 48) ∨ (w ++ p.getD []).all isD = false) := by
    rintro (h | h | h | h | h)
    · exact h1 h
    · exact h2 h
    · omega
    · exact h4 h
    · rw [h5] at h; cases h
  unfold parseB fitP fits sg
  rw [if_neg hb, if_neg h6]
  cases ng with
  | true =>
    simp only [if_true]
    by_cases h : valF 0 (w ++ p.getD []) ≤ 9223372036854775808
    · rw [if_pos h, if_pos (by omega)]
    · rw [if_neg h, if_neg (by omega)]
  | false =>
    simp only [Bool.false_eq_true, if_false]
    by_cases h : valF 0 (w ++ p.getD []) < 9223372036854775808
    · rw [if_pos h, if_pos (by omega)]
    · rw [if_neg h, if_neg (by omega)]
/-- What comes of rows of digits. -/
def endR (ng : Bool) (sc : Int) (al : List UInt8) : Int × Int × Int :=
  if al.all isD = false then (0, 0, 21) else if ng = true ∧ valF 0 al = 0 then (0, 0, 21) else fitP (valF 0 al) ng sc
theorem p_end {ng : Bool} {w : List UInt8} {p : Option (List UInt8)} (h1 : w ≠ []) (h2 : p ≠ some []) (h3 : (p.getD []).length ≤ 6) (h4 : ¬ (1 < w.length ∧ w.head? = some 48)) : parseB ng w p = endR ng (p.getD []).length (w ++ p.getD []) := by
  unfold endR
  by_cases h5 : (w ++ p.getD []).all isD = false
  · rw [if_pos h5, p_rule1 ng (.inr (.inr (.inr (.inr h5))))]
  · rw [if_neg h5]
    by_cases h6 : ng = true ∧ valF 0 (w ++ p.getD []) = 0
    · rw [if_pos h6, p_rule2 h6]
    · rw [if_neg h6, p_rule3 h1 h2 h3 h4 (by simpa using h5) h6]
end Go.Proofs.YtcneenlcbjicnaaDoorC
/- The program's Parse, at every text: its loop and what it comes to. Written by a program (wip/dec/gentd.py). -/
namespace Go.Proofs.YtcneenlcbjicnaaDoorC
open Go.Proofs Go.Proofs.YtcneenlcbjicnaaDoorSx Go.RowKit Go.Sort Go.Lib
set_option maxRecDepth 100000
set_option linter.unusedVariables false
set_option linter.unusedSimpArgs false
theorem inK_prK (m : Nat) : inK (prK m) m = prK m := rfl
theorem wrap8e (x : Int) : IntKind.u8.wrap x = x % 256 := by simp [IntKind.wrap, IntKind.bits, IntKind.signed]
theorem byte_lt (c : UInt8) : c.toNat < 256 := c.toNat_lt
theorem dig_no {c : UInt8} (h : isD c = false) : decide (IntKind.u8.wrap (((c.toNat : Nat) : Int) - 48) > 9) = true := by
  have := byte_lt c
  unfold isD at h
  simp only [decide_eq_false_iff_not] at h
  rw [wrap8e]
  simp only [decide_eq_true_eq]
  omega
theorem dig_yes {c : UInt8} (h : isD c = true) : IntKind.u8.wrap (((c.toNat : Nat) : Int) - 48) = ((c.toNat - 48 : Nat) : Int) ∧ decide (IntKind.u8.wrap (((c.toNat : Nat) : Int) - 48) > 9) = false := by
  have := byte_lt c
  unfold isD at h
  simp only [decide_eq_true_eq] at h
  rw [wrap8e]
  simp only [decide_eq_false_iff_not]
  omega
theorem isD_le {c : UInt8} (h : isD c = true) : c.toNat - 48 ≤ 9 := by
  unfold isD at h
  simp only [decide_eq_true_eq] at h
  omega
theorem step_does {X : Int} (h0 : 0 ≤ X) (h1 : X < 18446744073709551616) {c : UInt8} (hc : isD c = true) :
    Does cE 47 [] 0 [.v (bg (X / 18446744073709551616) (X % 18446744073709551616) false), .v (iu 10)] (.v (Bv (X * 10) false)) [] 0 ∧
    Does cE 53 [] 0 [.v (Bv (X * 10) false), .v (bg 0 (IntKind.u64.wrap (IntKind.u8.wrap (((c.toNat : Nat) : Int) - 48))) false)] (.v (Bv (X * 10 + ((c.toNat - 48 : Nat) : Int)) false)) [] 0 := by
  have hb : big128 = 340282366920938463463374607431768211456 := rfl
  have hd := isD_le hc
  refine ⟨ptimes_does h0 (by omega) (by rw [hb]; omega) (by rw [hb]; omega) false, ?_⟩
  have h := pplus_does (x := X * 10) (y := ((c.toNat - 48 : Nat) : Int)) (by omega) (by omega) (by rw [hb]; omega) false false
  have e1 : ((c.toNat - 48 : Nat) : Int) / 18446744073709551616 = 0 := by omega
  have e2 : ((c.toNat - 48 : Nat) : Int) % 18446744073709551616 = ((c.toNat - 48 : Nat) : Int) := by omega
  have e3 : IntKind.u64.wrap (IntKind.u8.wrap (((c.toNat : Nat) : Int) - 48)) = ((c.toNat - 48 : Nat) : Int) := by
    rw [(dig_yes hc).1, wrU (by omega) (by omega)]
  rw [e3]
  unfold addM at h
  rw [if_pos rfl] at h
  simp only at h
  have e4 : Bv ((c.toNat - 48 : Nat) : Int) false = bg 0 ((c.toNat - 48 : Nat) : Int) false := by
    unfold Bv
    rw [e1, e2]
  rw [e4] at h
  exact h
theorem next_range {X : Int} (h0 : 0 ≤ X) (h1 : X < 18446744073709551616) {c : UInt8} (hc : isD c = true) : 0 ≤ X * 10 + ((c.toNat - 48 : Nat) : Int) ∧ X * 10 + ((c.toNat - 48 : Nat) : Int) < big128 := by
  have hb : big128 = 340282366920938463463374607431768211456 := rfl
  have hd := isD_le hc
  rw [hb]
  omega
section
variable {al : List UInt8} {i n : Nat}
theorem take_next (h : al.length = i + n + 1) : al.take (i + 1) = al.take i ++ [al.getD i 0] := by
  rw [List.take_add_one]
  congr 1
  have : i < al.length := by omega
  rw [List.getElem?_eq_getElem this, List.getD_eq_getElem?_getD, List.getElem?_eq_getElem this]
  rfl
theorem last_take (h : al.length = i + n + 1) (hn : n = 0) : al.take (i + 1) = al := List.take_of_length_le (by omega)
theorem all_next (h : al.length = i + n + 1) (hc : isD (al.getD i 0) = true) (ha : (al.take i).all isD = true) : (al.take (i + 1)).all isD = true := by
  rw [take_next h, List.all_append, ha, List.all_cons, hc]
  rfl
theorem val_step (h : al.length = i + n + 1) : valF 0 (al.take (i + 1)) = 10 * valF 0 (al.take i) + ((al.getD i 0).toNat - 48) := by
  rw [take_next h, valF_snoc]
theorem val_next {X : Int} (h : al.length = i + n + 1) (hc : isD (al.getD i 0) = true) (hx : X = (valF 0 (al.take i) : Int)) : X * 10 + (((al.getD i 0).toNat - 48 : Nat) : Int) = (valF 0 (al.take (i + 1)) : Int) := by
  rw [val_step h, hx]
  omega
theorem end_bad {ng : Bool} {sc : Int} (h : al.length = i + n + 1) (hc : isD (al.getD i 0) = false) : endR ng sc al = (0, 0, 21) := by
  unfold endR
  have : al.all isD = false := by
    cases ha : al.all isD with
    | false => rfl
    | true =>
      have hlt : i < al.length := by omega
      have := List.all_eq_true.1 ha al[i] (List.getElem_mem hlt)
      rw [List.getD_eq_getElem?_getD, List.getElem?_eq_getElem hlt] at hc
      simp only [Option.getD_some] at hc
      rw [this] at hc
      cases hc
  rw [if_pos this]
theorem end_zero {sc : Int} (h : al.all isD = true) (hv : valF 0 al = 0) : endR true sc al = (0, 0, 21) := by
  unfold endR
  rw [h, if_neg (by simp), if_pos ⟨rfl, hv⟩]
theorem end_over {ng : Bool} {sc : Int} (h : al.all isD = true) (hv : 18446744073709551616 ≤ valF 0 al) : endR ng sc al = (0, 0, 32) := by
  unfold endR
  rw [h, if_neg (by simp), if_neg (by rintro ⟨_, e⟩; omega)]
  have hf : ¬ fits (valF 0 al : Int) ng := by
    unfold fits
    cases ng <;> simp <;> omega
  unfold fitP
  rw [if_neg hf]
theorem end_fit {Y sc : Int} (h : al.all isD = true) (hv : Y = (valF 0 al : Int)) (hz : valF 0 al ≠ 0) : endR true sc al = fitP Y true sc := by
  unfold endR
  rw [h, if_neg (by simp), if_neg (by rintro ⟨_, e⟩; omega), hv]
theorem end_fit2 {Y sc : Int} (h : al.all isD = true) (hv : Y = (valF 0 al : Int)) : endR false sc al = fitP Y false sc := by
  unfold endR
  rw [h, if_neg (by simp), if_neg (by rintro ⟨e, _⟩; cases e), hv]
end
theorem zero_yes {Y : Int} (h : Y = 0) : (Y / 18446744073709551616 == 0 && (Y % 18446744073709551616 == 0 && (false == false && true))) = true := by
  subst h
  rfl
theorem zero_no {Y : Int} (h : Y ≠ 0) (h0 : 0 ≤ Y) : (Y / 18446744073709551616 == 0 && (Y % 18446744073709551616 == 0 && (false == false && true))) = false := by
  by_cases h1 : Y / 18446744073709551616 = 0
  · have h2 : ¬ Y % 18446744073709551616 = 0 := by omega
    have h3 : (Y % 18446744073709551616 == 0) = false := by simpa using h2
    rw [h3]
    simp
  · have h3 : (Y / 18446744073709551616 == 0) = false := by simpa using h1
    rw [h3]
    rfl
/-- Where the loop stands: no more than 64 bits yet, or more. -/
structure Inv (al : List UInt8) (i : Nat) (X : Int) (ov : Bool) : Prop where
  all : (al.take i).all isD = true
  no : ov = false → X = (valF 0 (al.take i) : Int) ∧ X < 18446744073709551616
  yes : ov = true → 18446744073709551616 ≤ X ∧ 18446744073709551616 ≤ valF 0 (al.take i)
  x0 : 0 ≤ X
abbrev prS (ng ov : Bool) (sc : Int) (i : Nat) (al : List UInt8) : List SV := [.na, .na, .p 0 0, .v (it 0), .na, .v (.bool ng), .na, .na, .na, .v (it sc), .p 1 0, .v (.bool ov), .v (it i), .v (st (oL al))] ++ List.replicate 82 .na
theorem inv_next {al : List UInt8} {i n : Nat} {X : Int} (h : al.length = i + n + 1) (hc : isD (al.getD i 0) = true) (hall : (al.take i).all isD = true) (x0 : 0 ≤ X) (hx : X = (valF 0 (al.take i) : Int)) : Inv al (i + 1) (X * 10 + (((al.getD i 0).toNat - 48 : Nat) : Int)) (decide ((X * 10 + (((al.getD i 0).toNat - 48 : Nat) : Int)) / 18446744073709551616 > 0)) := by
  have hv := val_next h hc hx
  refine ⟨all_next h hc hall, fun e => ?_, fun e => ?_, by omega⟩
  · simp only [decide_eq_false_iff_not] at e
    omega
  · simp only [decide_eq_true_eq] at e
    omega
theorem inv_over {al : List UInt8} {i n : Nat} {X : Int} (h : al.length = i + n + 1) (hc : isD (al.getD i 0) = true) (hi : Inv al i X true) : Inv al (i + 1) X true := by
  have hv := val_step h
  have hy := hi.yes rfl
  exact ⟨all_next h hc hi.all, fun e => (by cases e), fun _ => ⟨hy.1, by omega⟩, hi.x0⟩
theorem pr_loop {al : List UInt8} (hl : al.length ≤ 9223372036854775807) (ng : Bool) (sc : Int) : ∀ (n i : Nat) (X : Int) (ov : Bool), al.length = i + n + 1 → Inv al i X ov →
    Fin cE Tryd.f37 0 (.v (ans (endR ng sc al))) [] 0 (prK (n + 1)) (prS ng ov sc i al) (pT (X / 18446744073709551616) (X % 18446744073709551616)) 2 := by
  intro n
  induction n using Nat.strongRecOn with
  | _ n ih =>
    intro i X ov hlen hinv
    have hb : (0 : Int) ≤ (i : Int) ∧ (i : Int) < ((oL al).size : Int) := by rw [oL_size]; omega
    have hall := hinv.all
    have x0 := hinv.x0
    cases ov with
    | false =>
      obtain ⟨hx, x1⟩ := hinv.no rfl
      by_cases hc : isD (al.getD i 0) = true
      · obtain ⟨y1, y2⟩ := dig_yes hc
        obtain ⟨s1, s2⟩ := step_does x0 x1 hc
        by_cases hm : n = 0
        · have hlast := last_take hlen hm
          have hv := val_next hlen hc hx
          have ha := all_next hlen hc hall
          rw [hlast] at hv ha
          obtain ⟨z0, z1⟩ := next_range x0 x1 hc
          generalize hY : X * 10 + (((al.getD i 0).toNat - 48 : Nat) : Int) = Y at s2 hv z0 z1
          by_cases hg : ng = true
          · subst hg
            by_cases hz : Y = 0
            · have he : endR true sc al = (0, 0, 21) := end_zero ha (by omega)
              rw [he]
              exact prc_3 (al := oL al) (ov := false) (sc := sc) (h0 := hb) (m := n) (h1 := y2) (h2 := rfl) (h3 := s1) (h4 := s2) (h5 := by rw [oL_size, step64 (by omega)]; simp; omega) (h6 := rfl) (h7 := zero_yes hz)
            · by_cases ho : Y / 18446744073709551616 > 0
              · have he : endR true sc al = (0, 0, 32) := end_over ha (by omega)
                rw [he]
                exact prc_4 (al := oL al) (ov := false) (sc := sc) (h0 := hb) (m := n) (h1 := y2) (h2 := rfl) (h3 := s1) (h4 := s2) (h5 := by rw [oL_size, step64 (by omega)]; simp; omega) (h6 := rfl) (h7 := zero_no hz z0) (h8 := by simpa using ho)
              · have he : endR true sc al = fitP Y true sc := end_fit ha hv (by omega)
                rw [he]
                exact prc_5 (al := oL al) (ov := false) (sc := sc) (h0 := hb) (m := n) (h1 := y2) (h2 := rfl) (h3 := s1) (h4 := s2) (h5 := by rw [oL_size, step64 (by omega)]; simp; omega) (h6 := rfl) (h7 := zero_no hz z0) (h8 := by simpa using ho) (h9 := pback_does z0 z1 true sc)
          · have hg2 : ng = false := by simpa using hg
            subst hg2
            by_cases ho : Y / 18446744073709551616 > 0
            · have he : endR false sc al = (0, 0, 32) := end_over ha (by omega)
              rw [he]
              exact prc_6 (al := oL al) (ov := false) (sc := sc) (h0 := hb) (m := n) (h1 := y2) (h2 := rfl) (h3 := s1) (h4 := s2) (h5 := by rw [oL_size, step64 (by omega)]; simp; omega) (h6 := rfl) (h7 := by simpa using ho)
            · have he : endR false sc al = fitP Y false sc := end_fit2 ha hv
              rw [he]
              exact prc_7 (al := oL al) (ov := false) (sc := sc) (h0 := hb) (m := n) (h1 := y2) (h2 := rfl) (h3 := s1) (h4 := s2) (h5 := by rw [oL_size, step64 (by omega)]; simp; omega) (h6 := rfl) (h7 := by simpa using ho) (h8 := pback_does z0 z1 false sc)
        · obtain ⟨k, rfl⟩ : ∃ k, n = k + 1 := ⟨n - 1, by omega⟩
          have h := prc_2 (al := oL al) (ov := false) (sc := sc) (h0 := hb) (ng := ng) (m := k + 1) (res := .v (ans (endR ng sc al))) (T' := []) (n' := 0) (h1 := y2) (h2 := rfl) (h3 := s1) (h4 := s2) (h5 := by rw [oL_size, step64 (by omega)]; simp; omega)
          rw [step64 (by omega)] at h
          refine h ?_
          rw [inK_prK]
          exact ih k (by omega) (i + 1) _ _ (by omega) (inv_next hlen hc hall x0 hx)
      · have he : endR ng sc al = (0, 0, 21) := end_bad hlen (by simpa using hc)
        rw [he]
        exact prc_1 (al := oL al) (ov := false) (sc := sc) (h0 := hb) (ng := ng) (h := X / 18446744073709551616) (l := X % 18446744073709551616) (m := n) (h1 := dig_no (Bool.eq_false_iff.2 hc))
    | true =>
      obtain ⟨o1, o2⟩ := hinv.yes rfl
      by_cases hc : isD (al.getD i 0) = true
      · obtain ⟨y1, y2⟩ := dig_yes hc
        by_cases hm : n = 0
        · have hlast := last_take hlen hm
          have hi2 := inv_over hlen hc hinv
          have ha := hi2.all
          have hv := (hi2.yes rfl).2
          rw [hlast] at ha hv
          have he : endR ng sc al = (0, 0, 32) := end_over ha hv
          rw [he]
          by_cases hg : ng = true
          · subst hg
            exact prc_10 (al := oL al) (ov := true) (sc := sc) (m := n) (h0 := hb) (h1 := y2) (h2 := rfl) (h3 := by rw [oL_size, step64 (by omega)]; simp; omega) (h4 := rfl) (h5 := zero_no (by omega) x0) (h6 := rfl)
          · have hg2 : ng = false := by simpa using hg
            subst hg2
            exact prc_12 (al := oL al) (ov := true) (h := X / 18446744073709551616) (l := X % 18446744073709551616) (sc := sc) (m := n) (h0 := hb) (h1 := y2) (h2 := rfl) (h3 := by rw [oL_size, step64 (by omega)]; simp; omega) (h4 := rfl) (h5 := rfl)
        · obtain ⟨k, rfl⟩ : ∃ k, n = k + 1 := ⟨n - 1, by omega⟩
          have h := prc_8 (al := oL al) (ng := ng) (ov := true) (sc := sc) (h := X / 18446744073709551616) (l := X % 18446744073709551616) (h0 := hb) (m := k + 1) (res := .v (ans (endR ng sc al))) (T' := []) (n' := 0) (h1 := y2) (h2 := rfl) (h3 := by rw [oL_size, step64 (by omega)]; simp; omega)
          rw [step64 (by omega)] at h
          refine h ?_
          rw [inK_prK]
          exact ih k (by omega) (i + 1) _ _ (by omega) (inv_over hlen hc hinv)
      · have he : endR ng sc al = (0, 0, 21) := end_bad hlen (by simpa using hc)
        rw [he]
        exact prc_1 (al := oL al) (ng := ng) (ov := true) (h := X / 18446744073709551616) (l := X % 18446744073709551616) (sc := sc) (m := n) (h0 := hb) (h1 := dig_no (Bool.eq_false_iff.2 hc))
theorem first_A (n : Nat) (ng : Bool) (s w t : List UInt8) (hs : s.length ≤ 9223372036854775807) (hlen : (w ++ t).length = 0 + n + 1) (hw : (w ++ t).length ≤ s.length) (q0 : Does cE 56 [] 0 [.v (st (oL s)), .v (st (ByteArray.mk #[45]))] (.v (.tuple #[st (oL (bodyL s)), .bool ng])) [] 0) (q1 : Does cE 57 [] 0 [.v (st (oL (bodyL s))), .v (st (ByteArray.mk #[46]))] (.v (.tuple #[st (oL w), st (oL t), .bool true])) [] 0) (q2 : ((oL w).toList == (ByteArray.mk #[]).toList) = false) (q4 : ((oL t).toList == (ByteArray.mk #[]).toList) = false) (q5 : decide (((oL t).size : Int) > 6) = false) (q6 : decide (((oL w).size : Int) > 1) = true) (q7 : (0 : Int) ≤ 0 ∧ (0 : Int) < ((oL w).size : Int)) (q8 : ((((w.getD 0 0).toNat : Nat) : Int) == 48) = false) :
    Fin cE Tryd.f37 0 (.v (ans (endR ng (t.length : Int) (w ++ t)))) [] 0 (scK psK (n + 1)) ([.v (st (oL s)), .na, .p 0 0, .v (it 0)] ++ List.replicate 92 .na) [(0, .box 24 [.v (it 0), .v (it 0)])] 1 := by
  have esz : ((oL t).size : Int) = (t.length : Int) := by rw [oL_size]
  have q9 : (oL w).size + (oL t).size ≤ 9223372036854775807 := by
    rw [oL_size, oL_size, ← List.length_append]
    omega
  have q10 : (0 : Int) ≤ 0 ∧ (0 : Int) < (((oL w ++ oL t).size : Nat) : Int) := by
    rw [oL_app, oL_size]
    omega
  have X0 : ∃ X : Int, X = 0 := ⟨0, rfl⟩
  obtain ⟨X, hX⟩ := X0
  have x0 : 0 ≤ X := by omega
  have x1 : X < 18446744073709551616 := by omega
  have hx : X = (valF 0 ((w ++ t).take 0) : Int) := by rw [hX]; rfl
  have hall : ((w ++ t).take 0).all isD = true := rfl
  by_cases hc : isD ((w ++ t).getD 0 0) = true
  · obtain ⟨y1, y2⟩ := dig_yes hc
    obtain ⟨s1, s2⟩ := step_does x0 x1 hc
    have eX1 : X / 18446744073709551616 = 0 := by omega
    have eX2 : X % 18446744073709551616 = 0 := by omega
    rw [eX1, eX2] at s1
    by_cases hm : n = 0
    · have hlast := last_take hlen hm
      have hv := val_next hlen hc hx
      have ha := all_next hlen hc hall
      rw [hlast] at hv ha
      obtain ⟨z0, z1⟩ := next_range x0 x1 hc
      generalize hY : X * 10 + ((((w ++ t).getD 0 0).toNat - 48 : Nat) : Int) = Y at s2 hv z0 z1
      by_cases hg : ng = true
      · subst hg
        by_cases hz : Y = 0
        · have he : endR true (t.length : Int) (w ++ t) = (0, 0, 21) := end_zero ha (by omega)
          rw [he]
          exact prb_7 (bs := oL s) (s2 := oL w) (s3 := oL t) (h0 := q0) (h1 := q1) (h2 := q2) (h3 := rfl) (h4 := q4) (h5 := q5) (h6 := q6) (h7 := q7) (h8 := q8) (h9 := q9) (h10 := q10) (m := n) (h11 := y2) (h12 := s1) (h13 := s2) (h14 := by
              rw [oL_app, oL_size, wrap64 (by decide) (by decide)]
              simp only [decide_eq_false_iff_not]
              omega) (h15 := rfl) (h16 := zero_yes hz)
        · by_cases ho : Y / 18446744073709551616 > 0
          · have he : endR true (t.length : Int) (w ++ t) = (0, 0, 32) := end_over ha (by omega)
            rw [he]
            exact prb_8 (bs := oL s) (s2 := oL w) (s3 := oL t) (h0 := q0) (h1 := q1) (h2 := q2) (h3 := rfl) (h4 := q4) (h5 := q5) (h6 := q6) (h7 := q7) (h8 := q8) (h9 := q9) (h10 := q10) (m := n) (h11 := y2) (h12 := s1) (h13 := s2) (h14 := by
              rw [oL_app, oL_size, wrap64 (by decide) (by decide)]
              simp only [decide_eq_false_iff_not]
              omega) (h15 := rfl) (h16 := zero_no hz z0) (h17 := by simpa using ho)
          · have he : endR true (t.length : Int) (w ++ t) = fitP Y true (t.length : Int) := end_fit ha hv (by omega)
            rw [he]
            exact prb_9 (bs := oL s) (s2 := oL w) (s3 := oL t) (h0 := q0) (h1 := q1) (h2 := q2) (h3 := rfl) (h4 := q4) (h5 := q5) (h6 := q6) (h7 := q7) (h8 := q8) (h9 := q9) (h10 := q10) (m := n) (h11 := y2) (h12 := s1) (h13 := s2) (h14 := by
              rw [oL_app, oL_size, wrap64 (by decide) (by decide)]
              simp only [decide_eq_false_iff_not]
              omega) (h15 := rfl) (h16 := zero_no hz z0) (h17 := by simpa using ho) (h18 := by rw [esz]; exact pback_does z0 z1 true (t.length : Int))
      · have hg2 : ng = false := by simpa using hg
        subst hg2
        by_cases ho : Y / 18446744073709551616 > 0
        · have he : endR false (t.length : Int) (w ++ t) = (0, 0, 32) := end_over ha (by omega)
          rw [he]
          exact prb_10 (bs := oL s) (s2 := oL w) (s3 := oL t) (h0 := q0) (h1 := q1) (h2 := q2) (h3 := rfl) (h4 := q4) (h5 := q5) (h6 := q6) (h7 := q7) (h8 := q8) (h9 := q9) (h10 := q10) (m := n) (h11 := y2) (h12 := s1) (h13 := s2) (h14 := by
              rw [oL_app, oL_size, wrap64 (by decide) (by decide)]
              simp only [decide_eq_false_iff_not]
              omega) (h15 := rfl) (h16 := by simpa using ho)
        · have he : endR false (t.length : Int) (w ++ t) = fitP Y false (t.length : Int) := end_fit2 ha hv
          rw [he]
          exact prb_11 (bs := oL s) (s2 := oL w) (s3 := oL t) (h0 := q0) (h1 := q1) (h2 := q2) (h3 := rfl) (h4 := q4) (h5 := q5) (h6 := q6) (h7 := q7) (h8 := q8) (h9 := q9) (h10 := q10) (m := n) (h11 := y2) (h12 := s1) (h13 := s2) (h14 := by
              rw [oL_app, oL_size, wrap64 (by decide) (by decide)]
              simp only [decide_eq_false_iff_not]
              omega) (h15 := rfl) (h16 := by simpa using ho) (h17 := by rw [esz]; exact pback_does z0 z1 false (t.length : Int))
    · obtain ⟨k, rfl⟩ : ∃ k, n = k + 1 := ⟨n - 1, by omega⟩
      have h := prb_6 (bs := oL s) (s2 := oL w) (s3 := oL t) (h0 := q0) (h1 := q1) (h2 := q2) (h3 := rfl) (h4 := q4) (h5 := q5) (h6 := q6) (h7 := q7) (h8 := q8) (h9 := q9) (h10 := q10) (m := k + 1) (res := .v (ans (endR ng (t.length : Int) (w ++ t)))) (T' := []) (n' := 0) (h11 := y2) (h12 := s1) (h13 := s2) (h14 := by
              rw [oL_app, oL_size, wrap64 (by decide) (by decide)]
              simp only [decide_eq_true_eq]
              omega)
      rw [oL_app, esz, wrap64 (n := 0 + 1) (by decide) (by decide)] at h
      refine h ?_
      rw [inK_prK]
      exact pr_loop (by omega) ng (t.length : Int) k (0 + 1) _ _ (by omega) (inv_next hlen hc hall x0 hx)
  · have he : endR ng (t.length : Int) (w ++ t) = (0, 0, 21) := end_bad hlen (by simpa using hc)
    rw [he]
    exact prb_5 (bs := oL s) (s2 := oL w) (s3 := oL t) (h0 := q0) (h1 := q1) (h2 := q2) (h3 := rfl) (h4 := q4) (h5 := q5) (h6 := q6) (h7 := q7) (h8 := q8) (h9 := q9) (h10 := q10) (m := n) (h11 := dig_no (Bool.eq_false_iff.2 hc))
theorem first_B (n : Nat) (ng : Bool) (s w t : List UInt8) (hs : s.length ≤ 9223372036854775807) (hlen : (w ++ t).length = 0 + n + 1) (hw : (w ++ t).length ≤ s.length) (q0 : Does cE 56 [] 0 [.v (st (oL s)), .v (st (ByteArray.mk #[45]))] (.v (.tuple #[st (oL (bodyL s)), .bool ng])) [] 0) (q1 : Does cE 57 [] 0 [.v (st (oL (bodyL s))), .v (st (ByteArray.mk #[46]))] (.v (.tuple #[st (oL w), st (oL t), .bool true])) [] 0) (q2 : ((oL w).toList == (ByteArray.mk #[]).toList) = false) (q4 : ((oL t).toList == (ByteArray.mk #[]).toList) = false) (q5 : decide (((oL t).size : Int) > 6) = false) (q6 : decide (((oL w).size : Int) > 1) = false) :
    Fin cE Tryd.f37 0 (.v (ans (endR ng (t.length : Int) (w ++ t)))) [] 0 (scK psK (n + 1)) ([.v (st (oL s)), .na, .p 0 0, .v (it 0)] ++ List.replicate 92 .na) [(0, .box 24 [.v (it 0), .v (it 0)])] 1 := by
  have esz : ((oL t).size : Int) = (t.length : Int) := by rw [oL_size]
  have q9 : (oL w).size + (oL t).size ≤ 9223372036854775807 := by
    rw [oL_size, oL_size, ← List.length_append]
    omega
  have q10 : (0 : Int) ≤ 0 ∧ (0 : Int) < (((oL w ++ oL t).size : Nat) : Int) := by
    rw [oL_app, oL_size]
    omega
  have X0 : ∃ X : Int, X = 0 := ⟨0, rfl⟩
  obtain ⟨X, hX⟩ := X0
  have x0 : 0 ≤ X := by omega
  have x1 : X < 18446744073709551616 := by omega
  have hx : X = (valF 0 ((w ++ t).take 0) : Int) := by rw [hX]; rfl
  have hall : ((w ++ t).take 0).all isD = true := rfl
  by_cases hc : isD ((w ++ t).getD 0 0) = true
  · obtain ⟨y1, y2⟩ := dig_yes hc
    obtain ⟨s1, s2⟩ := step_does x0 x1 hc
    have eX1 : X / 18446744073709551616 = 0 := by omega
    have eX2 : X % 18446744073709551616 = 0 := by omega
    rw [eX1, eX2] at s1
    by_cases hm : n = 0
    · have hlast := last_take hlen hm
      have hv := val_next hlen hc hx
      have ha := all_next hlen hc hall
      rw [hlast] at hv ha
      obtain ⟨z0, z1⟩ := next_range x0 x1 hc
      generalize hY : X * 10 + ((((w ++ t).getD 0 0).toNat - 48 : Nat) : Int) = Y at s2 hv z0 z1
      by_cases hg : ng = true
      · subst hg
        by_cases hz : Y = 0
        · have he : endR true (t.length : Int) (w ++ t) = (0, 0, 21) := end_zero ha (by omega)
          rw [he]
          exact prb_14 (bs := oL s) (s2 := oL w) (s3 := oL t) (h0 := q0) (h1 := q1) (h2 := q2) (h3 := rfl) (h4 := q4) (h5 := q5) (h6 := q6) (h7 := q9) (h8 := q10) (m := n) (h9 := y2) (h10 := s1) (h11 := s2) (h12 := by
              rw [oL_app, oL_size, wrap64 (by decide) (by decide)]
              simp only [decide_eq_false_iff_not]
              omega) (h13 := rfl) (h14 := zero_yes hz)
        · by_cases ho : Y / 18446744073709551616 > 0
          · have he : endR true (t.length : Int) (w ++ t) = (0, 0, 32) := end_over ha (by omega)
            rw [he]
            exact prb_15 (bs := oL s) (s2 := oL w) (s3 := oL t) (h0 := q0) (h1 := q1) (h2 := q2) (h3 := rfl) (h4 := q4) (h5 := q5) (h6 := q6) (h7 := q9) (h8 := q10) (m := n) (h9 := y2) (h10 := s1) (h11 := s2) (h12 := by
              rw [oL_app, oL_size, wrap64 (by decide) (by decide)]
              simp only [decide_eq_false_iff_not]
              omega) (h13 := rfl) (h14 := zero_no hz z0) (h15 := by simpa using ho)
          · have he : endR true (t.length : Int) (w ++ t) = fitP Y true (t.length : Int) := end_fit ha hv (by omega)
            rw [he]
            exact prb_16 (bs := oL s) (s2 := oL w) (s3 := oL t) (h0 := q0) (h1 := q1) (h2 := q2) (h3 := rfl) (h4 := q4) (h5 := q5) (h6 := q6) (h7 := q9) (h8 := q10) (m := n) (h9 := y2) (h10 := s1) (h11 := s2) (h12 := by
              rw [oL_app, oL_size, wrap64 (by decide) (by decide)]
              simp only [decide_eq_false_iff_not]
              omega) (h13 := rfl) (h14 := zero_no hz z0) (h15 := by simpa using ho) (h16 := by rw [esz]; exact pback_does z0 z1 true (t.length : Int))
      · have hg2 : ng = false := by simpa using hg
        subst hg2
        by_cases ho : Y / 18446744073709551616 > 0
        · have he : endR false (t.length : Int) (w ++ t) = (0, 0, 32) := end_over ha (by omega)
          rw [he]
          exact prb_17 (bs := oL s) (s2 := oL w) (s3 := oL t) (h0 := q0) (h1 := q1) (h2 := q2) (h3 := rfl) (h4 := q4) (h5 := q5) (h6 := q6) (h7 := q9) (h8 := q10) (m := n) (h9 := y2) (h10 := s1) (h11 := s2) (h12 := by
              rw [oL_app, oL_size, wrap64 (by decide) (by decide)]
              simp only [decide_eq_false_iff_not]
              omega) (h13 := rfl) (h14 := by simpa using ho)
        · have he : endR false (t.length : Int) (w ++ t) = fitP Y false (t.length : Int) := end_fit2 ha hv
          rw [he]
          exact prb_18 (bs := oL s) (s2 := oL w) (s3 := oL t) (h0 := q0) (h1 := q1) (h2 := q2) (h3 := rfl) (h4 := q4) (h5 := q5) (h6 := q6) (h7 := q9) (h8 := q10) (m := n) (h9 := y2) (h10 := s1) (h11 := s2) (h12 := by
              rw [oL_app, oL_size, wrap64 (by decide) (by decide)]
              simp only [decide_eq_false_iff_not]
              omega) (h13 := rfl) (h14 := by simpa using ho) (h15 := by rw [esz]; exact pback_does z0 z1 false (t.length : Int))
    · obtain ⟨k, rfl⟩ : ∃ k, n = k + 1 := ⟨n - 1, by omega⟩
      have h := prb_13 (bs := oL s) (s2 := oL w) (s3 := oL t) (h0 := q0) (h1 := q1) (h2 := q2) (h3 := rfl) (h4 := q4) (h5 := q5) (h6 := q6) (h7 := q9) (h8 := q10) (m := k + 1) (res := .v (ans (endR ng (t.length : Int) (w ++ t)))) (T' := []) (n' := 0) (h9 := y2) (h10 := s1) (h11 := s2) (h12 := by
              rw [oL_app, oL_size, wrap64 (by decide) (by decide)]
              simp only [decide_eq_true_eq]
              omega)
      rw [oL_app, esz, wrap64 (n := 0 + 1) (by decide) (by decide)] at h
      refine h ?_
      rw [inK_prK]
      exact pr_loop (by omega) ng (t.length : Int) k (0 + 1) _ _ (by omega) (inv_next hlen hc hall x0 hx)
  · have he : endR ng (t.length : Int) (w ++ t) = (0, 0, 21) := end_bad hlen (by simpa using hc)
    rw [he]
    exact prb_12 (bs := oL s) (s2 := oL w) (s3 := oL t) (h0 := q0) (h1 := q1) (h2 := q2) (h3 := rfl) (h4 := q4) (h5 := q5) (h6 := q6) (h7 := q9) (h8 := q10) (m := n) (h9 := dig_no (Bool.eq_false_iff.2 hc))
theorem first_C (n : Nat) (ng : Bool) (s w t : List UInt8) (hs : s.length ≤ 9223372036854775807) (hlen : (w ++ t).length = 0 + n + 1) (hw : (w ++ t).length ≤ s.length) (q0 : Does cE 56 [] 0 [.v (st (oL s)), .v (st (ByteArray.mk #[45]))] (.v (.tuple #[st (oL (bodyL s)), .bool ng])) [] 0) (q1 : Does cE 57 [] 0 [.v (st (oL (bodyL s))), .v (st (ByteArray.mk #[46]))] (.v (.tuple #[st (oL w), st (oL t), .bool false])) [] 0) (q2 : ((oL w).toList == (ByteArray.mk #[]).toList) = false) (q5 : decide (((oL t).size : Int) > 6) = false) (q6 : decide (((oL w).size : Int) > 1) = true) (q7 : (0 : Int) ≤ 0 ∧ (0 : Int) < ((oL w).size : Int)) (q8 : ((((w.getD 0 0).toNat : Nat) : Int) == 48) = false) :
    Fin cE Tryd.f37 0 (.v (ans (endR ng (t.length : Int) (w ++ t)))) [] 0 (scK psK (n + 1)) ([.v (st (oL s)), .na, .p 0 0, .v (it 0)] ++ List.replicate 92 .na) [(0, .box 24 [.v (it 0), .v (it 0)])] 1 := by
  have esz : ((oL t).size : Int) = (t.length : Int) := by rw [oL_size]
  have q9 : (oL w).size + (oL t).size ≤ 9223372036854775807 := by
    rw [oL_size, oL_size, ← List.length_append]
    omega
  have q10 : (0 : Int) ≤ 0 ∧ (0 : Int) < (((oL w ++ oL t).size : Nat) : Int) := by
    rw [oL_app, oL_size]
    omega
  have X0 : ∃ X : Int, X = 0 := ⟨0, rfl⟩
  obtain ⟨X, hX⟩ := X0
  have x0 : 0 ≤ X := by omega
  have x1 : X < 18446744073709551616 := by omega
  have hx : X = (valF 0 ((w ++ t).take 0) : Int) := by rw [hX]; rfl
  have hall : ((w ++ t).take 0).all isD = true := rfl
  by_cases hc : isD ((w ++ t).getD 0 0) = true
  · obtain ⟨y1, y2⟩ := dig_yes hc
    obtain ⟨s1, s2⟩ := step_does x0 x1 hc
    have eX1 : X / 18446744073709551616 = 0 := by omega
    have eX2 : X % 18446744073709551616 = 0 := by omega
    rw [eX1, eX2] at s1
    by_cases hm : n = 0
    · have hlast := last_take hlen hm
      have hv := val_next hlen hc hx
      have ha := all_next hlen hc hall
      rw [hlast] at hv ha
      obtain ⟨z0, z1⟩ := next_range x0 x1 hc
      generalize hY : X * 10 + ((((w ++ t).getD 0 0).toNat - 48 : Nat) : Int) = Y at s2 hv z0 z1
      by_cases hg : ng = true
      · subst hg
        by_cases hz : Y = 0
        · have he : endR true (t.length : Int) (w ++ t) = (0, 0, 21) := end_zero ha (by omega)
          rw [he]
          exact prb_23 (bs := oL s) (s2 := oL w) (s3 := oL t) (h0 := q0) (h1 := q1) (h2 := q2) (h3 := rfl) (h4 := q5) (h5 := q6) (h6 := q7) (h7 := q8) (h8 := q9) (h9 := q10) (m := n) (h10 := y2) (h11 := s1) (h12 := s2) (h13 := by
              rw [oL_app, oL_size, wrap64 (by decide) (by decide)]
              simp only [decide_eq_false_iff_not]
              omega) (h14 := rfl) (h15 := zero_yes hz)
        · by_cases ho : Y / 18446744073709551616 > 0
          · have he : endR true (t.length : Int) (w ++ t) = (0, 0, 32) := end_over ha (by omega)
            rw [he]
            exact prb_24 (bs := oL s) (s2 := oL w) (s3 := oL t) (h0 := q0) (h1 := q1) (h2 := q2) (h3 := rfl) (h4 := q5) (h5 := q6) (h6 := q7) (h7 := q8) (h8 := q9) (h9 := q10) (m := n) (h10 := y2) (h11 := s1) (h12 := s2) (h13 := by
              rw [oL_app, oL_size, wrap64 (by decide) (by decide)]
              simp only [decide_eq_false_iff_not]
              omega) (h14 := rfl) (h15 := zero_no hz z0) (h16 := by simpa using ho)
          · have he : endR true (t.length : Int) (w ++ t) = fitP Y true (t.length : Int) := end_fit ha hv (by omega)
            rw [he]
            exact prb_25 (bs := oL s) (s2 := oL w) (s3 := oL t) (h0 := q0) (h1 := q1) (h2 := q2) (h3 := rfl) (h4 := q5) (h5 := q6) (h6 := q7) (h7 := q8) (h8 := q9) (h9 := q10) (m := n) (h10 := y2) (h11 := s1) (h12 := s2) (h13 := by
              rw [oL_app, oL_size, wrap64 (by decide) (by decide)]
              simp only [decide_eq_false_iff_not]
              omega) (h14 := rfl) (h15 := zero_no hz z0) (h16 := by simpa using ho) (h17 := by rw [esz]; exact pback_does z0 z1 true (t.length : Int))
      · have hg2 : ng = false := by simpa using hg
        subst hg2
        by_cases ho : Y / 18446744073709551616 > 0
        · have he : endR false (t.length : Int) (w ++ t) = (0, 0, 32) := end_over ha (by omega)
          rw [he]
          exact prb_26 (bs := oL s) (s2 := oL w) (s3 := oL t) (h0 := q0) (h1 := q1) (h2 := q2) (h3 := rfl) (h4 := q5) (h5 := q6) (h6 := q7) (h7 := q8) (h8 := q9) (h9 := q10) (m := n) (h10 := y2) (h11 := s1) (h12 := s2) (h13 := by
              rw [oL_app, oL_size, wrap64 (by decide) (by decide)]
              simp only [decide_eq_false_iff_not]
              omega) (h14 := rfl) (h15 := by simpa using ho)
        · have he : endR false (t.length : Int) (w ++ t) = fitP Y false (t.length : Int) := end_fit2 ha hv
          rw [he]
          exact prb_27 (bs := oL s) (s2 := oL w) (s3 := oL t) (h0 := q0) (h1 := q1) (h2 := q2) (h3 := rfl) (h4 := q5) (h5 := q6) (h6 := q7) (h7 := q8) (h8 := q9) (h9 := q10) (m := n) (h10 := y2) (h11 := s1) (h12 := s2) (h13 := by
              rw [oL_app, oL_size, wrap64 (by decide) (by decide)]
              simp only [decide_eq_false_iff_not]
              omega) (h14 := rfl) (h15 := by simpa using ho) (h16 := by rw [esz]; exact pback_does z0 z1 false (t.length : Int))
    · obtain ⟨k, rfl⟩ : ∃ k, n = k + 1 := ⟨n - 1, by omega⟩
      have h := prb_22 (bs := oL s) (s2 := oL w) (s3 := oL t) (h0 := q0) (h1 := q1) (h2 := q2) (h3 := rfl) (h4 := q5) (h5 := q6) (h6 := q7) (h7 := q8) (h8 := q9) (h9 := q10) (m := k + 1) (res := .v (ans (endR ng (t.length : Int) (w ++ t)))) (T' := []) (n' := 0) (h10 := y2) (h11 := s1) (h12 := s2) (h13 := by
              rw [oL_app, oL_size, wrap64 (by decide) (by decide)]
              simp only [decide_eq_true_eq]
              omega)
      rw [oL_app, esz, wrap64 (n := 0 + 1) (by decide) (by decide)] at h
      refine h ?_
      rw [inK_prK]
      exact pr_loop (by omega) ng (t.length : Int) k (0 + 1) _ _ (by omega) (inv_next hlen hc hall x0 hx)
  · have he : endR ng (t.length : Int) (w ++ t) = (0, 0, 21) := end_bad hlen (by simpa using hc)
    rw [he]
    exact prb_21 (bs := oL s) (s2 := oL w) (s3 := oL t) (h0 := q0) (h1 := q1) (h2 := q2) (h3 := rfl) (h4 := q5) (h5 := q6) (h6 := q7) (h7 := q8) (h8 := q9) (h9 := q10) (m := n) (h10 := dig_no (Bool.eq_false_iff.2 hc))
theorem first_D (n : Nat) (ng : Bool) (s w t : List UInt8) (hs : s.length ≤ 9223372036854775807) (hlen : (w ++ t).length = 0 + n + 1) (hw : (w ++ t).length ≤ s.length) (q0 : Does cE 56 [] 0 [.v (st (oL s)), .v (st (ByteArray.mk #[45]))] (.v (.tuple #[st (oL (bodyL s)), .bool ng])) [] 0) (q1 : Does cE 57 [] 0 [.v (st (oL (bodyL s))), .v (st (ByteArray.mk #[46]))] (.v (.tuple #[st (oL w), st (oL t), .bool false])) [] 0) (q2 : ((oL w).toList == (ByteArray.mk #[]).toList) = false) (q5 : decide (((oL t).size : Int) > 6) = false) (q6 : decide (((oL w).size : Int) > 1) = false) :
    Fin cE Tryd.f37 0 (.v (ans (endR ng (t.length : Int) (w ++ t)))) [] 0 (scK psK (n + 1)) ([.v (st (oL s)), .na, .p 0 0, .v (it 0)] ++ List.replicate 92 .na) [(0, .box 24 [.v (it 0), .v (it 0)])] 1 := by
  have esz : ((oL t).size : Int) = (t.length : Int) := by rw [oL_size]
  have q9 : (oL w).size + (oL t).size ≤ 9223372036854775807 := by
    rw [oL_size, oL_size, ← List.length_append]
    omega
  have q10 : (0 : Int) ≤ 0 ∧ (0 : Int) < (((oL w ++ oL t).size : Nat) : Int) := by
    rw [oL_app, oL_size]
    omega
  have X0 : ∃ X : Int, X = 0 := ⟨0, rfl⟩
  obtain ⟨X, hX⟩ := X0
  have x0 : 0 ≤ X := by omega
  have x1 : X < 18446744073709551616 := by omega
  have hx : X = (valF 0 ((w ++ t).take 0) : Int) := by rw [hX]; rfl
  have hall : ((w ++ t).take 0).all isD = true := rfl
  by_cases hc : isD ((w ++ t).getD 0 0) = true
  · obtain ⟨y1, y2⟩ := dig_yes hc
    obtain ⟨s1, s2⟩ := step_does x0 x1 hc
    have eX1 : X / 18446744073709551616 = 0 := by omega
    have eX2 : X % 18446744073709551616 = 0 := by omega
    rw [eX1, eX2] at s1
    by_cases hm : n = 0
    · have hlast := last_take hlen hm
      have hv := val_next hlen hc hx
      have ha := all_next hlen hc hall
      rw [hlast] at hv ha
      obtain ⟨z0, z1⟩ := next_range x0 x1 hc
      generalize hY : X * 10 + ((((w ++ t).getD 0 0).toNat - 48 : Nat) : Int) = Y at s2 hv z0 z1
      by_cases hg : ng = true
      · subst hg
        by_cases hz : Y = 0
        · have he : endR true (t.length : Int) (w ++ t) = (0, 0, 21) := end_zero ha (by omega)
          rw [he]
          exact prb_30 (bs := oL s) (s2 := oL w) (s3 := oL t) (h0 := q0) (h1 := q1) (h2 := q2) (h3 := rfl) (h4 := q5) (h5 := q6) (h6 := q9) (h7 := q10) (m := n) (h8 := y2) (h9 := s1) (h10 := s2) (h11 := by
              rw [oL_app, oL_size, wrap64 (by decide) (by decide)]
              simp only [decide_eq_false_iff_not]
              omega) (h12 := rfl) (h13 := zero_yes hz)
        · by_cases ho : Y / 18446744073709551616 > 0
          · have he : endR true (t.length : Int) (w ++ t) = (0, 0, 32) := end_over ha (by omega)
            rw [he]
            exact prb_31 (bs := oL s) (s2 := oL w) (s3 := oL t) (h0 := q0) (h1 := q1) (h2 := q2) (h3 := rfl) (h4 := q5) (h5 := q6) (h6 := q9) (h7 := q10) (m := n) (h8 := y2) (h9 := s1) (h10 := s2) (h11 := by
              rw [oL_app, oL_size, wrap64 (by decide) (by decide)]
              simp only [decide_eq_false_iff_not]
              omega) (h12 := rfl) (h13 := zero_no hz z0) (h14 := by simpa using ho)
          · have he : endR true (t.length : Int) (w ++ t) = fitP Y true (t.length : Int) := end_fit ha hv (by omega)
            rw [he]
            exact prb_32 (bs := oL s) (s2 := oL w) (s3 := oL t) (h0 := q0) (h1 := q1) (h2 := q2) (h3 := rfl) (h4 := q5) (h5 := q6) (h6 := q9) (h7 := q10) (m := n) (h8 := y2) (h9 := s1) (h10 := s2) (h11 := by
              rw [oL_app, oL_size, wrap64 (by decide) (by decide)]
              simp only [decide_eq_false_iff_not]
              omega) (h12 := rfl) (h13 := zero_no hz z0) (h14 := by simpa using ho) (h15 := by rw [esz]; exact pback_does z0 z1 true (t.length : Int))
      · have hg2 : ng = false := by simpa using hg
        subst hg2
        by_cases ho : Y / 18446744073709551616 > 0
        · have he : endR false (t.length : Int) (w ++ t) = (0, 0, 32) := end_over ha (by omega)
          rw [he]
          exact prb_33 (bs := oL s) (s2 := oL w) (s3 := oL t) (h0 := q0) (h1 := q1) (h2 := q2) (h3 := rfl) (h4 := q5) (h5 := q6) (h6 := q9) (h7 := q10) (m := n) (h8 := y2) (h9 := s1) (h10 := s2) (h11 := by
              rw [oL_app, oL_size, wrap64 (by decide) (by decide)]
              simp only [decide_eq_false_iff_not]
              omega) (h12 := rfl) (h13 := by simpa using ho)
        · have he : endR false (t.length : Int) (w ++ t) = fitP Y false (t.length : Int) := end_fit2 ha hv
          rw [he]
          exact prb_34 (bs := oL s) (s2 := oL w) (s3 := oL t) (h0 := q0) (h1 := q1) (h2 := q2) (h3 := rfl) (h4 := q5) (h5 := q6) (h6 := q9) (h7 := q10) (m := n) (h8 := y2) (h9 := s1) (h10 := s2) (h11 := by
              rw [oL_app, oL_size, wrap64 (by decide) (by decide)]
              simp only [decide_eq_false_iff_not]
              omega) (h12 := rfl) (h13 := by simpa using ho) (h14 := by rw [esz]; exact pback_does z0 z1 false (t.length : Int))
    · obtain ⟨k, rfl⟩ : ∃ k, n = k + 1 := ⟨n - 1, by omega⟩
      have h := prb_29 (bs := oL s) (s2 := oL w) (s3 := oL t) (h0 := q0) (h1 := q1) (h2 := q2) (h3 := rfl) (h4 := q5) (h5 := q6) (h6 := q9) (h7 := q10) (m := k + 1) (res := .v (ans (endR ng (t.length : Int) (w ++ t)))) (T' := []) (n' := 0) (h8 := y2) (h9 := s1) (h10 := s2) (h11 := by
              rw [oL_app, oL_size, wrap64 (by decide) (by decide)]
              simp only [decide_eq_true_eq]
              omega)
      rw [oL_app, esz, wrap64 (n := 0 + 1) (by decide) (by decide)] at h
      refine h ?_
      rw [inK_prK]
      exact pr_loop (by omega) ng (t.length : Int) k (0 + 1) _ _ (by omega) (inv_next hlen hc hall x0 hx)
  · have he : endR ng (t.length : Int) (w ++ t) = (0, 0, 21) := end_bad hlen (by simpa using hc)
    rw [he]
    exact prb_28 (bs := oL s) (s2 := oL w) (s3 := oL t) (h0 := q0) (h1 := q1) (h2 := q2) (h3 := rfl) (h4 := q5) (h5 := q6) (h6 := q9) (h7 := q10) (m := n) (h8 := dig_no (Bool.eq_false_iff.2 hc))
end Go.Proofs.YtcneenlcbjicnaaDoorC
/- The program's Parse, at every text: joined. -/
namespace Go.Proofs.YtcneenlcbjicnaaDoorC
open Go.Proofs Go.Proofs.YtcneenlcbjicnaaDoorSx Go.RowKit Go.Sort Go.Lib
set_option maxRecDepth 100000
set_option linter.unusedVariables false
set_option linter.unusedSimpArgs false
theorem empty_list : (ByteArray.mk #[]).toList = [] := oL_toList []
theorem ne_empty {l : List UInt8} (h : l ≠ []) : ((oL l).toList == (ByteArray.mk #[]).toList) = false := by
  rw [oL_toList, empty_list]
  cases l with
  | nil => exact (h rfl).elim
  | cons a r => rfl
theorem is_empty {l : List UInt8} (h : l = []) : ((oL l).toList == (ByteArray.mk #[]).toList) = true := by
  rw [oL_toList, empty_list, h]
  rfl
theorem head_eq {w : List UInt8} (h : w ≠ []) : ((((w.getD 0 0).toNat : Nat) : Int) == 48) = decide (w.head? = some 48) := by
  cases w with
  | nil => exact (h rfl).elim
  | cons c r =>
    simp only [List.getD_cons_zero, List.head?_cons, Option.some.injEq]
    by_cases hc : c = 48
    · subst hc
      rfl
    · have : ¬ ((c.toNat : Nat) : Int) = 48 := by
        intro e
        apply hc
        apply UInt8.toNat_inj.1
        have e48 : (48 : UInt8).toNat = 48 := rfl
        omega
      have h2 : (((c.toNat : Nat) : Int) == 48) = false := by simpa using this
      rw [h2]
      simp [hc]
theorem body_len (s : List UInt8) : (bodyL s).length ≤ s.length := by
  unfold bodyL
  split
  · simp
  · exact Nat.le_refl _
theorem sp_le (l : List UInt8) : ((sp l).1 ++ (sp l).2.getD []).length ≤ l.length := by
  cases h : (sp l).2 with
  | none =>
    have := congrArg List.length (sp_back l)
    rw [h] at this
    simp at this ⊢
    omega
  | some p =>
    have := sp_len l p h
    simp
    omega
theorem parse_does (s : List UInt8) (hs : s.length ≤ 9223372036854775807) : Does cE 37 [] 0 [.v (st (oL s))] (.v (ans (parseL s))) [] 0 := by
  refine does_of_fin (fn := Tryd.f37) (c := bd Tryd.f37) rfl (by kernel_rfl) rfl ?_
  refine pra_1 (oL s) _ _ _ ?_
  have q0 := cutp_does s
  have hbl := body_len s
  have q1 := cut_does (bodyL s) (by omega)
  have hsl := sp_le (bodyL s)
  unfold parseL
  generalize hw : (sp (bodyL s)).1 = w at q1 hsl ⊢
  generalize hp : (sp (bodyL s)).2 = p at q1 hsl ⊢
  generalize hng : sgn s = ng at q0 ⊢
  by_cases w0 : w = []
  · rw [p_rule1 ng (.inl w0)]
    exact fin_scope (0 + 1) (prb_1 (bs := oL s) (m := 0) (h0 := q0) (h1 := q1) (h2 := is_empty w0))
  have q2 := ne_empty w0
  have hlw : 0 < w.length := by
    cases w with
    | nil => exact (w0 rfl).elim
    | cons a r => simp
  have q7 : (0 : Int) ≤ 0 ∧ (0 : Int) < ((oL w).size : Int) := by rw [oL_size]; omega
  cases p with
  | none =>
    simp only [Option.getD_none, Option.isSome_none] at q1 hsl
    have q5 : decide (((oL []).size : Int) > 6) = false := rfl
    by_cases hl : 1 < w.length
    · have q6 : decide (((oL w).size : Int) > 1) = true := by rw [oL_size]; simp; omega
      by_cases h48 : w.head? = some 48
      · rw [p_rule1 ng (.inr (.inr (.inr (.inl ⟨hl, h48⟩))))]
        exact fin_scope (0 + 1) (prb_20 (bs := oL s) (m := 0) (s2 := oL w) (h0 := q0) (h1 := q1) (h2 := q2) (h3 := rfl) (h4 := q5) (h5 := q6) (h6 := q7) (h7 := (head_eq w0).trans (by simpa using h48)))
      · rw [p_end w0 (by simp) (by simp) (by rintro ⟨_, e⟩; exact h48 e)]
        exact fin_scope (w.length - 1 + 1) (first_C (w.length - 1) ng s w [] hs (by simp; omega) (by omega) q0 q1 q2 q5 q6 q7 ((head_eq w0).trans (by simpa using h48)))
    · have q6 : decide (((oL w).size : Int) > 1) = false := by rw [oL_size]; simp; omega
      rw [p_end w0 (by simp) (by simp) (by rintro ⟨e, _⟩; exact hl e)]
      exact fin_scope (w.length - 1 + 1) (first_D (w.length - 1) ng s w [] hs (by simp; omega) (by omega) q0 q1 q2 q5 q6)
  | some t =>
    simp only [Option.getD_some, Option.isSome_some] at q1 hsl
    by_cases t0 : t = []
    · subst t0
      rw [p_rule1 ng (.inr (.inl rfl))]
      exact fin_scope (0 + 1) (prb_2 (bs := oL s) (m := 0) (h0 := q0) (h1 := q1) (h2 := q2) (h3 := rfl) (h4 := is_empty rfl))
    have q4 := ne_empty t0
    by_cases t6 : 6 < t.length
    · have q5 : decide (((oL t).size : Int) > 6) = true := by rw [oL_size]; simp; omega
      rw [p_rule1 ng (p := some t) (.inr (.inr (.inl (by simpa using t6))))]
      exact fin_scope (0 + 1) (prb_3 (bs := oL s) (m := 0) (h0 := q0) (h1 := q1) (h2 := q2) (h3 := rfl) (h4 := q4) (h5 := q5))
    have q5 : decide (((oL t).size : Int) > 6) = false := by rw [oL_size]; simp; omega
    have tt : some t ≠ some [] := by simpa using t0
    by_cases hl : 1 < w.length
    · have q6 : decide (((oL w).size : Int) > 1) = true := by rw [oL_size]; simp; omega
      by_cases h48 : w.head? = some 48
      · rw [p_rule1 ng (.inr (.inr (.inr (.inl ⟨hl, h48⟩))))]
        exact fin_scope (0 + 1) (prb_4 (bs := oL s) (m := 0) (s2 := oL w) (h0 := q0) (h1 := q1) (h2 := q2) (h3 := rfl) (h4 := q4) (h5 := q5) (h6 := q6) (h7 := q7) (h8 := (head_eq w0).trans (by simpa using h48)))
      · rw [p_end w0 tt (by simp; omega) (by rintro ⟨_, e⟩; exact h48 e)]
        exact fin_scope ((w ++ t).length - 1 + 1) (first_A ((w ++ t).length - 1) ng s w t hs (by simp; omega) (by omega) q0 q1 q2 q4 q5 q6 q7 ((head_eq w0).trans (by simpa using h48)))
    · have q6 : decide (((oL w).size : Int) > 1) = false := by rw [oL_size]; simp; omega
      rw [p_end w0 tt (by simp; omega) (by rintro ⟨e, _⟩; exact hl e)]
      exact fin_scope ((w ++ t).length - 1 + 1) (first_B ((w ++ t).length - 1) ng s w t hs (by simp; omega) (by omega) q0 q1 q2 q4 q5 q6)
end Go.Proofs.YtcneenlcbjicnaaDoorC
