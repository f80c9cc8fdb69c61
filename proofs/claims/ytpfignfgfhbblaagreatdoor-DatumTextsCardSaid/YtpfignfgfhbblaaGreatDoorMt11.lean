import Derived.Test.YtpfignfgfhbblaaGreatDoorMt10
import Derived.Test.YtpfignfgfhbblaaGreatDoorMt09
import Derived.Test.YtpfignfgfhbblaaGreatDoorMt05
import Derived.KernelRfl
import Derived.Shelf.Strings.Replace
import Derived.Shelf.Strings.SplitShaped
import Derived.Shelf.LaysM
import Derived.Ground.NamesProg
import Derived.Test.YtpfignfgfhbblaaGreatDoorProg
import Derived.Lib.SplitLaws
/- The reference's Parse, at every text. Written by a program (wip/dec/gentf.py). -/
namespace Go.Proofs.YtpfignfgfhbblaaGreatDoorC
open Go.Proofs Go.Proofs.YtpfignfgfhbblaaGreatDoorSx Go.RowKit Go.Sort Go.Lib
set_option maxRecDepth 100000
set_option linter.unusedVariables false
set_option linter.unusedSimpArgs false
theorem valD_pow : ∀ (l : List UInt8) (a : Nat), valD a l = a * 10 ^ l.length + valD 0 l
  | [], a => by simp [valD]
  | c :: r, a => by
    have h1 := valD_pow r (10 * a + (c.toNat - 48))
    have h2 := valD_pow r (10 * 0 + (c.toNat - 48))
    show valD (10 * a + (c.toNat - 48)) r = a * 10 ^ (r.length + 1) + valD (10 * 0 + (c.toNat - 48)) r
    rw [h1, h2, Nat.pow_succ]
    grind
theorem val_lt : ∀ (l : List UInt8), l.all isD = true → valD 0 l < 10 ^ l.length
  | [], _ => by simp [valD]
  | c :: r, h => by
    simp only [List.all_cons, Bool.and_eq_true] at h
    have ih := val_lt r h.2
    have hd := isD_le h.1
    show valD (10 * 0 + (c.toNat - 48)) r < 10 ^ (r.length + 1)
    rw [valD_pow, Nat.pow_succ]
    have : (10 * 0 + (c.toNat - 48)) * 10 ^ r.length ≤ 9 * 10 ^ r.length := Nat.mul_le_mul_right _ (by omega)
    omega
theorem val_ge {c : UInt8} {r : List UInt8} (hc : isD c = true) (h : c ≠ 48) : 10 ^ r.length ≤ valD 0 (c :: r) := by
  have hd : 1 ≤ c.toNat - 48 := by
    unfold isD at hc
    simp only [decide_eq_true_eq] at hc
    have : c.toNat ≠ 48 := fun e => h (UInt8.toNat_inj.1 e)
    omega
  show 10 ^ r.length ≤ valD (10 * 0 + (c.toNat - 48)) r
  rw [valD_pow]
  have : 1 * 10 ^ r.length ≤ (10 * 0 + (c.toNat - 48)) * 10 ^ r.length := Nat.mul_le_mul_right _ (by omega)
  omega
theorem over40 (ng : Bool) {w : List UInt8} {p : Option (List UInt8)} (h1 : w ≠ []) (h2 : p ≠ some []) (h3 : (p.getD []).length ≤ 6) (h4 : ¬ (1 < w.length ∧ w.head? = some 48)) (h5 : (w ++ p.getD []).all isD = true) (h : 40 < (w ++ p.getD []).length) : parseB ng w p = (0, 0, 32) := by
  rw [p_end h1 h2 h3 h4]
  refine end_over h5 ?_
  have hl : 1 < w.length := by
    rw [List.length_append] at h
    omega
  cases w with
  | nil => exact (h1 rfl).elim
  | cons c r =>
    have hc : c ≠ 48 := by
      intro e
      subst e
      exact h4 ⟨hl, rfl⟩
    have hd : isD c = true := by
      rw [List.cons_append, List.all_cons, Bool.and_eq_true] at h5
      exact h5.1
    have hg := val_ge (r := r ++ p.getD []) hd hc
    have hp : 10 ^ 40 ≤ 10 ^ (r ++ p.getD []).length := Nat.pow_le_pow_right (by decide) (by
      rw [List.cons_append, List.length_cons] at h
      omega)
    rw [List.cons_append]
    have : (18446744073709551616 : Nat) ≤ 10 ^ 40 := by decide
    omega
theorem zero_v {v : Int} (h0 : 0 ≤ v) (h1 : v < big192) (s : Bool) (hz : v = 0) : Does cE 104 [] 0 [.v (W v s)] (.v (.bool true)) [] 0 := by
  have h := zero_does (dg_dig v) s
  rw [val_W v h0 h1] at h
  simpa [hz] using h
theorem zero_n {v : Int} (h0 : 0 ≤ v) (h1 : v < big192) (s : Bool) (hz : v ≠ 0) : Does cE 104 [] 0 [.v (W v s)] (.v (.bool false)) [] 0 := by
  have h := zero_does (dg_dig v) s
  rw [val_W v h0 h1] at h
  have e : decide (v = 0) = false := by simpa using hz
  rw [e] at h
  exact h
/-- What stands behind the whole part. -/
def sepL : Option (List UInt8) → List UInt8
  | none => []
  | some q => 46 :: q
theorem drop_getD {s l : List UInt8} {a : Nat} (h : s.drop a = l) (j : Nat) : s.getD (a + j) 0 = l.getD j 0 := by
  rw [← h, List.getD_eq_getElem?_getD, List.getD_eq_getElem?_getD, List.getElem?_drop]
theorem drop_len {s l : List UInt8} {a : Nat} (h : s.drop a = l) (ha : a ≤ s.length) : s.length = a + l.length := by
  rw [← h, List.length_drop]
  omega
/-- Where the reference's loop stands. -/
structure RInv (s : List UInt8) (f : Nat) (w : List UInt8) (p : Option (List UInt8)) (r : List UInt8) (v : Int) : Prop where
  fle : f ≤ s.length
  dr : s.drop f = w ++ (sepL p ++ r)
  all : (w ++ p.getD []).all isD = true
  wp : p.isSome = true → w ≠ []
  h0 : 0 ≤ v
  h1 : v < big192
  hv : (w ++ p.getD []).length ≤ 40 → v = (valD 0 (w ++ p.getD []) : Int)
abbrev qrS (s : List UInt8) (f : Nat) (pt : Int) (n i : Nat) : List SV := [.v (st (oL s)), .na, .p 0 0, .v (it 0), .p 1 0, .v (it f), .v (it pt), .v (it n), .v (it i)] ++ List.replicate 113 .na
theorem head_q {w : List UInt8} {s l : List UInt8} {f : Nat} (h : s.drop f = w ++ l) (hw : w ≠ []) : ((((s.getD f 0).toNat : Nat) : Int) == 48) = decide (w.head? = some 48) := by
  have := drop_getD h 0
  rw [Nat.add_zero] at this
  rw [this, ← head_eq hw]
  cases w with
  | nil => exact (hw rfl).elim
  | cons c r => rfl
abbrev ptR (f : Nat) (w : List UInt8) (p : Option (List UInt8)) : Int := match p with
  | none => -1
  | some _ => (f : Int) + w.length
theorem q_end {s : List UInt8} (hs : s.length ≤ 9223372036854775807) {f : Nat} {w : List UInt8} {p : Option (List UInt8)} {v : Int} (hi : RInv s f w p [] v) (m : Nat) :
    Fin cE Tryz.f49 0 (.v (ans (parseB (((f : Nat) : Int) == 1) w p))) [] 0 (bodyK qrK m) (qrS s f (ptR f w p) (w ++ p.getD []).length s.length) (qT (dg 6 v)) 2 := by
  have hlen := drop_len hi.dr hi.fle
  have h0 := hi.h0
  have h1 := hi.h1
  have hv := hi.hv
  have b5 := hi.all
  have hdr := hi.dr
  generalize hN : (w ++ p.getD []).length = N at hv
  have hsz : decide (((s.length : Nat) : Int) < ((oL s).size : Int)) = false := by rw [oL_size]; simp
  have osz := oL_size s
  cases p with
  | none =>
    simp only [sepL, List.append_nil, Option.getD_none, List.nil_append] at hlen hdr hN b5 hv ⊢
    subst hN
    have n0 : decide ((-1 : Int) ≥ 0) = false := rfl
    by_cases w0 : w = []
    · rw [p_rule1 _ (.inl w0)]
      exact qrb_32 (bs := oL s) (a := dg 6 v) (fr := f) (m := m) (h0 := hsz) (h1 := n0) (h2 := by simp [w0])
    have hw1 : 0 < w.length := by
      cases w with
      | nil => exact (w0 rfl).elim
      | cons c r => simp
    have n2 : ((((w.length : Nat)) : Int) == 0) = false := by simp; omega
    have n3 : ((-1 : Int) == IntKind.i64.wrap (((oL s).size : Int) - 1)) = false := by
      rw [osz, wrap64 (by omega) (by omega)]
      simp
      omega
    have b2 : (none : Option (List UInt8)) ≠ some [] := by simp
    have b3 : ((none : Option (List UInt8)).getD []).length ≤ 6 := by simp
    have b6 : (0 : Int) ≤ (f : Int) ∧ (f : Int) < ((oL s).size : Int) := by rw [osz]; omega
    have e1 : IntKind.i64.wrap (0 + 1) = 1 := rfl
    have hhq := head_q (l := []) (by simpa using hdr) w0
    have b5' : (w ++ (none : Option (List UInt8)).getD []).all isD = true := by simpa using b5
    by_cases hl : 1 < w.length
    · have n4 : decide ((((w.length : Nat)) : Int) > IntKind.i64.wrap (0 + 1)) = true := by rw [e1]; simp; omega
      by_cases h48 : w.head? = some 48
      · rw [p_rule1 _ (.inr (.inr (.inr (.inl ⟨hl, h48⟩))))]
        exact qrb_34 (bs := oL s) (a := dg 6 v) (m := m) (h0 := hsz) (h1 := n0) (h2 := n2) (h3 := n3) (h4 := n4) (h5 := b6) (h6 := hhq.trans (by simpa using h48))
      · have b4 : ¬ (1 < w.length ∧ w.head? = some 48) := by rintro ⟨_, e⟩; exact h48 e
        by_cases hg : (((f : Nat) : Int) == 1) = true
        · by_cases hz : v = 0
          · have z := zero_v h0 h1 true hz
            by_cases h40 : w.length ≤ 40
            · rw [p_rule2 (ng := (((f : Nat) : Int) == 1)) ⟨hg, by have := hv h40; simp at this ⊢; omega⟩]
              exact qrb_35 (bs := oL s) (a := dg 6 v) (m := m) (h0 := hsz) (h1 := n0) (h2 := n2) (h3 := n3) (h4 := n4) (h5 := b6) (h6 := hhq.trans (by simpa using h48)) (h7 := hg) (h8 := zero_v h0 h1 false hz) (h9 := rfl) (h10 := by simp; omega)
            · rw [over40 (((f : Nat) : Int) == 1) w0 b2 b3 b4 b5' (by simp; omega)]
              exact qrb_36 (bs := oL s) (a := dg 6 v) (m := m) (h0 := hsz) (h1 := n0) (h2 := n2) (h3 := n3) (h4 := n4) (h5 := b6) (h6 := hhq.trans (by simpa using h48)) (h7 := hg) (h8 := zero_v h0 h1 false hz) (h9 := rfl) (h10 := by simp; omega) (h11 := by simp; omega)
          · have z := zero_n h0 h1 false hz
            by_cases h40 : w.length ≤ 40
            · have e : v = ((valD 0 (w ++ (none : Option (List UInt8)).getD []) : Nat) : Int) := by simpa using hv h40
              rw [p_rule3 w0 b2 b3 b4 b5' (by rintro ⟨_, e2⟩; omega), ← e]
              exact qrb_39 (bs := oL s) (a := dg 6 v) (m := m) (h0 := hsz) (h1 := n0) (h2 := n2) (h3 := n3) (h4 := n4) (h5 := b6) (h6 := hhq.trans (by simpa using h48)) (h7 := hg) (h8 := z) (h9 := rfl) (h10 := by simp; omega) (h11 := rback_does h0 h1 (((f : Nat) : Int) == 1) 0)
            · rw [over40 (((f : Nat) : Int) == 1) w0 b2 b3 b4 b5' (by simp; omega)]
              exact qrb_38 (bs := oL s) (a := dg 6 v) (m := m) (h0 := hsz) (h1 := n0) (h2 := n2) (h3 := n3) (h4 := n4) (h5 := b6) (h6 := hhq.trans (by simpa using h48)) (h7 := hg) (h8 := z) (h9 := rfl) (h10 := by simp; omega)
        · have hg2 : (((f : Nat) : Int) == 1) = false := by simpa using hg
          by_cases h40 : w.length ≤ 40
          · have e : v = ((valD 0 (w ++ (none : Option (List UInt8)).getD []) : Nat) : Int) := by simpa using hv h40
            rw [p_rule3 w0 b2 b3 b4 b5' (by rintro ⟨e2, _⟩; exact hg e2), ← e]
            exact qrb_41 (bs := oL s) (a := dg 6 v) (m := m) (h0 := hsz) (h1 := n0) (h2 := n2) (h3 := n3) (h4 := n4) (h5 := b6) (h6 := hhq.trans (by simpa using h48)) (h7 := hg2) (h8 := by simp; omega) (h9 := rback_does h0 h1 (((f : Nat) : Int) == 1) 0)
          · rw [over40 (((f : Nat) : Int) == 1) w0 b2 b3 b4 b5' (by simp; omega)]
            exact qrb_40 (bs := oL s) (a := dg 6 v) (m := m) (h0 := hsz) (h1 := n0) (h2 := n2) (h3 := n3) (h4 := n4) (h5 := b6) (h6 := hhq.trans (by simpa using h48)) (h7 := hg2) (h8 := by simp; omega)
    · have n4 : decide ((((w.length : Nat)) : Int) > IntKind.i64.wrap (0 + 1)) = false := by rw [e1]; simp; omega
      have b4 : ¬ (1 < w.length ∧ w.head? = some 48) := by rintro ⟨e, _⟩; exact hl e
      by_cases hg : (((f : Nat) : Int) == 1) = true
      · by_cases hz : v = 0
        · have z := zero_v h0 h1 true hz
          by_cases h40 : w.length ≤ 40
          · rw [p_rule2 (ng := (((f : Nat) : Int) == 1)) ⟨hg, by have := hv h40; simp at this ⊢; omega⟩]
            exact qrb_42 (bs := oL s) (a := dg 6 v) (m := m) (h0 := hsz) (h1 := n0) (h2 := n2) (h3 := n3) (h4 := n4) (h5 := hg) (h6 := zero_v h0 h1 false hz) (h7 := rfl) (h8 := by simp; omega)
          · rw [over40 (((f : Nat) : Int) == 1) w0 b2 b3 b4 b5' (by simp; omega)]
            exact qrb_43 (bs := oL s) (a := dg 6 v) (m := m) (h0 := hsz) (h1 := n0) (h2 := n2) (h3 := n3) (h4 := n4) (h5 := hg) (h6 := zero_v h0 h1 false hz) (h7 := rfl) (h8 := by simp; omega) (h9 := by simp; omega)
        · have z := zero_n h0 h1 false hz
          by_cases h40 : w.length ≤ 40
          · have e : v = ((valD 0 (w ++ (none : Option (List UInt8)).getD []) : Nat) : Int) := by simpa using hv h40
            rw [p_rule3 w0 b2 b3 b4 b5' (by rintro ⟨_, e2⟩; omega), ← e]
            exact qrb_46 (bs := oL s) (a := dg 6 v) (m := m) (h0 := hsz) (h1 := n0) (h2 := n2) (h3 := n3) (h4 := n4) (h5 := hg) (h6 := z) (h7 := rfl) (h8 := by simp; omega) (h9 := rback_does h0 h1 (((f : Nat) : Int) == 1) 0)
          · rw [over40 (((f : Nat) : Int) == 1) w0 b2 b3 b4 b5' (by simp; omega)]
            exact qrb_45 (bs := oL s) (a := dg 6 v) (m := m) (h0 := hsz) (h1 := n0) (h2 := n2) (h3 := n3) (h4 := n4) (h5 := hg) (h6 := z) (h7 := rfl) (h8 := by simp; omega)
      · have hg2 : (((f : Nat) : Int) == 1) = false := by simpa using hg
        by_cases h40 : w.length ≤ 40
        · have e : v = ((valD 0 (w ++ (none : Option (List UInt8)).getD []) : Nat) : Int) := by simpa using hv h40
          rw [p_rule3 w0 b2 b3 b4 b5' (by rintro ⟨e2, _⟩; exact hg e2), ← e]
          exact qrb_48 (bs := oL s) (a := dg 6 v) (m := m) (h0 := hsz) (h1 := n0) (h2 := n2) (h3 := n3) (h4 := n4) (h5 := hg2) (h6 := by simp; omega) (h7 := rback_does h0 h1 (((f : Nat) : Int) == 1) 0)
        · rw [over40 (((f : Nat) : Int) == 1) w0 b2 b3 b4 b5' (by simp; omega)]
          exact qrb_47 (bs := oL s) (a := dg 6 v) (m := m) (h0 := hsz) (h1 := n0) (h2 := n2) (h3 := n3) (h4 := n4) (h5 := hg2) (h6 := by simp; omega)
  | some q =>
    have w0 := hi.wp rfl
    simp only [sepL, List.append_nil, Option.getD_some] at hlen hdr hN b5 hv ⊢
    have hN2 : N = w.length + q.length := by rw [← hN, List.length_append]
    have hl2 : s.length = f + (w.length + (q.length + 1)) := by rw [hlen]; simp
    have hw1 : 0 < w.length := by
      cases w with
      | nil => exact (w0 rfl).elim
      | cons c r => simp
    have n0 : decide ((f : Int) + w.length ≥ 0) = true := by simp; omega
    have n2 : ((((N : Nat)) : Int) == 0) = false := by simp; omega
    by_cases q0 : q = []
    · rw [p_rule1 _ (.inr (.inl (by rw [q0])))]
      exact qrb_15 (bs := oL s) (a := dg 6 v) (fr := f) (pt := (f : Int) + w.length) (m := m) (h0 := hsz) (h1 := n0) (h2 := n2) (h3 := by
        rw [osz, wrap64 (by omega) (by omega)]
        simp [q0] at hl2 ⊢
        omega)
    have hq1 : 0 < q.length := by
      cases q with
      | nil => exact (q0 rfl).elim
      | cons c r => simp
    have n3 : ((f : Int) + w.length == IntKind.i64.wrap (((oL s).size : Int) - 1)) = false := by
      rw [osz, wrap64 (by omega) (by omega)]
      simp
      omega
    have esc : IntKind.i64.wrap (IntKind.i64.wrap (((oL s).size : Int) - ((f : Int) + w.length)) - 1) = (q.length : Int) := by
      rw [osz, wrap64 (n := (s.length : Int) - ((f : Int) + w.length)) (by omega) (by omega), wrap64 (by omega) (by omega)]
      omega
    by_cases q6 : 6 < q.length
    · rw [p_rule1 _ (p := some q) (.inr (.inr (.inl (by simpa using q6))))]
      exact qrb_16 (bs := oL s) (a := dg 6 v) (fr := f) (m := m) (h0 := hsz) (h1 := n0) (h2 := n2) (h3 := n3) (h4 := by rw [esc]; simp; omega)
    have n4 : decide (IntKind.i64.wrap (IntKind.i64.wrap (((oL s).size : Int) - ((f : Int) + w.length)) - 1) > 6) = false := by rw [esc]; simp; omega
    have e1 : IntKind.i64.wrap (IntKind.i64.wrap (IntKind.i64.wrap (((oL s).size : Int) - ((f : Int) + w.length)) - 1) + 1) = (q.length : Int) + 1 := by rw [esc, wrap64 (by omega) (by omega)]
    have b2 : some q ≠ some [] := by simpa using q0
    have b3 : ((some q).getD []).length ≤ 6 := by simp; omega
    have b6 : (0 : Int) ≤ (f : Int) ∧ (f : Int) < ((oL s).size : Int) := by rw [osz]; omega
    have hhq := head_q hdr w0
    by_cases hl : 1 < w.length
    · have n5 : decide ((((N : Nat)) : Int) > IntKind.i64.wrap (IntKind.i64.wrap (IntKind.i64.wrap (((oL s).size : Int) - ((f : Int) + w.length)) - 1) + 1)) = true := by rw [e1]; simp; omega
      by_cases h48 : w.head? = some 48
      · rw [p_rule1 _ (.inr (.inr (.inr (.inl ⟨hl, h48⟩))))]
        exact qrb_17 (bs := oL s) (a := dg 6 v) (m := m) (h0 := hsz) (h1 := n0) (h2 := n2) (h3 := n3) (h4 := n4) (h5 := n5) (h6 := b6) (h7 := hhq.trans (by simpa using h48))
      · have b4 : ¬ (1 < w.length ∧ w.head? = some 48) := by rintro ⟨_, e⟩; exact h48 e
        by_cases hg : (((f : Nat) : Int) == 1) = true
        · by_cases hz : v = 0
          · have z := zero_v h0 h1 true hz
            by_cases h40 : N ≤ 40
            · rw [p_rule2 (ng := (((f : Nat) : Int) == 1)) ⟨hg, by have := hv h40; simp at this ⊢; omega⟩]
              exact qrb_18 (bs := oL s) (a := dg 6 v) (m := m) (h0 := hsz) (h1 := n0) (h2 := n2) (h3 := n3) (h4 := n4) (h5 := n5) (h6 := b6) (h7 := hhq.trans (by simpa using h48)) (h8 := hg) (h9 := zero_v h0 h1 false hz) (h10 := rfl) (h11 := by simp; omega)
            · rw [over40 (((f : Nat) : Int) == 1) w0 b2 b3 b4 b5 (by simp; omega)]
              exact qrb_19 (bs := oL s) (a := dg 6 v) (m := m) (h0 := hsz) (h1 := n0) (h2 := n2) (h3 := n3) (h4 := n4) (h5 := n5) (h6 := b6) (h7 := hhq.trans (by simpa using h48)) (h8 := hg) (h9 := zero_v h0 h1 false hz) (h10 := rfl) (h11 := by simp; omega) (h12 := by simp; omega)
          · have z := zero_n h0 h1 false hz
            by_cases h40 : N ≤ 40
            · have e : v = ((valD 0 (w ++ (some q).getD []) : Nat) : Int) := by simpa using hv h40
              rw [p_rule3 w0 b2 b3 b4 b5 (by rintro ⟨_, e2⟩; omega), ← e]
              exact qrb_22 (bs := oL s) (a := dg 6 v) (m := m) (h0 := hsz) (h1 := n0) (h2 := n2) (h3 := n3) (h4 := n4) (h5 := n5) (h6 := b6) (h7 := hhq.trans (by simpa using h48)) (h8 := hg) (h9 := z) (h10 := rfl) (h11 := by simp; omega) (h12 := by rw [esc]; exact rback_does h0 h1 (((f : Nat) : Int) == 1) (q.length : Int))
            · rw [over40 (((f : Nat) : Int) == 1) w0 b2 b3 b4 b5 (by simp; omega)]
              exact qrb_21 (bs := oL s) (a := dg 6 v) (m := m) (h0 := hsz) (h1 := n0) (h2 := n2) (h3 := n3) (h4 := n4) (h5 := n5) (h6 := b6) (h7 := hhq.trans (by simpa using h48)) (h8 := hg) (h9 := z) (h10 := rfl) (h11 := by simp; omega)
        · have hg2 : (((f : Nat) : Int) == 1) = false := by simpa using hg
          by_cases h40 : N ≤ 40
          · have e : v = ((valD 0 (w ++ (some q).getD []) : Nat) : Int) := by simpa using hv h40
            rw [p_rule3 w0 b2 b3 b4 b5 (by rintro ⟨e2, _⟩; exact hg e2), ← e]
            exact qrb_24 (bs := oL s) (a := dg 6 v) (m := m) (h0 := hsz) (h1 := n0) (h2 := n2) (h3 := n3) (h4 := n4) (h5 := n5) (h6 := b6) (h7 := hhq.trans (by simpa using h48)) (h8 := hg2) (h9 := by simp; omega) (h10 := by rw [esc]; exact rback_does h0 h1 (((f : Nat) : Int) == 1) (q.length : Int))
          · rw [over40 (((f : Nat) : Int) == 1) w0 b2 b3 b4 b5 (by simp; omega)]
            exact qrb_23 (bs := oL s) (a := dg 6 v) (m := m) (h0 := hsz) (h1 := n0) (h2 := n2) (h3 := n3) (h4 := n4) (h5 := n5) (h6 := b6) (h7 := hhq.trans (by simpa using h48)) (h8 := hg2) (h9 := by simp; omega)
    · have n5 : decide ((((N : Nat)) : Int) > IntKind.i64.wrap (IntKind.i64.wrap (IntKind.i64.wrap (((oL s).size : Int) - ((f : Int) + w.length)) - 1) + 1)) = false := by rw [e1]; simp; omega
      have b4 : ¬ (1 < w.length ∧ w.head? = some 48) := by rintro ⟨e, _⟩; exact hl e
      by_cases hg : (((f : Nat) : Int) == 1) = true
      · by_cases hz : v = 0
        · have z := zero_v h0 h1 true hz
          by_cases h40 : N ≤ 40
          · rw [p_rule2 (ng := (((f : Nat) : Int) == 1)) ⟨hg, by have := hv h40; simp at this ⊢; omega⟩]
            exact qrb_25 (bs := oL s) (a := dg 6 v) (m := m) (h0 := hsz) (h1 := n0) (h2 := n2) (h3 := n3) (h4 := n4) (h5 := n5) (h6 := hg) (h7 := zero_v h0 h1 false hz) (h8 := rfl) (h9 := by simp; omega)
          · rw [over40 (((f : Nat) : Int) == 1) w0 b2 b3 b4 b5 (by simp; omega)]
            exact qrb_26 (bs := oL s) (a := dg 6 v) (m := m) (h0 := hsz) (h1 := n0) (h2 := n2) (h3 := n3) (h4 := n4) (h5 := n5) (h6 := hg) (h7 := zero_v h0 h1 false hz) (h8 := rfl) (h9 := by simp; omega) (h10 := by simp; omega)
        · have z := zero_n h0 h1 false hz
          by_cases h40 : N ≤ 40
          · have e : v = ((valD 0 (w ++ (some q).getD []) : Nat) : Int) := by simpa using hv h40
            rw [p_rule3 w0 b2 b3 b4 b5 (by rintro ⟨_, e2⟩; omega), ← e]
            exact qrb_29 (bs := oL s) (a := dg 6 v) (m := m) (h0 := hsz) (h1 := n0) (h2 := n2) (h3 := n3) (h4 := n4) (h5 := n5) (h6 := hg) (h7 := z) (h8 := rfl) (h9 := by simp; omega) (h10 := by rw [esc]; exact rback_does h0 h1 (((f : Nat) : Int) == 1) (q.length : Int))
          · rw [over40 (((f : Nat) : Int) == 1) w0 b2 b3 b4 b5 (by simp; omega)]
            exact qrb_28 (bs := oL s) (a := dg 6 v) (m := m) (h0 := hsz) (h1 := n0) (h2 := n2) (h3 := n3) (h4 := n4) (h5 := n5) (h6 := hg) (h7 := z) (h8 := rfl) (h9 := by simp; omega)
      · have hg2 : (((f : Nat) : Int) == 1) = false := by simpa using hg
        by_cases h40 : N ≤ 40
        · have e : v = ((valD 0 (w ++ (some q).getD []) : Nat) : Int) := by simpa using hv h40
          rw [p_rule3 w0 b2 b3 b4 b5 (by rintro ⟨e2, _⟩; exact hg e2), ← e]
          exact qrb_31 (bs := oL s) (a := dg 6 v) (m := m) (h0 := hsz) (h1 := n0) (h2 := n2) (h3 := n3) (h4 := n4) (h5 := n5) (h6 := hg2) (h7 := by simp; omega) (h8 := by rw [esc]; exact rback_does h0 h1 (((f : Nat) : Int) == 1) (q.length : Int))
        · rw [over40 (((f : Nat) : Int) == 1) w0 b2 b3 b4 b5 (by simp; omega)]
          exact qrb_30 (bs := oL s) (a := dg 6 v) (m := m) (h0 := hsz) (h1 := n0) (h2 := n2) (h3 := n3) (h4 := n4) (h5 := n5) (h6 := hg2) (h7 := by simp; omega)
end Go.Proofs.YtpfignfgfhbblaaGreatDoorC
/- The reference's Parse, at every text: its loop, and the whole. -/
namespace Go.Proofs.YtpfignfgfhbblaaGreatDoorC
open Go.Proofs Go.Proofs.YtpfignfgfhbblaaGreatDoorSx Go.RowKit Go.Sort Go.Lib
set_option maxRecDepth 100000
set_option linter.unusedVariables false
set_option linter.unusedSimpArgs false
/-- The parts, a digit further. -/
def wNext (w : List UInt8) (p : Option (List UInt8)) (c : UInt8) : List UInt8 := match p with
  | none => w ++ [c]
  | some _ => w
def pNext (p : Option (List UInt8)) (c : UInt8) : Option (List UInt8) := match p with
  | none => none
  | some q => some (q ++ [c])
theorem next_app (w : List UInt8) (p : Option (List UInt8)) (c : UInt8) : wNext w p c ++ (pNext p c).getD [] = (w ++ p.getD []) ++ [c] := by
  cases p <;> simp [wNext, pNext]
/-- What comes of the rest. -/
def goalR (ng : Bool) (w : List UInt8) (p : Option (List UInt8)) (r : List UInt8) : Int × Int × Int := match p with
  | none => parseB ng (w ++ (spD r).1) (spD r).2
  | some q => parseB ng w (some (q ++ r))
theorem goal_next (ng : Bool) (w : List UInt8) (p : Option (List UInt8)) {c : UInt8} (r : List UInt8) (hc : isD c = true) : goalR ng w p (c :: r) = goalR ng (wNext w p c) (pNext p c) r := by
  have h46 : c ≠ 46 := by
    intro e
    subst e
    exact absurd hc (by decide)
  cases p with
  | none => simp [goalR, wNext, pNext, spD, h46]
  | some q => simp [goalR, wNext, pNext]
theorem goal_end (ng : Bool) (w : List UInt8) (p : Option (List UInt8)) : goalR ng w p [] = parseB ng w p := by
  cases p <;> simp [goalR, spD]
/-- A byte that is none of a number's. -/
theorem goal_bad (ng : Bool) (w : List UInt8) (p : Option (List UInt8)) {c : UInt8} (r : List UInt8) (hc : isD c = false) (hp : c ≠ 46 ∨ p.isSome = true ∨ w = []) : goalR ng w p (c :: r) = (0, 0, 21) := by
  cases p with
  | none =>
    unfold goalR
    simp only
    rw [spD]
    by_cases h : c = 46
    · rw [if_pos h]
      rcases hp with e | e | e
      · exact (e h).elim
      · cases e
      · exact p_rule1 ng (.inl (by simp [e]))
    · rw [if_neg h]
      exact p_rule1 ng (.inr (.inr (.inr (.inr (by simp [hc])))))
  | some q =>
    unfold goalR
    exact p_rule1 ng (.inr (.inr (.inr (.inr (by simp [hc])))))
section
variable {s : List UInt8} {f : Nat} {w : List UInt8} {p : Option (List UInt8)} {r : List UInt8} {c : UInt8} {v : Int}
def posR (f : Nat) (w : List UInt8) (p : Option (List UInt8)) : Nat := f + (w.length + (sepL p).length)
theorem pos_at (hi : RInv s f w p (c :: r) v) : s.getD (posR f w p) 0 = c := by
  unfold posR
  rw [drop_getD hi.dr, ← List.append_assoc, List.getD_eq_getElem?_getD, List.getElem?_append_right (by simp)]
  simp
theorem pos_lt (hi : RInv s f w p (c :: r) v) : posR f w p < s.length ∧ (w ++ p.getD []).length ≤ posR f w p := by
  have := drop_len hi.dr hi.fle
  unfold posR
  cases p with
  | none => simp [sepL] at this ⊢; omega
  | some q => simp [sepL] at this ⊢; omega
theorem pos_end (hi : RInv s f w p [] v) : posR f w p = s.length := by
  have := drop_len hi.dr hi.fle
  unfold posR
  simp at this ⊢
  omega
theorem pos_next : posR f (wNext w p c) (pNext p c) = posR f w p + 1 := by
  unfold posR
  cases p with
  | none => simp [wNext, pNext, sepL]; omega
  | some q => simp [wNext, pNext, sepL]; omega
theorem rinv_digit (hi : RInv s f w p (c :: r) v) (hc : isD c = true) {v' : Int} (h0 : 0 ≤ v') (h1 : v' < big192) (hv : (w ++ p.getD []).length + 1 ≤ 40 → v' = v * 10 + ((c.toNat - 48 : Nat) : Int)) : RInv s f (wNext w p c) (pNext p c) r v' where
  fle := hi.fle
  dr := by
    rw [hi.dr]
    cases p <;> simp [wNext, pNext, sepL]
  all := by
    rw [next_app, List.all_append, hi.all, List.all_cons, hc]
    rfl
  wp := by
    cases p with
    | none => simp [pNext]
    | some q => intro _; exact hi.wp rfl
  h0 := h0
  h1 := h1
  hv := by
    intro h
    rw [next_app, List.length_append] at h
    simp only [List.length_cons, List.length_nil] at h
    rw [next_app, valD_snoc, hv (by omega), hi.hv (by omega)]
    omega
theorem rinv_point (hi : RInv s f w none (46 :: r) v) (hw : w ≠ []) : RInv s f w (some []) r v where
  fle := hi.fle
  dr := by
    rw [hi.dr]
    simp [sepL]
  all := by simpa using hi.all
  wp := fun _ => hw
  h0 := hi.h0
  h1 := hi.h1
  hv := by simpa using hi.hv
theorem rinv_small (hi : RInv s f w p r v) (h : (w ++ p.getD []).length + 1 ≤ 40) : v < 10 ^ 39 := by
  have hl := val_lt _ hi.all
  have hp : 10 ^ (w ++ p.getD []).length ≤ 10 ^ 39 := Nat.pow_le_pow_right (by decide) (by omega)
  have e := hi.hv (by omega)
  have e2 : ((10 ^ 39 : Nat) : Int) = (10 : Int) ^ 39 := by decide
  omega
end
theorem pt_next (f : Nat) (w : List UInt8) (p : Option (List UInt8)) (c : UInt8) : ptR f (wNext w p c) (pNext p c) = ptR f w p := by
  cases p <;> rfl
theorem ge48 {c : UInt8} (h : isD c = true) : ((((c.toNat : Nat) : Int) == 46) = false) ∧ decide (((c.toNat : Nat) : Int) ≥ 48) = true ∧ decide (((c.toNat : Nat) : Int) ≤ 57) = true := by
  unfold isD at h
  simp only [decide_eq_true_eq] at h
  refine ⟨?_, ?_, ?_⟩
  · simp; omega
  · simp; omega
  · simp; omega
theorem eq46 {c : UInt8} (h : c ≠ 46) : (((c.toNat : Nat) : Int) == 46) = false := by
  have : ¬ ((c.toNat : Nat) : Int) = 46 := by
    intro e
    apply h
    apply UInt8.toNat_inj.1
    have e46 : (46 : UInt8).toNat = 46 := rfl
    omega
  simpa using this
theorem q_loop {s : List UInt8} (hs : s.length ≤ 9223372036854775807) {f : Nat} : ∀ (r : List UInt8) (w : List UInt8) (p : Option (List UInt8)) (v : Int), RInv s f w p r v →
    Fin cE Tryz.f49 0 (.v (ans (goalR (((f : Nat) : Int) == 1) w p r))) [] 0 (bodyK qrK r.length) (qrS s f (ptR f w p) (w ++ p.getD []).length (posR f w p)) (qT (dg 6 v)) 2
  | [], w, p, v, hi => by
    rw [goal_end, pos_end hi]
    exact q_end hs hi 0
  | c :: r, w, p, v, hi => by
    obtain ⟨pl, pn⟩ := pos_lt hi
    have hat := pos_at hi
    have hbv : big192 = 6277101735386680763835789423207666416102355444464034512896 := rfl
    have h0 := hi.h0
    have h1 := hi.h1
    have lt : decide (((posR f w p : Nat) : Int) < ((oL s).size : Int)) = true := by rw [oL_size]; simp; omega
    have bn : (0 : Int) ≤ ((posR f w p : Nat) : Int) ∧ ((posR f w p : Nat) : Int) < ((oL s).size : Int) := by rw [oL_size]; omega
    have en : IntKind.i64.wrap ((((w ++ p.getD []).length : Nat) : Int) + 1) = (((w ++ p.getD []).length + 1 : Nat) : Int) := step64 (by omega)
    have ei : IntKind.i64.wrap (((posR f w p : Nat) : Int) + 1) = ((posR f w p + 1 : Nat) : Int) := step64 (by omega)
    have el : (wNext w p c ++ (pNext p c).getD []).length = (w ++ p.getD []).length + 1 := by rw [next_app, List.length_append]; rfl
    by_cases hc : isD c = true
    · obtain ⟨d1, d2, d3⟩ := ge48 hc
      obtain ⟨y1, _⟩ := dig_yes hc
      have hd := isD_le hc
      rw [← hat] at d1 d2 d3
      rw [goal_next _ w p r hc]
      by_cases h40 : (w ++ p.getD []).length + 1 ≤ 40
      · have hsm := rinv_small hi h40
        have e39 : (10 : Int) ^ 39 = 1000000000000000000000000000000000000000 := by decide
        have n1 : decide (IntKind.i64.wrap ((((w ++ p.getD []).length : Nat) : Int) + 1) ≤ 40) = true := by rw [en]; simp; simp at h40; omega
        have t49 : Does cE 103 [] 0 [.v (it 10)] (.v (W 10 false)) [] 0 := rof_does (n := 10) (by decide)
        have t48 := W_times (x := v) (y := 10) ⟨h0, h1⟩ (by decide) (by omega) false false
        have ed : IntKind.i64.wrap (IntKind.u8.wrap ((((s.getD (posR f w p) 0).toNat : Nat) : Int) - 48)) = ((c.toNat - 48 : Nat) : Int) := by rw [hat, y1, wrap64 (by omega) (by omega)]
        have u49 : Does cE 103 [] 0 [.v (it (IntKind.i64.wrap (IntKind.u8.wrap ((((s.getD (posR f w p) 0).toNat : Nat) : Int) - 48))))] (.v (W ((c.toNat - 48 : Nat) : Int) false)) [] 0 := by
          rw [ed]
          exact rof_does (n := ((c.toNat - 48 : Nat) : Int)) ⟨by omega, by omega⟩
        have t58 := W_plus (x := v * 10) (y := ((c.toNat - 48 : Nat) : Int)) (by omega) (by omega) (by omega) false false
        have h := qrb_10 (bs := oL s) (a := dg 6 v) (fr := f) (pt := ptR f w p) (n := ((w ++ p.getD []).length : Nat)) (i := (posR f w p : Nat)) (m := r.length + 1) (res := .v (ans (goalR (((f : Nat) : Int) == 1) (wNext w p c) (pNext p c) r))) (T' := []) (n' := 0) (h0 := lt) (h1 := bn) (h2 := d1) (h3 := d2) (h4 := d3) (h5 := n1) (h6 := t49) (h7 := t48) (h8 := u49) (h9 := t58)
        rw [en, ei] at h
        refine h (fin_round ?_)
        have ih := q_loop hs r (wNext w p c) (pNext p c) (v * 10 + ((c.toNat - 48 : Nat) : Int)) (rinv_digit hi hc (by omega) (by omega) (fun _ => rfl))
        rw [pt_next, el, pos_next] at ih
        exact ih
      · have n1 : decide (IntKind.i64.wrap ((((w ++ p.getD []).length : Nat) : Int) + 1) ≤ 40) = false := by rw [en]; simp; simp at h40; omega
        have h := qrb_11 (bs := oL s) (a := dg 6 v) (fr := f) (pt := ptR f w p) (n := ((w ++ p.getD []).length : Nat)) (i := (posR f w p : Nat)) (m := r.length + 1) (res := .v (ans (goalR (((f : Nat) : Int) == 1) (wNext w p c) (pNext p c) r))) (T' := []) (n' := 0) (h0 := lt) (h1 := bn) (h2 := d1) (h3 := d2) (h4 := d3) (h5 := n1)
        rw [en, ei] at h
        refine h (fin_round ?_)
        have ih := q_loop hs r (wNext w p c) (pNext p c) v (rinv_digit hi hc h0 h1 (fun e => (h40 e).elim))
        rw [pt_next, el, pos_next] at ih
        exact ih
    · have hc2 : isD c = false := by simpa using hc
      by_cases h46 : c = 46
      · subst h46
        have q1 : ((((s.getD (posR f w p) 0).toNat : Nat) : Int) == 46) = true := by rw [hat]; rfl
        have q2 : decide ((((s.getD (posR f w p) 0).toNat : Nat) : Int) ≥ 48) = false := by rw [hat]; rfl
        cases p with
        | none =>
          by_cases w0 : w = []
          · rw [goal_bad _ w none r hc2 (.inr (.inr w0))]
            refine qrb_5 (bs := oL s) (a := dg 6 v) (fr := f) (pt := -1) (n := ((w ++ (none : Option (List UInt8)).getD []).length : Nat)) (i := (posR f w none : Nat)) (m := r.length + 1) (h0 := lt) (h1 := bn) (h2 := q1) (h3 := rfl) (h4 := ?_) (h5 := q2)
            unfold posR
            rw [w0]
            simp [sepL]
          · have hi2 := rinv_point hi w0
            have hw1 : 0 < w.length := by
              cases w with
              | nil => exact (w0 rfl).elim
              | cons c r => simp
            have h := qrb_1 (bs := oL s) (a := dg 6 v) (fr := f) (pt := -1) (n := ((w ++ (none : Option (List UInt8)).getD []).length : Nat)) (i := (posR f w none : Nat)) (m := r.length + 1) (res := .v (ans (goalR (((f : Nat) : Int) == 1) w none (46 :: r)))) (T' := []) (n' := 0) (h0 := lt) (h1 := bn) (h2 := q1) (h3 := rfl) (h4 := by
              unfold posR
              simp [sepL]
              omega)
            rw [ei] at h
            refine h (fin_round ?_)
            have ih := q_loop hs r w (some []) v hi2
            have eg : goalR (((f : Nat) : Int) == 1) w (some []) r = goalR (((f : Nat) : Int) == 1) w none (46 :: r) := by simp [goalR, spD]
            have ep : ptR f w (some []) = ((posR f w none : Nat) : Int) := by
              unfold posR
              simp [sepL]
            have eo : posR f w (some []) = posR f w none + 1 := by
              unfold posR
              simp [sepL]
              omega
            rw [eg, ep, eo] at ih
            exact ih
        | some q =>
          rw [goal_bad _ w (some q) r hc2 (.inr (.inl rfl))]
          exact qrb_9 (bs := oL s) (a := dg 6 v) (fr := f) (pt := (f : Int) + w.length) (n := ((w ++ (some q).getD []).length : Nat)) (i := (posR f w (some q) : Nat)) (m := r.length + 1) (h0 := lt) (h1 := bn) (h2 := q1) (h3 := by simp; omega) (h4 := q2)
      · have d1 := eq46 h46
        rw [goal_bad _ w p r hc2 (.inl h46)]
        rw [← hat] at d1
        by_cases h48 : ((c.toNat : Nat) : Int) ≥ 48
        · have d2 : decide ((((s.getD (posR f w p) 0).toNat : Nat) : Int) ≥ 48) = true := by rw [hat]; simpa using h48
          have d3 : decide ((((s.getD (posR f w p) 0).toNat : Nat) : Int) ≤ 57) = false := by
            rw [hat]
            unfold isD at hc2
            simp only [decide_eq_false_iff_not] at hc2 ⊢
            omega
          exact qrb_12 (bs := oL s) (a := dg 6 v) (fr := f) (pt := ptR f w p) (n := ((w ++ p.getD []).length : Nat)) (i := (posR f w p : Nat)) (m := r.length + 1) (h0 := lt) (h1 := bn) (h2 := d1) (h3 := d2) (h4 := d3)
        · have d2 : decide ((((s.getD (posR f w p) 0).toNat : Nat) : Int) ≥ 48) = false := by rw [hat]; simp only [decide_eq_false_iff_not]; omega
          exact qrb_13 (bs := oL s) (a := dg 6 v) (fr := f) (pt := ptR f w p) (n := ((w ++ p.getD []).length : Nat)) (i := (posR f w p : Nat)) (m := r.length + 1) (h0 := lt) (h1 := bn) (h2 := d1) (h3 := d2)
theorem rparse_does (s : List UInt8) (hs : s.length ≤ 9223372036854775807) : Does cE 49 [] 0 [.v (st (oL s))] (.v (ans (parseL s))) [] 0 := by
  refine does_of_fin (fn := Tryz.f49) (c := bd Tryz.f49) rfl (by kernel_rfl) rfl ?_
  have start : ∀ (f : Nat), f ≤ s.length → RInv s f [] none (s.drop f) 0 := fun f hf => ⟨hf, by simp [sepL], rfl, (fun e => by cases e), by decide, by decide, fun _ => rfl⟩
  cases s with
  | nil =>
    refine qra_3 (oL []) _ _ _ (by rw [is_empty rfl]; rfl) ?_
    exact fin_loop (0 + 1) (fin_round (q_loop hs [] [] none 0 (start 0 (Nat.le_refl _))))
  | cons c r =>
    have h0 : (!(oL (c :: r)).toList == (ByteArray.mk #[]).toList) = true := by rw [ne_empty (by simp)]; rfl
    have h1 : (0 : Int) ≤ 0 ∧ (0 : Int) < ((oL (c :: r)).size : Int) := by rw [oL_size]; simp
    by_cases h45 : c = 45
    · subst h45
      have e1 : parseL (45 :: r) = goalR (((1 : Nat) : Int) == 1) [] none r := by simp [parseL, goalR, sgn, bodyL]
      rw [e1]
      refine qra_1 (oL (45 :: r)) _ _ _ h0 h1 rfl ?_
      exact fin_loop (r.length + 1) (fin_round (q_loop hs r [] none 0 (start 1 (by simp))))
    · have e2 : sgn (c :: r) = false := by simp [sgn, h45]
      have e1 : parseL (c :: r) = goalR (((0 : Nat) : Int) == 1) [] none (c :: r) := by
        unfold parseL bodyL goalR
        rw [e2]
        rfl
      rw [e1]
      refine qra_2 (oL (c :: r)) _ _ _ h0 h1 ?_ ?_
      · have : ¬ ((c.toNat : Nat) : Int) = 45 := by
          intro e
          apply h45
          apply UInt8.toNat_inj.1
          have e45 : (45 : UInt8).toNat = 45 := rfl
          omega
        have h3 : (((c.toNat : Nat) : Int) == 45) = false := by simpa using this
        exact h3
      · exact fin_loop ((c :: r).length + 1) (fin_round (q_loop hs (c :: r) [] none 0 (start 0 (by simp))))
end Go.Proofs.YtpfignfgfhbblaaGreatDoorC
/- What is written of a point is read again: plain law. -/
namespace Go.Proofs.YtpfignfgfhbblaaGreatDoorC
open Go.Proofs Go.Proofs.YtpfignfgfhbblaaGreatDoorSx Go.Lib
set_option maxRecDepth 100000
set_option linter.unusedVariables false
theorem pu_digits : ∀ (l : List UInt8) (acc : Nat), l.all isD = true → valD acc l < 9223372036854775808 → Lib.parseUint10 acc l = .ok (valD acc l)
  | [], acc, _, _ => rfl
  | c :: r, acc, h, hv => by
    rw [List.all_cons, Bool.and_eq_true] at h
    have hd : 48 ≤ c.toNat ∧ c.toNat ≤ 57 := of_decide_eq_true h.1
    have e : valD acc (c :: r) = valD (10 * acc + (c.toNat - 48)) r := rfl
    rw [e] at hv ⊢
    have hge : 10 * acc + (c.toNat - 48) ≤ valD (10 * acc + (c.toNat - 48)) r := by
      rw [valD_pow]
      have : 1 ≤ 10 ^ r.length := Nat.one_le_pow _ _ (by decide)
      have := Nat.le_mul_of_pos_right (10 * acc + (c.toNat - 48)) (by omega : 0 < 10 ^ r.length)
      omega
    unfold Lib.parseUint10
    rw [if_pos hd, if_neg (by omega), if_neg (by omega), show acc * 10 + (c.toNat - 48) = 10 * acc + (c.toNat - 48) by omega]
    exact pu_digits r _ h.2 hv
theorem mag_dec (u : Nat) (hu : u < 9223372036854775808) : Lib.parseMag (decDigits u) = .ok u := by
  unfold Lib.parseMag
  rw [if_neg (dec_ne u), pu_digits (decDigits u) 0 (dec_all u) (by rw [dec_val]; exact hu), dec_val]
theorem dec_chars {u : Nat} {c : UInt8} (h : c ∈ decDigits u) : 48 ≤ c.toNat ∧ c.toNat ≤ 57 := of_decide_eq_true (List.all_eq_true.1 (dec_all u) c h)
theorem atoi_itoa {n : Int} (h : -1048576 ≤ n ∧ n ≤ 1048576) : Lib.atoiAll (Lib.itoa n) = .ok n := by
  unfold Lib.itoa
  by_cases h0 : n < 0
  · rw [if_pos h0]
    unfold Lib.atoiAll
    simp only
    rw [if_pos (.inr (by decide)), mag_dec n.natAbs (by omega)]
    simp only
    rw [if_neg (by omega), if_neg (by omega), if_pos (by decide)]
    congr 1
    omega
  · rw [if_neg h0]
    cases hd : decDigits n.toNat with
    | nil => exact absurd hd (dec_ne _)
    | cons c r =>
      have hc := dec_chars (u := n.toNat) (c := c) (by rw [hd]; exact List.mem_cons_self)
      have hm := mag_dec n.toNat (by omega)
      rw [hd] at hm
      unfold Lib.atoiAll
      simp only
      rw [if_neg (by omega), hm]
      simp only
      rw [if_neg (by omega), if_neg (by omega), if_neg (by omega)]
      congr 1
      omega
theorem itoa_chars {n : Int} {c : UInt8} (h : c ∈ Lib.itoa n) : c.toNat = 45 ∨ 48 ≤ c.toNat ∧ c.toNat ≤ 57 := by
  unfold Lib.itoa at h
  split at h
  · rcases List.mem_cons.1 h with rfl | h
    · exact .inl (by decide)
    · exact .inr (dec_chars h)
  · exact .inr (dec_chars h)
theorem sq_app : ∀ (w p : List UInt8), (∀ c ∈ w, c ≠ 44) → sq (w ++ 44 :: p) = (w, some p)
  | [], p, _ => by simp [sq]
  | c :: w, p, h => by
    have ih := sq_app w p (fun x hx => h x (List.mem_cons_of_mem _ hx))
    have hc := h c List.mem_cons_self
    rw [List.cons_append, sq, ih]
    simp [hc]
theorem dw_self {p : UInt8 → Bool} {A B : List UInt8} (hne : A ≠ []) (h : ∀ c ∈ A, p c = false) : (A ++ B).dropWhile p = A ++ B := by
  cases A with
  | nil => exact absurd rfl hne
  | cons c r => rw [List.cons_append, List.dropWhile_cons_of_neg (by rw [h c List.mem_cons_self]; decide)]
theorem trim_pt {A : List UInt8} (hne : A ≠ []) (h : ∀ c ∈ A, ([60, 62] : List UInt8).contains c = false) : Lib.trimS (60 :: (A ++ [62])) [60, 62] = A := by
  have h1 : Lib.trimRightS (60 :: (A ++ [62])) [60, 62] = 60 :: A := by
    unfold Lib.trimRightS
    have e : (60 :: (A ++ [62])).reverse = 62 :: (A.reverse ++ [60]) := by simp
    rw [e, List.dropWhile_cons_of_pos (by decide), dw_self (by simpa using hne) (fun c hc => h c (List.mem_reverse.1 hc))]
    simp
  unfold Lib.trimS
  rw [h1]
  unfold Lib.trimLeftS
  rw [List.dropWhile_cons_of_pos (by decide)]
  have := dw_self (B := []) hne h
  rw [List.append_nil] at this
  exact this
theorem nin {c : UInt8} (h : c.toNat = 44 ∨ c.toNat = 45 ∨ 48 ≤ c.toNat ∧ c.toNat ≤ 57) : ([60, 62] : List UInt8).contains c = false := by
  have h1 : c ≠ 60 := fun e => by subst e; revert h; decide
  have h2 : c ≠ 62 := fun e => by subst e; revert h; decide
  simp [h1, h2]
theorem gp_back {x y : Int} (h : rt x y = true) : gpL (prG x y) = (x, y, 0) := by
  have hb := rt_b (x := x) (y := y) (by rw [h]; rfl)
  have ep : prG x y = 60 :: ((Lib.itoa x ++ 44 :: Lib.itoa y) ++ [62]) := by
    unfold prG
    rw [h]
    simp
  have et : trG (prG x y) = (Lib.itoa x, some (Lib.itoa y)) := by
    unfold trG
    rw [ep, trim_pt (by simp) (fun c hc => ?_), sq_app _ _ (fun c hc => ?_)]
    · intro e
      subst e
      rcases itoa_chars hc with h | h
      · revert h; decide
      · revert h; decide
    · rcases List.mem_append.1 hc with hc | hc
      · exact nin (.inr (itoa_chars hc))
      · rcases List.mem_cons.1 hc with rfl | hc
        · exact nin (.inl (by decide))
        · exact nin (.inr (itoa_chars hc))
  unfold gpL
  rw [et]
  simp only [Option.getD_some]
  rw [atoi_itoa hb.1, atoi_itoa hb.2]
  simp only
  rw [h, beq_self_eq_true]
  rfl
/-- What a text comes to is a point that it says, or nothing. -/
theorem gp_some (l : List UInt8) : gpL l = (0, 0, 21) ∨ ∃ x y, rt x y = true ∧ prG x y = l ∧ gpL l = (x, y, 0) := by
  unfold gpL
  split
  · rename_i a b ha hb
    cases h : (rt a b && prG a b == l) with
    | false => exact .inl rfl
    | true =>
      rw [Bool.and_eq_true] at h
      exact .inr ⟨a, b, h.1, eq_of_beq h.2, rfl⟩
  · exact .inl rfl
end Go.Proofs.YtpfignfgfhbblaaGreatDoorC
/- The reference's number at a text's head: told. -/
namespace Go.Proofs.YtpfignfgfhbblaaGreatDoorC
open Go.Proofs Go.Proofs.YtpfignfgfhbblaaGreatDoorSx Go.Lib
set_option maxRecDepth 100000
set_option linter.unusedVariables false
def byA (s : ByteArray) (i : Nat) : Int := (((s.data.toList.getD i 0).toNat : Nat) : Int)
/-- Does it begin with a '-'? -/
def ngB (s : ByteArray) : Bool := (!s.toList == (ByteArray.mk #[]).toList) && (byA s 0 == 45)
def contB (s : ByteArray) (i : Nat) : Bool := decide ((i : Int) < (s.size : Int)) && (decide (byA s i ≥ 48) && (decide (byA s i ≤ 57) && decide ((i : Int) < 10)))
def nuR (s : ByteArray) : Nat → Nat → Int → Int × Nat
  | 0, i, n => (n, i)
  | f + 1, i, n => bif contB s i then nuR s f (i + 1) (10 * n + (byA s i - 48)) else (n, i)
def numV (s : ByteArray) (p : Int × Nat) : Value := bif ngB s then .tuple #[it (-p.1), it p.2] else .tuple #[it p.1, it p.2]
/-- What the number at a text's head comes to. -/
def numB (s : ByteArray) : Value := numV s (bif ngB s then nuR s 9 1 0 else nuR s 10 0 0)
theorem rNb_eq (s : ByteArray) (i : Nat) (n : Int) (m : Nat) (R : Value) (hn : 0 ≤ n ∧ n ≤ 100000000000) : rNb s i n m R = bif contB s i then R else numV s (n, i) := by
  have hw : IntKind.i64.wrap (0 - n) = -n := by rw [wrap64 (by omega) (by omega)]; omega
  unfold rNb contB numV ngB byA
  rw [hw]
  rw [show Int.toNat 0 = 0 from rfl]
  cases decide ((i : Int) < (s.size : Int)) <;> cases decide ((((s.data.toList.getD i 0).toNat : Nat) : Int) ≥ 48) <;> cases decide ((((s.data.toList.getD i 0).toNat : Nat) : Int) ≤ 57) <;> cases decide ((i : Int) < 10) <;> cases (!s.toList == (ByteArray.mk #[]).toList) <;> cases ((((s.data.toList.getD 0 0).toNat : Nat) : Int) == 45) <;> rfl
theorem num_loop (s : ByteArray) (hs : s.size ≤ 140737488355328) : ∀ (f i : Nat) (n : Int), i + f = 10 → 0 ≤ n → n < 10 ^ (i + 1) → Fin cE Tryz.f100 0 (.v (numV s (nuR s f i n))) [] 0 (bodyK numK3 f) (numS s i n) [] 0 := by
  have big : ∀ i : Nat, i ≤ 10 → (10 : Int) ^ (i + 1) ≤ 100000000000 := by
    intro i hi
    have h1 : (10 : Nat) ^ (i + 1) ≤ 10 ^ 11 := Nat.pow_le_pow_right (by decide) (by omega)
    have h3 : ((10 ^ (i + 1) : Nat) : Int) = (10 : Int) ^ (i + 1) := by simp
    omega
  intro f
  induction f with
  | zero =>
    intro i n hi h0 hn
    have hb := big i (by omega)
    have h := rNb_fin s i n 0 (it 0) hs (by omega) (fun _ _ _ c4 => absurd (of_decide_eq_true c4) (by omega))
    rw [rNb_eq s i n 0 (it 0) (by omega)] at h
    have e : contB s i = false := by
      unfold contB
      rw [decide_eq_false (by omega : ¬ (i : Int) < 10)]
      simp
    rw [e] at h
    exact h
  | succ f ih =>
    intro i n hi h0 hn
    have hb := big i (by omega)
    have h := rNb_fin s i n (f + 1) (numV s (nuR s f (i + 1) (10 * n + (byA s i - 48)))) hs (by omega) (fun c1 c2 c3 c4 => by
      have d2 : byA s i ≥ 48 := of_decide_eq_true c2
      have d3 : byA s i ≤ 57 := of_decide_eq_true c3
      have d4 := of_decide_eq_true c4
      have e1 : IntKind.i64.wrap ((i : Int) + 1) = ((i + 1 : Nat) : Int) := by rw [wrap64 (by omega) (by omega)]; omega
      have e2 : IntKind.u8.wrap (byA s i - 48) = byA s i - 48 := by rw [wrap8e]; omega
      have e3 : IntKind.i64.wrap (IntKind.i64.wrap (10 * n) + IntKind.i64.wrap (byA s i - 48)) = 10 * n + (byA s i - 48) := by
        rw [wrap64 (n := 10 * n) (by omega) (by omega), wrap64 (n := byA s i - 48) (by omega) (by omega), wrap64 (by omega) (by omega)]
      have hp : (10 : Int) ^ (i + 1 + 1) = 10 * 10 ^ (i + 1) := by rw [Int.pow_succ]; omega
      have hi2 := ih (i + 1) (10 * n + (byA s i - 48)) (by omega) (by omega) (by omega)
      show Fin cE _ 0 _ [] 0 _ ([.v (st s), .na, .na, .na, .v (it (IntKind.i64.wrap ((i : Int) + 1))), .v (it (IntKind.i64.wrap (IntKind.i64.wrap (10 * n) + IntKind.i64.wrap (IntKind.u8.wrap (byA s i - 48)))))] ++ List.replicate 48 .na) [] 0
      rw [e1, e2, e3]
      exact fin_round hi2)
    rw [rNb_eq s i n (f + 1) _ (by omega)] at h
    have e : nuR s (f + 1) i n = bif contB s i then nuR s f (i + 1) (10 * n + (byA s i - 48)) else (n, i) := rfl
    rw [e]
    cases hc : contB s i with
    | false => rw [hc] at h; exact h
    | true => rw [hc] at h; exact h
theorem number_does (s : ByteArray) (hs : s.size ≤ 140737488355328) : Does cE 100 [] 0 [.v (st s)] (.v (numB s)) [] 0 := by
  refine does_of_fin (fn := Tryz.f100) (c := bd Tryz.f100) rfl (by kernel_rfl) rfl ?_
  have h := rNa_fin s (.v (numV s (nuR s 9 1 0)), [], 0) (.v (numV s (nuR s 10 0 0)), [], 0) hs (fun _ _ => fin_loop (9 + 1) (fin_round (num_loop s hs 9 1 0 (by omega) (by omega) (by decide)))) (fin_loop (10 + 1) (fin_round (num_loop s hs 10 0 0 (by omega) (by omega) (by decide))))
  have e : rNa s (.v (numV s (nuR s 9 1 0)), [], 0) (.v (numV s (nuR s 10 0 0)), [], 0) = (.v (numB s), [], 0) := by
    unfold rNa numB
    have en : ngB s = ((!s.toList == (ByteArray.mk #[]).toList) && ((((s.data.toList.getD (Int.toNat 0) 0).toNat : Nat) : Int) == 45)) := rfl
    rw [en]
    cases (!s.toList == (ByteArray.mk #[]).toList) <;> cases ((((s.data.toList.getD (Int.toNat 0) 0).toNat : Nat) : Int) == 45) <;> rfl
  rw [e] at h
  exact h
end Go.Proofs.YtpfignfgfhbblaaGreatDoorC
/- The reference's number, in parts; what slices ask. -/
namespace Go.Proofs.YtpfignfgfhbblaaGreatDoorC
open Go.Proofs Go.Proofs.YtpfignfgfhbblaaGreatDoorSx Go.Lib
set_option maxRecDepth 100000
set_option linter.unusedVariables false
def nuP (s : ByteArray) : Int × Nat := bif ngB s then nuR s 9 1 0 else nuR s 10 0 0
def nN (s : ByteArray) : Int := bif ngB s then -(nuP s).1 else (nuP s).1
def nI (s : ByteArray) : Int := ((nuP s).2 : Int)
theorem number2_does (s : ByteArray) (hs : s.size ≤ 140737488355328) : Does cE 100 [] 0 [.v (st s)] (.v (.tuple #[it (nN s), it (nI s)])) [] 0 := by
  have h := number_does s hs
  have e : numB s = .tuple #[it (nN s), it (nI s)] := by
    unfold numB numV nN nI nuP
    cases ngB s <;> rfl
  rw [e] at h
  exact h
theorem nuR_b (s : ByteArray) : ∀ (f i : Nat) (n : Int), i + f = 10 → 0 ≤ n → n < 10 ^ i → 0 ≤ (nuR s f i n).1 ∧ (nuR s f i n).1 < 10000000000 ∧ (nuR s f i n).2 ≤ 10 := by
  intro f
  induction f with
  | zero =>
    intro i n hi h0 hn
    have : i = 10 := by omega
    subst this
    show 0 ≤ n ∧ n < 10000000000 ∧ 10 ≤ 10
    exact ⟨h0, by simpa using hn, Nat.le_refl _⟩
  | succ f ih =>
    intro i n hi h0 hn
    have e : nuR s (f + 1) i n = bif contB s i then nuR s f (i + 1) (10 * n + (byA s i - 48)) else (n, i) := rfl
    rw [e]
    cases hc : contB s i with
    | false =>
      refine ⟨h0, ?_, by show i ≤ 10; omega⟩
      have h1 : (10 : Nat) ^ i ≤ 10 ^ 10 := Nat.pow_le_pow_right (by decide) (by omega)
      have h3 : ((10 ^ i : Nat) : Int) = (10 : Int) ^ i := by simp
      show n < _
      omega
    | true =>
      unfold contB at hc
      simp only [Bool.and_eq_true, decide_eq_true_eq] at hc
      refine ih (i + 1) _ (by omega) (by omega) ?_
      rw [Int.pow_succ]
      omega
theorem nuP_b (s : ByteArray) : 0 ≤ (nuP s).1 ∧ (nuP s).1 < 10000000000 ∧ (nuP s).2 ≤ 10 := by
  unfold nuP
  cases ngB s
  · exact nuR_b s 10 0 0 (by omega) (by omega) (by decide)
  · exact nuR_b s 9 1 0 (by omega) (by omega) (by decide)
theorem nN_64 (s : ByteArray) : I64 (nN s) := by
  have := nuP_b s
  unfold nN
  cases ngB s
  · show -9223372036854775808 ≤ (nuP s).1 ∧ (nuP s).1 ≤ _; omega
  · show -9223372036854775808 ≤ -(nuP s).1 ∧ -(nuP s).1 ≤ _; omega
theorem nI_b (s : ByteArray) : 0 ≤ nI s ∧ nI s ≤ 10 := by
  have := nuP_b s
  unfold nI
  omega
theorem ext_le {s : ByteArray} {a b : Nat} (hs : s.size ≤ 140737488355328) : (s.extract a b).size ≤ 140737488355328 := by
  rw [ByteArray.size_extract]
  omega
theorem sl1 {s : ByteArray} (h : (s.toList == (ByteArray.mk #[]).toList) = false) : (0 : Int) ≤ 1 ∧ (1 : Int) ≤ (s.size : Int) ∧ (s.size : Int) ≤ (s.size : Int) := by
  have := pos_of (s := s) (by rw [h]; rfl)
  omega
theorem sl2 {s : ByteArray} {x : Int} (hs : s.size ≤ 140737488355328) (hx : 0 ≤ x ∧ x ≤ 10) (h : decide (IntKind.i64.wrap (x + 2) > (s.size : Int)) = false) : (0 : Int) ≤ IntKind.i64.wrap (x + 2) ∧ IntKind.i64.wrap (x + 2) ≤ (s.size : Int) ∧ (s.size : Int) ≤ (s.size : Int) := by
  have := of_decide_eq_false h
  rw [wrap64 (by omega) (by omega)] at this ⊢
  omega
end Go.Proofs.YtpfignfgfhbblaaGreatDoorC
/- The reference's number at the head of a numeral: plain law. -/
namespace Go.Proofs.YtpfignfgfhbblaaGreatDoorC
open Go.Proofs Go.Proofs.YtpfignfgfhbblaaGreatDoorSx Go.Lib
set_option maxRecDepth 100000
set_option linter.unusedVariables false
theorem byA_at (p r : List UInt8) (c : UInt8) : byA (oL (p ++ c :: r)) p.length = (c.toNat : Int) := by
  unfold byA
  rw [oL_data, List.getD_eq_getElem?_getD, List.getElem?_append_right (Nat.le_refl _)]
  simp
theorem nuR_dec : ∀ (d : List UInt8) (f : Nat) (p r : List UInt8) (c : UInt8) (a : Nat), (∀ e ∈ d, 48 ≤ e.toNat ∧ e.toNat ≤ 57) → ¬ (48 ≤ c.toNat ∧ c.toNat ≤ 57) → d.length ≤ f → p.length + f = 10 →
    nuR (oL (p ++ (d ++ c :: r))) f p.length (a : Int) = (((valD a d : Nat) : Int), p.length + d.length)
  | [], 0, p, r, c, a, _, _, _, _ => rfl
  | [], f + 1, p, r, c, a, _, hc, _, _ => by
    have e : nuR (oL (p ++ ([] ++ c :: r))) (f + 1) p.length (a : Int) = bif contB (oL (p ++ ([] ++ c :: r))) p.length then nuR (oL (p ++ ([] ++ c :: r))) f (p.length + 1) (10 * (a : Int) + (byA (oL (p ++ ([] ++ c :: r))) p.length - 48)) else ((a : Int), p.length) := rfl
    have e2 : contB (oL (p ++ ([] ++ c :: r))) p.length = false := by
      unfold contB
      rw [List.nil_append, byA_at]
      by_cases h1 : 48 ≤ c.toNat
      · rw [decide_eq_false (by omega : ¬ (c.toNat : Int) ≤ 57)]
        simp
      · rw [decide_eq_false (by omega : ¬ (c.toNat : Int) ≥ 48)]
        simp
    rw [e, e2]
    rfl
  | g :: d, f + 1, p, r, c, a, hd, hc, hl, hf => by
    have hg := hd g List.mem_cons_self
    have e : nuR (oL (p ++ (g :: d ++ c :: r))) (f + 1) p.length (a : Int) = bif contB (oL (p ++ (g :: d ++ c :: r))) p.length then nuR (oL (p ++ (g :: d ++ c :: r))) f (p.length + 1) (10 * (a : Int) + (byA (oL (p ++ (g :: d ++ c :: r))) p.length - 48)) else ((a : Int), p.length) := rfl
    have e2 : contB (oL (p ++ (g :: d ++ c :: r))) p.length = true := by
      unfold contB
      rw [List.cons_append, byA_at, oL_size, decide_eq_true (by simp only [List.length_append, List.length_cons]; omega : ((p.length : Nat) : Int) < (((p ++ g :: (d ++ c :: r)).length : Nat) : Int)), decide_eq_true (by omega : (g.toNat : Int) ≥ 48), decide_eq_true (by omega : (g.toNat : Int) ≤ 57), decide_eq_true (by omega : ((p.length : Nat) : Int) < 10)]
      rfl
    have ih := nuR_dec d f (p ++ [g]) r c (10 * a + (g.toNat - 48)) (fun x hx => hd x (List.mem_cons_of_mem _ hx)) hc (by simp at hl; omega) (by simp; omega)
    have el : p ++ [g] ++ (d ++ c :: r) = p ++ (g :: d ++ c :: r) := by simp
    have ep : (p ++ [g]).length = p.length + 1 := by simp
    rw [el, ep] at ih
    have ea : 10 * (a : Int) + (byA (oL (p ++ (g :: d ++ c :: r))) p.length - 48) = ((10 * a + (g.toNat - 48) : Nat) : Int) := by
      rw [List.cons_append, byA_at]
      omega
    rw [e, e2, ea]
    show nuR _ f (p.length + 1) _ = _
    rw [ih]
    show (_, _) = (_, _)
    rw [List.length_cons, show p.length + 1 + d.length = p.length + (d.length + 1) by omega]
    rfl
theorem dec_sh : ∀ (k u : Nat), u < 10 ^ (k + 1) → (decDigits u).length ≤ k + 1
  | 0, u, h => by rw [dec_small (by simpa using h)]; exact Nat.le_refl _
  | k + 1, u, h => by
    by_cases hu : u < 10
    · rw [dec_small hu]
      show 1 ≤ _
      omega
    · rw [dec_big hu, List.length_append]
      have := dec_sh k (u / 10) (by rw [Nat.pow_succ] at h; omega)
      show _ + 1 ≤ _
      omega
theorem ngB_eq (c : UInt8) (l : List UInt8) : ngB (oL (c :: l)) = (c == 45) := by
  have e1 : byA (oL (c :: l)) 0 = (c.toNat : Int) := byA_at [] l c
  unfold ngB
  rw [e1, oL_toList]
  have e2 : ((ByteArray.mk #[]).toList) = ([] : List UInt8) := by rw [Go.ByteArray.toList_eq]
  rw [e2]
  have e3 : (c :: l == ([] : List UInt8)) = false := rfl
  rw [e3]
  by_cases h : c = 45
  · subst h
    rfl
  · have hn : c.toNat ≠ 45 := fun e => h (UInt8.toNat_inj.1 e)
    rw [beq_eq_false_iff_ne.2 h, beq_eq_false_iff_ne.2 (by omega : (c.toNat : Int) ≠ 45)]
    rfl
/-- The reference's number reads a small numeral. -/
theorem nu_itoa {n : Int} (h : -1048576 ≤ n ∧ n ≤ 1048576) (c : UInt8) (r : List UInt8) (hc : ¬ (48 ≤ c.toNat ∧ c.toNat ≤ 57)) : nN (oL (Lib.itoa n ++ c :: r)) = n ∧ nI (oL (Lib.itoa n ++ c :: r)) = ((Lib.itoa n).length : Int) := by
  by_cases h0 : n < 0
  · have ei : Lib.itoa n = 45 :: decDigits n.natAbs := by unfold Lib.itoa; rw [if_pos h0]
    have eg : ngB (oL (Lib.itoa n ++ c :: r)) = true := by rw [ei, List.cons_append, ngB_eq]; rfl
    have ed := nuR_dec (decDigits n.natAbs) 9 [45] r c 0 (fun e he => dec_chars he) hc (by have := dec_sh 8 n.natAbs (by omega); omega) rfl
    have el : [45] ++ (decDigits n.natAbs ++ c :: r) = Lib.itoa n ++ c :: r := by rw [ei]; rfl
    rw [el, dec_val] at ed
    have ep : nuP (oL (Lib.itoa n ++ c :: r)) = ((n.natAbs : Int), 1 + (decDigits n.natAbs).length) := by
      unfold nuP
      rw [eg]
      exact ed
    refine ⟨?_, ?_⟩
    · unfold nN
      rw [eg, ep]
      show -(n.natAbs : Int) = n
      omega
    · unfold nI
      rw [ep, ei]
      show ((1 + (decDigits n.natAbs).length : Nat) : Int) = ((decDigits n.natAbs).length + 1 : Nat)
      omega
  · have ei : Lib.itoa n = decDigits n.toNat := by unfold Lib.itoa; rw [if_neg h0]
    have eg : ngB (oL (Lib.itoa n ++ c :: r)) = false := by
      rw [ei]
      cases hd : decDigits n.toNat with
      | nil => exact absurd hd (dec_ne _)
      | cons g d =>
        have hg := dec_chars (u := n.toNat) (c := g) (by rw [hd]; exact List.mem_cons_self)
        rw [List.cons_append, ngB_eq]
        exact beq_eq_false_iff_ne.2 (fun e => by subst e; revert hg; decide)
    have ed := nuR_dec (decDigits n.toNat) 10 [] r c 0 (fun e he => dec_chars he) hc (by have := dec_sh 8 n.toNat (by omega); omega) rfl
    have el : [] ++ (decDigits n.toNat ++ c :: r) = Lib.itoa n ++ c :: r := by rw [ei]; rfl
    rw [el, dec_val] at ed
    have ep : nuP (oL (Lib.itoa n ++ c :: r)) = ((n.toNat : Int), 0 + (decDigits n.toNat).length) := by
      unfold nuP
      rw [eg]
      exact ed
    refine ⟨?_, ?_⟩
    · unfold nN
      rw [eg, ep]
      show (n.toNat : Int) = n
      omega
    · unfold nI
      rw [ep, ei]
      show ((0 + (decDigits n.toNat).length : Nat) : Int) = ((decDigits n.toNat).length : Nat)
      omega
end Go.Proofs.YtpfignfgfhbblaaGreatDoorC
/- The reference's Parse of points. Printed by a program (wip/tools); Lean checks each. -/
namespace Go.Proofs.YtpfignfgfhbblaaGreatDoorC
open Go.Proofs Go.Proofs.YtpfignfgfhbblaaGreatDoorSx Go.Lib
set_option maxRecDepth 100000
set_option linter.unusedVariables false
def rPp (s : ByteArray) : Value :=
  bif (s.toList == (ByteArray.mk #[]).toList) then (.tuple #[(.agg #[(.int .i64 (0)), (.int .i64 (0))]), (.int .i64 (21))])
  else bif (decide (IntKind.i64.wrap (nI (s.extract (Int.toNat 1) ((s.size : Int)).toNat) + 2) > (s.size : Int))) then (.tuple #[(.agg #[(.int .i64 (0)), (.int .i64 (0))]), (.int .i64 (21))])
    else bif (!(oL (prG (nN (s.extract (Int.toNat 1) ((s.size : Int)).toNat)) (nN (s.extract (IntKind.i64.wrap (nI (s.extract (Int.toNat 1) ((s.size : Int)).toNat) + 2)).toNat ((s.size : Int)).toNat)))).toList == s.toList) then (.tuple #[(.agg #[(.int .i64 (0)), (.int .i64 (0))]), (.int .i64 (21))])
      else (.tuple #[(.agg #[(.int .i64 (nN (s.extract (Int.toNat 1) ((s.size : Int)).toNat))), (.int .i64 (nN (s.extract (IntKind.i64.wrap (nI (s.extract (Int.toNat 1) ((s.size : Int)).toNat) + 2)).toNat ((s.size : Int)).toNat)))]), (.int .i64 (0))])
theorem rPp_does (s : ByteArray) (hs : s.size ≤ 140737488355328) : Does cE 48 [] 0 [.v (st s)] (.v (rPp s)) [] 0 := by
  unfold rPp
  refine tbif (fun c1 => ?_) (fun c1 => ?_)
  · exact pth (fn := Tryz.f48) rfl (by kernel_rfl) [.t] (by kernel_rfl) (cj c1 cj0)
  · refine tbif (fun c2 => ?_) (fun c2 => ?_)
    · exact pth (fn := Tryz.f48) rfl (by kernel_rfl) [.f, .c (.v (.tuple #[(.int .i64 (nN (s.extract (Int.toNat 1) ((s.size : Int)).toNat))), (.int .i64 (nI (s.extract (Int.toNat 1) ((s.size : Int)).toNat)))])) [] 0, .t] (by kernel_rfl) (cj c1 (cj (sl1 c1) (cj (number2_does (s.extract (Int.toNat 1) ((s.size : Int)).toNat) (ext_le hs)) (cj c2 cj0))))
    · refine tbif (fun c3 => ?_) (fun c3 => ?_)
      · exact pth (fn := Tryz.f48) rfl (by kernel_rfl) [.f, .c (.v (.tuple #[(.int .i64 (nN (s.extract (Int.toNat 1) ((s.size : Int)).toNat))), (.int .i64 (nI (s.extract (Int.toNat 1) ((s.size : Int)).toNat)))])) [] 0, .f, .c (.v (.tuple #[(.int .i64 (nN (s.extract (IntKind.i64.wrap (nI (s.extract (Int.toNat 1) ((s.size : Int)).toNat) + 2)).toNat ((s.size : Int)).toNat))), (.int .i64 (nI (s.extract (IntKind.i64.wrap (nI (s.extract (Int.toNat 1) ((s.size : Int)).toNat) + 2)).toNat ((s.size : Int)).toNat)))])) [] 0, .c (.v (.string (oL (prG (nN (s.extract (Int.toNat 1) ((s.size : Int)).toNat)) (nN (s.extract (IntKind.i64.wrap (nI (s.extract (Int.toNat 1) ((s.size : Int)).toNat) + 2)).toNat ((s.size : Int)).toNat)))))) [] 0, .t] (by kernel_rfl) (cj c1 (cj (sl1 c1) (cj (number2_does (s.extract (Int.toNat 1) ((s.size : Int)).toNat) (ext_le hs)) (cj c2 (cj (sl2 hs (nI_b _) c2) (cj (number2_does (s.extract (IntKind.i64.wrap (nI (s.extract (Int.toNat 1) ((s.size : Int)).toNat) + 2)).toNat ((s.size : Int)).toNat) (ext_le hs)) (cj (rgprint_does (nN (s.extract (Int.toNat 1) ((s.size : Int)).toNat)) (nN (s.extract (IntKind.i64.wrap (nI (s.extract (Int.toNat 1) ((s.size : Int)).toNat) + 2)).toNat ((s.size : Int)).toNat)) (nN_64 _) (nN_64 _)) (cj c3 cj0))))))))
      · exact pth (fn := Tryz.f48) rfl (by kernel_rfl) [.f, .c (.v (.tuple #[(.int .i64 (nN (s.extract (Int.toNat 1) ((s.size : Int)).toNat))), (.int .i64 (nI (s.extract (Int.toNat 1) ((s.size : Int)).toNat)))])) [] 0, .f, .c (.v (.tuple #[(.int .i64 (nN (s.extract (IntKind.i64.wrap (nI (s.extract (Int.toNat 1) ((s.size : Int)).toNat) + 2)).toNat ((s.size : Int)).toNat))), (.int .i64 (nI (s.extract (IntKind.i64.wrap (nI (s.extract (Int.toNat 1) ((s.size : Int)).toNat) + 2)).toNat ((s.size : Int)).toNat)))])) [] 0, .c (.v (.string (oL (prG (nN (s.extract (Int.toNat 1) ((s.size : Int)).toNat)) (nN (s.extract (IntKind.i64.wrap (nI (s.extract (Int.toNat 1) ((s.size : Int)).toNat) + 2)).toNat ((s.size : Int)).toNat)))))) [] 0, .f] (by kernel_rfl) (cj c1 (cj (sl1 c1) (cj (number2_does (s.extract (Int.toNat 1) ((s.size : Int)).toNat) (ext_le hs)) (cj c2 (cj (sl2 hs (nI_b _) c2) (cj (number2_does (s.extract (IntKind.i64.wrap (nI (s.extract (Int.toNat 1) ((s.size : Int)).toNat) + 2)).toNat ((s.size : Int)).toNat) (ext_le hs)) (cj (rgprint_does (nN (s.extract (Int.toNat 1) ((s.size : Int)).toNat)) (nN (s.extract (IntKind.i64.wrap (nI (s.extract (Int.toNat 1) ((s.size : Int)).toNat) + 2)).toNat ((s.size : Int)).toNat)) (nN_64 _) (nN_64 _)) (cj c3 cj0))))))))
end Go.Proofs.YtpfignfgfhbblaaGreatDoorC
/- The reference's Parse of points: what a text comes to is gpL. -/
namespace Go.Proofs.YtpfignfgfhbblaaGreatDoorC
open Go.Proofs Go.Proofs.YtpfignfgfhbblaaGreatDoorSx Go.Lib
set_option maxRecDepth 100000
set_option linter.unusedVariables false
/-- The two numbers that the reference finds in a text. -/
def rgX (l : List UInt8) : Int := nN (oL (l.drop 1))
def rgI (l : List UInt8) : Nat := (nI (oL (l.drop 1))).toNat + 2
def rgY (l : List UInt8) : Int := nN (oL (l.drop (rgI l)))
def rgL (l : List UInt8) : Int × Int × Int :=
  bif l == [] then (0, 0, 21)
  else bif decide (l.length < rgI l) then (0, 0, 21)
    else bif !(prG (rgX l) (rgY l) == l) then (0, 0, 21)
      else (rgX l, rgY l, 0)
theorem ext_all (l : List UInt8) (k : Nat) : (oL l).extract k (((oL l).size : Nat) : Int).toNat = oL (l.drop k) := by
  rw [oL_ext, oL_size]
  congr 1
  rw [show ((l.length : Nat) : Int).toNat = l.length from rfl, List.take_of_length_le (by rw [List.length_drop]; omega)]
theorem rgparse_L (l : List UInt8) (hl : l.length ≤ 140737488355328) : Does cE 48 [] 0 [.v (st (oL l))] (.v (.tuple #[dc (rgL l).1 (rgL l).2.1, it (rgL l).2.2])) [] 0 := by
  have h := rPp_does (oL l) (by rw [oL_size]; omega)
  have e : rPp (oL l) = .tuple #[dc (rgL l).1 (rgL l).2.1, it (rgL l).2.2] := by
    have hb := nI_b (oL (l.drop 1))
    have e1 : (oL l).extract (Int.toNat 1) (((oL l).size : Nat) : Int).toNat = oL (l.drop 1) := ext_all l 1
    have e0 : ((ByteArray.mk #[]).toList) = ([] : List UInt8) := by rw [Go.ByteArray.toList_eq]
    have ew : IntKind.i64.wrap (nI (oL (l.drop 1)) + 2) = ((rgI l : Nat) : Int) := by
      unfold rgI
      rw [wrap64 (by omega) (by omega)]
      omega
    have e2 : (oL l).extract ((rgI l : Nat) : Int).toNat (((oL l).size : Nat) : Int).toNat = oL (l.drop (rgI l)) := ext_all l (rgI l)
    have e3 : decide (((rgI l : Nat) : Int) > (((oL l).size : Nat) : Int)) = decide (l.length < rgI l) := by
      rw [oL_size]
      exact decide_eq_decide.2 (by omega)
    unfold rPp
    rw [e1, ew, e2, e3, oL_toList, oL_toList, e0]
    show (bif l == [] then _ else bif decide (l.length < rgI l) then _ else bif !(prG (rgX l) (rgY l) == l) then _ else _) = _
    unfold rgL
    cases (l == []) <;> cases decide (l.length < rgI l) <;> cases (prG (rgX l) (rgY l) == l) <;> rfl
  rw [e] at h
  exact h
theorem rg_back {x y : Int} (h : rt x y = true) : rgL (prG x y) = (x, y, 0) := by
  have hb := rt_b (x := x) (y := y) (by rw [h]; rfl)
  have ep : prG x y = 60 :: (Lib.itoa x ++ 44 :: (Lib.itoa y ++ [62])) := by
    unfold prG
    rw [h]
    rfl
  have h1 := nu_itoa hb.1 44 (Lib.itoa y ++ [62]) (by decide)
  have h2 := nu_itoa hb.2 62 [] (by decide)
  have ex : rgX (prG x y) = x := by
    unfold rgX
    rw [ep]
    exact h1.1
  have ei : rgI (prG x y) = (Lib.itoa x).length + 2 := by
    unfold rgI
    rw [ep]
    show (nI (oL (Lib.itoa x ++ 44 :: (Lib.itoa y ++ [62])))).toNat + 2 = _
    rw [h1.2]
    rfl
  have ed : (prG x y).drop ((Lib.itoa x).length + 2) = Lib.itoa y ++ [62] := by
    rw [ep]
    show (Lib.itoa x ++ 44 :: (Lib.itoa y ++ [62])).drop ((Lib.itoa x).length + 1) = _
    rw [List.drop_append, List.drop_eq_nil_of_le (by omega), show (Lib.itoa x).length + 1 - (Lib.itoa x).length = 1 by omega]
    rfl
  have ey : rgY (prG x y) = y := by
    unfold rgY
    rw [ei, ed]
    exact h2.1
  have en : (prG x y == []) = false := by rw [ep]; rfl
  have el : decide ((prG x y).length < (Lib.itoa x).length + 2) = false := decide_eq_false (by rw [ep]; simp only [List.length_cons, List.length_append]; omega)
  unfold rgL
  rw [ei, ex, ey, en, el, beq_self_eq_true]
  rfl
/-- What a text comes to is a point that it says, or nothing: the reference's. -/
theorem rg_some (l : List UInt8) : rgL l = (0, 0, 21) ∨ ∃ x y, rt x y = true ∧ prG x y = l ∧ rgL l = (x, y, 0) := by
  unfold rgL
  cases hn : (l == []) with
  | true => exact .inl rfl
  | false =>
    cases decide (l.length < rgI l) with
    | true => exact .inl rfl
    | false =>
      cases hp : (prG (rgX l) (rgY l) == l) with
      | false => exact .inl rfl
      | true =>
        have hp := eq_of_beq hp
        refine .inr ⟨_, _, ?_, hp, rfl⟩
        cases hr : rt (rgX l) (rgY l) with
        | true => rfl
        | false =>
          have : prG (rgX l) (rgY l) = [] := by unfold prG; rw [hr]; rfl
          rw [this] at hp
          rw [← hp] at hn
          exact absurd hn (by decide)
theorem rgL_eq (l : List UInt8) : rgL l = gpL l := by
  rcases rg_some l with h | ⟨x, y, hr, hp, h⟩
  · rcases gp_some l with g | ⟨x, y, hr, hp, g⟩
    · rw [h, g]
    · rw [← hp, rg_back hr, gp_back hr]
  · rw [← hp, rg_back hr, gp_back hr]
/-- The reference's Parse is the program's. -/
theorem rgparse_does (l : List UInt8) (hl : l.length ≤ 140737488355328) : Does cE 48 [] 0 [.v (st (oL l))] (.v (.tuple #[dc (gpL l).1 (gpL l).2.1, it (gpL l).2.2])) [] 0 := by
  have h := rgparse_L l hl
  rw [rgL_eq] at h
  exact h
end Go.Proofs.YtpfignfgfhbblaaGreatDoorC
/-
  DERIVED: THE SHELF's CONTRACTS AT THIS DUMP, IN PLAIN WORDS (tools/lay-plain.mjs out of 'YtpfignfgfhbblaaGreatDoorSRx.lean', which tools/lay-shelf.mjs wrote): THE SAME DECLARATIONS UNDER THE SAME NAMES: 'import', 'namespace', 'open', 'def', 'theorem' AND NOTHING ELSE: no command of the shelf's: FOR A HAND-IN. Each laying: the table of numbers ('.._ren') and one theorem, a field a fact of the dump's own or the kernel's comparison; each contract: ONE APPLICATION.
-/
namespace Go.Proofs
open Go.Shelf
def Tryz.laysReplaceAll_ren : Go.Shelf.Ren := ⟨fun | 155 => 52 | 154 => 109 | 138 => 161 | 165 => 121 | 143 => 154 | 166 => 122 | 197 => 162 | 169 => 123 | 195 => 192 | 218 => 193 | 240 => 166 | 241 => 167 | 219 => 185 | 260 => 194 | 276 => 196 | 277 => 197 | 217 => 115 | 225 => 208 | 224 => 209 | 267 => 210 | 266 => 164 | 314 => 221 | n => n, fun | 9 => 9 | 3 => 3 | 4 => 4 | 72 => 159 | 0 => 0 | 76 => 163 | 105 => 203 | 21 => 21 | 5 => 5 | 70 => 157 | 20 => 20 | 37 => 56 | 75 => 162 | 127 => 206 | 164 => 226 | 46 => 172 | 119 => 197 | 139 => 200 | 138 => 199 | 146 => 223 | 51 => 222 | 80 => 115 | n => n, fun | 1 => 2 | 3 => 0 | 4 => 1 | n => n⟩
theorem Tryz.laysReplaceAll : Go.Proofs.Lays.n155 Tryz.prog Tryz.laysReplaceAll_ren := {
  mixed := by kernel_rfl
  f138 := Tryz.func161.trans (congrArg some (by kernel_rfl))
  f143 := Tryz.func154.trans (congrArg some (by kernel_rfl))
  f154 := Tryz.func109.trans (congrArg some (by kernel_rfl))
  f155 := Tryz.func52.trans (congrArg some (by kernel_rfl))
  f165 := Tryz.func121.trans (congrArg some (by kernel_rfl))
  f166 := Tryz.func122.trans (congrArg some (by kernel_rfl))
  f169 := Tryz.func123.trans (congrArg some (by kernel_rfl))
  f195 := Tryz.func192.trans (congrArg some (by kernel_rfl))
  f197 := Tryz.func162.trans (congrArg some (by kernel_rfl))
  f217 := Tryz.func115.trans (congrArg some (by kernel_rfl))
  f218 := Tryz.func193.trans (congrArg some (by kernel_rfl))
  f219 := Tryz.func185.trans (congrArg some (by kernel_rfl))
  f224 := Tryz.func209.trans (congrArg some (by kernel_rfl))
  f225 := Tryz.func208.trans (congrArg some (by kernel_rfl))
  f240 := Tryz.func166.trans (congrArg some (by kernel_rfl))
  f241 := Tryz.func167.trans (congrArg some (by kernel_rfl))
  f260 := Tryz.func194.trans (congrArg some (by kernel_rfl))
  f266 := Tryz.func164.trans (congrArg some (by kernel_rfl))
  f267 := Tryz.func210.trans (congrArg some (by kernel_rfl))
  f276 := Tryz.func196.trans (congrArg some (by kernel_rfl))
  f277 := Tryz.func197.trans (congrArg some (by kernel_rfl))
  f314 := Tryz.func221.trans (congrArg some (by kernel_rfl))
  t0 := Tryz.underlying0
  a0 := Tryz.isAgg0
  z0 := Tryz.sizeOf0
  v0 := Tryz.zeroValue0
  t3 := Tryz.underlying3
  a3 := Tryz.isAgg3
  z3 := Tryz.sizeOf3
  v3 := Tryz.zeroValue3
  t4 := Tryz.underlying4
  a4 := Tryz.isAgg4
  z4 := Tryz.sizeOf4
  v4 := Tryz.zeroValue4
  t5 := Tryz.underlying5
  a5 := Tryz.isAgg5
  z5 := Tryz.sizeOf5
  v5 := Tryz.zeroValue5
  t9 := Tryz.underlying9
  a9 := Tryz.isAgg9
  z9 := Tryz.sizeOf9
  v9 := Tryz.zeroValue9
  t20 := Tryz.underlying20
  a20 := Tryz.isAgg20
  z20 := Tryz.sizeOf20
  v20 := Tryz.zeroValue20
  t21 := Tryz.underlying21
  a21 := Tryz.isAgg21
  z21 := Tryz.sizeOf21
  v21 := Tryz.zeroValue21
  t37 := Tryz.underlying56
  a37 := Tryz.isAgg56
  z37 := Tryz.sizeOf56
  v37 := Tryz.zeroValue56
  t46 := Tryz.underlying172
  a46 := Tryz.isAgg172
  z46 := Tryz.sizeOf172
  v46 := Tryz.zeroValue172
  t51 := Tryz.underlying222
  a51 := Tryz.isAgg222
  z51 := Tryz.sizeOf222
  v51 := Tryz.zeroValue222
  t70 := Tryz.underlying157
  a70 := Tryz.isAgg157
  z70 := Tryz.sizeOf157
  v70 := Tryz.zeroValue157
  t72 := Tryz.underlying159
  a72 := Tryz.isAgg159
  z72 := Tryz.sizeOf159
  v72 := Tryz.zeroValue159
  t75 := Tryz.underlying162
  a75 := Tryz.isAgg162
  z75 := Tryz.sizeOf162
  v75 := Tryz.zeroValue162
  t76 := Tryz.underlying163
  a76 := Tryz.isAgg163
  z76 := Tryz.sizeOf163
  v76 := Tryz.zeroValue163
  t105 := Tryz.underlying203
  a105 := Tryz.isAgg203
  z105 := Tryz.sizeOf203
  v105 := Tryz.zeroValue203
  t119 := Tryz.underlying197
  a119 := Tryz.isAgg197
  z119 := Tryz.sizeOf197
  t127 := Tryz.underlying206
  a127 := Tryz.isAgg206
  z127 := Tryz.sizeOf206
  v127 := Tryz.zeroValue206
  t138 := Tryz.underlying199
  a138 := Tryz.isAgg199
  z138 := Tryz.sizeOf199
  v138 := Tryz.zeroValue199
  t139 := Tryz.underlying200
  a139 := Tryz.isAgg200
  z139 := Tryz.sizeOf200
  v139 := Tryz.zeroValue200
  t146 := Tryz.underlying223
  a146 := Tryz.isAgg223
  z146 := Tryz.sizeOf223
  v146 := Tryz.zeroValue223
  t164 := Tryz.underlying226
  a164 := Tryz.isAgg226
  z164 := Tryz.sizeOf226
  v164 := Tryz.zeroValue226
  g1 := by kernel_rfl
  g3 := by kernel_rfl
  g4 := by kernel_rfl }
end Go.Proofs
namespace Go.Proofs.YtpfignfgfhbblaaGreatDoorC
open Go.Proofs Go.Proofs.YtpfignfgfhbblaaGreatDoorSx Go.Shelf
set_option maxRecDepth 100000
theorem extraR : Builder.Extra Tryz.prog Tryz.laysReplaceAll_ren where
  sizeBuilder := by kernel_rfl
  liesBuilder := by kernel_rfl
  t5 := Tryz.laysReplaceAll.t5
  a5 := Tryz.laysReplaceAll.a5
  z5 := Tryz.laysReplaceAll.z5
  v5 := Tryz.laysReplaceAll.v5
  infoByte := by kernel_rfl
  cellsByte := by kernel_rfl
  sizeByte := by kernel_rfl
  neB5 := by decide
/-- strings.ReplaceAll, of what is not empty, where the strings are not too long. -/
theorem replaceAll_does (s old new : ByteArray) (hs : s.size < 4294967281) (h1 : 1 ≤ old.size) (hlen : s.size + Lib.countB s old * new.size ≤ 140737488355328) :
    Does cE 52 [] 0 [.v (.string s), .v (.string old), .v (.string new)] (.v (.string ⟨(Lib.replaceAll s.data.toList old.data.toList new.data.toList).toArray⟩)) [] 0 := by
  refine does_lib (l := [.string s, .string old, .string new]) (enters (fn := Tryz.f52) rfl (by kernel_rfl) rfl) (fun w hg => ?_)
  obtain ⟨_, v, hm, m, rfl⟩ := hg.2 2 _ rfl
  exact Any.strings_ReplaceAll Tryz.laysReplaceAll extraR s old new m w hs hm h1 hlen
end Go.Proofs.YtpfignfgfhbblaaGreatDoorC
/- strings.ReplaceAll of ' by '': told. -/
namespace Go.Proofs.YtpfignfgfhbblaaGreatDoorC
open Go.Proofs Go.Proofs.YtpfignfgfhbblaaGreatDoorSx Go.Lib
set_option maxRecDepth 100000
set_option linter.unusedVariables false
/-- Each ' twice. -/
def dbl : List UInt8 → List UInt8
  | [] => []
  | c :: l => bif c == 39 then 39 :: 39 :: dbl l else c :: dbl l
theorem repK_ne (k : Nat) (b : UInt8) (l : List UInt8) (h : b ≠ 39) : Lib.replaceK [39] [39, 39] k (b :: l) = b :: Lib.replaceK [39] [39, 39] k l := by
  cases k with
  | zero => rfl
  | succ k =>
    have hp : ([39] : List UInt8).isPrefixOf (b :: l) = false := by simp [List.isPrefixOf, Ne.symm h]
    have hix : Lib.index (b :: l) [39] = if Lib.index l [39] == -1 then -1 else Lib.index l [39] + 1 := by rw [Lib.index, hp]; simp
    by_cases hm : Lib.index l [39] = -1
    · have e1 : Lib.index (b :: l) [39] = -1 := by rw [hix, if_pos (beq_iff_eq.2 hm)]
      rw [Lib.replaceK, Lib.replaceK, if_pos (beq_iff_eq.2 e1), if_pos (beq_iff_eq.2 hm)]
    · have hge := Lib.index_ge l [39]
      obtain ⟨j, hj⟩ : ∃ j : Nat, Lib.index l [39] = j := ⟨(Lib.index l [39]).toNat, by omega⟩
      have hix' : Lib.index (b :: l) [39] = ((j + 1 : Nat) : Int) := by rw [hix, if_neg (fun e => hm (beq_iff_eq.1 e)), hj]; omega
      rw [Lib.replaceK_hit _ _ _ _ _ hix', Lib.replaceK_hit _ _ _ _ _ hj]
      have e2 : j + 1 + ([39] : List UInt8).length = (j + ([39] : List UInt8).length) + 1 := by simp
      rw [e2]
      rfl
theorem repK_dbl : ∀ l : List UInt8, Lib.replaceK [39] [39, 39] (Lib.count l [39]) l = dbl l
  | [] => by rw [Lib.count_miss (by simp [Lib.index])]; rfl
  | b :: l => by
    by_cases h : b = 39
    · subst h
      have hix : Lib.index (39 :: l) [39] = ((0 : Nat) : Int) := by rw [Lib.index]; simp [List.isPrefixOf]
      rw [Lib.count_cons_eq, Nat.add_comm, Lib.replaceK_hit _ _ _ _ _ hix]
      show 39 :: 39 :: Lib.replaceK [39] [39, 39] (Lib.count l [39]) l = _
      rw [repK_dbl l]
      rfl
    · rw [Lib.count_cons_ne b 39 l h, repK_ne _ _ _ h, repK_dbl l]
      show _ = bif b == 39 then _ else _
      rw [beq_eq_false_iff_ne.2 h]
      rfl
theorem rep_dbl (l : List UInt8) : Lib.replaceAll l [39] [39, 39] = dbl l := by
  unfold Lib.replaceAll Lib.replace Lib.replaceNum
  rw [if_neg (by decide), if_pos (.inl (by decide))]
  exact repK_dbl l
theorem count_sz (l : List UInt8) : Lib.count l [39] ≤ l.length := by
  rw [Lib.count_one]
  exact List.count_le_length
theorem dbl_len : ∀ l : List UInt8, (dbl l).length ≤ 2 * l.length
  | [] => Nat.le_refl _
  | c :: l => by
    have := dbl_len l
    unfold dbl
    cases (c == 39)
    · show (dbl l).length + 1 ≤ 2 * (l.length + 1)
      omega
    · show (dbl l).length + 1 + 1 ≤ 2 * (l.length + 1)
      omega
theorem dbl_app : ∀ (a b : List UInt8), dbl (a ++ b) = dbl a ++ dbl b
  | [], b => rfl
  | c :: a, b => by
    have ih := dbl_app a b
    show (bif c == 39 then 39 :: 39 :: dbl (a ++ b) else c :: dbl (a ++ b)) = (bif c == 39 then _ else _) ++ _
    rw [ih]
    cases (c == 39) <;> rfl
theorem repl_does (l : List UInt8) (hl : l.length ≤ 4294967280) : Does cE 52 [] 0 [.v (st (oL l)), .v (st (ByteArray.mk #[39])), .v (st (ByteArray.mk #[39, 39]))] (.v (st (oL (dbl l)))) [] 0 := by
  have hc : Lib.countB (oL l) (ByteArray.mk #[39]) ≤ l.length := by
    unfold Lib.countB
    rw [oL_data]
    exact count_sz l
  have h := replaceAll_does (oL l) (ByteArray.mk #[39]) (ByteArray.mk #[39, 39]) (by rw [oL_size]; omega) (by decide) (by
    rw [oL_size, show (ByteArray.mk #[39, 39]).size = 2 from rfl]
    omega)
  rw [oL_data, show (ByteArray.mk #[39]).data.toList = [39] from rfl, show (ByteArray.mk #[39, 39]).data.toList = [39, 39] from rfl, rep_dbl] at h
  exact h
end Go.Proofs.YtpfignfgfhbblaaGreatDoorC
/- Each path of each function: on which conditions it is taken, what it gives. Printed by a program (wip/tools/sxexp2.lean); Lean checks each. -/
namespace Go.Proofs.YtpfignfgfhbblaaGreatDoorC
open Go.Proofs Go.Proofs.YtpfignfgfhbblaaGreatDoorSx
set_option maxRecDepth 100000
set_option linter.unusedVariables false

theorem pOf_1 (t : Int) (h0 : (t == 0) = true) (h1 : (t == 2) = true) : Does cE 91 [] 0 [.v (it t)] (.v (.agg #[(.int .i64 (0)), (.int .i64 (0)), (.int .i64 (0)), (.string ((ByteArray.mk #[])))])) [] 0 :=
  does_path (ct := ct) ctOk mixed (fn := Tryz.f91) rfl (by kernel_rfl) 2000 [.e, .t, .t, .t, .l, .t] (by kernel_rfl) (cj h0 (cj h0 (cj h0 (cj h1 cj0))))
theorem pOf_2 (t : Int) (h0 : (t == 0) = true) (h1 : (t == 2) = false) : Does cE 91 [] 0 [.v (it t)] (.v (.agg #[(.int .i64 (4)), (.int .i64 (t)), (.int .i64 (0)), (.string ((ByteArray.mk #[])))])) [] 0 :=
  does_path (ct := ct) ctOk mixed (fn := Tryz.f91) rfl (by kernel_rfl) 2000 [.e, .t, .t, .t, .l, .f] (by kernel_rfl) (cj h0 (cj h0 (cj h0 (cj h1 cj0))))
theorem pOf_3 (t : Int) (h0 : (t == 0) = false) (h1 : (t == 1) = true) (h2 : (t == 2) = true) : Does cE 91 [] 0 [.v (it t)] (.v (.agg #[(.int .i64 (0)), (.int .i64 (0)), (.int .i64 (0)), (.string ((ByteArray.mk #[])))])) [] 0 :=
  does_path (ct := ct) ctOk mixed (fn := Tryz.f91) rfl (by kernel_rfl) 2000 [.e, .f, .f, .f, .t, .t] (by kernel_rfl) (cj h0 (cj h0 (cj h0 (cj h1 (cj h2 cj0)))))
theorem pOf_4 (t : Int) (h0 : (t == 0) = false) (h1 : (t == 1) = true) (h2 : (t == 2) = false) : Does cE 91 [] 0 [.v (it t)] (.v (.agg #[(.int .i64 (4)), (.int .i64 (t)), (.int .i64 (0)), (.string ((ByteArray.mk #[])))])) [] 0 :=
  does_path (ct := ct) ctOk mixed (fn := Tryz.f91) rfl (by kernel_rfl) 2000 [.e, .f, .f, .f, .t, .f] (by kernel_rfl) (cj h0 (cj h0 (cj h0 (cj h1 (cj h2 cj0)))))
theorem pOf_5 (t : Int) (h0 : (t == 0) = false) (h1 : (t == 1) = false) : Does cE 91 [] 0 [.v (it t)] (.v (.agg #[(.int .i64 (0)), (.int .i64 (0)), (.int .i64 (0)), (.string ((ByteArray.mk #[])))])) [] 0 :=
  does_path (ct := ct) ctOk mixed (fn := Tryz.f91) rfl (by kernel_rfl) 2000 [.e, .f, .f, .f, .f, .l] (by kernel_rfl) (cj h0 (cj h0 (cj h0 (cj h1 cj0))))
theorem pNot_1 (a : Int) (h0 : (a == 0) = true) (h1 : (a == 2) = true) : Does cE 59 [] 0 [.v (it a)] (.v (.int .i64 (2))) [] 0 :=
  does_path (ct := ct) ctOk mixed (fn := Tryz.f59) rfl (by kernel_rfl) 2000 [.e, .t, .t, .t, .l, .t] (by kernel_rfl) (cj h0 (cj h0 (cj h0 (cj h1 cj0))))
theorem pNot_2 (a : Int) (h0 : (a == 0) = true) (h1 : (a == 2) = false) : Does cE 59 [] 0 [.v (it a)] (.v (.int .i64 (IntKind.i64.wrap (1 - a)))) [] 0 :=
  does_path (ct := ct) ctOk mixed (fn := Tryz.f59) rfl (by kernel_rfl) 2000 [.e, .t, .t, .t, .l, .f] (by kernel_rfl) (cj h0 (cj h0 (cj h0 (cj h1 cj0))))
theorem pNot_3 (a : Int) (h0 : (a == 0) = false) (h1 : (a == 1) = true) (h2 : (a == 2) = true) : Does cE 59 [] 0 [.v (it a)] (.v (.int .i64 (2))) [] 0 :=
  does_path (ct := ct) ctOk mixed (fn := Tryz.f59) rfl (by kernel_rfl) 2000 [.e, .f, .f, .f, .t, .t] (by kernel_rfl) (cj h0 (cj h0 (cj h0 (cj h1 (cj h2 cj0)))))
theorem pNot_4 (a : Int) (h0 : (a == 0) = false) (h1 : (a == 1) = true) (h2 : (a == 2) = false) : Does cE 59 [] 0 [.v (it a)] (.v (.int .i64 (IntKind.i64.wrap (1 - a)))) [] 0 :=
  does_path (ct := ct) ctOk mixed (fn := Tryz.f59) rfl (by kernel_rfl) 2000 [.e, .f, .f, .f, .t, .f] (by kernel_rfl) (cj h0 (cj h0 (cj h0 (cj h1 (cj h2 cj0)))))
theorem pNot_5 (a : Int) (h0 : (a == 0) = false) (h1 : (a == 1) = false) : Does cE 59 [] 0 [.v (it a)] (.v (.int .i64 (2))) [] 0 :=
  does_path (ct := ct) ctOk mixed (fn := Tryz.f59) rfl (by kernel_rfl) 2000 [.e, .f, .f, .f, .f, .l] (by kernel_rfl) (cj h0 (cj h0 (cj h0 (cj h1 cj0))))
theorem pOr_1 (a b : Int) (h0 : (a == 0) = true) (h1 : (b == 0) = true) (h2 : (a == 1) = true) : Does cE 58 [] 0 [.v (it a), .v (it b)] (.v (.int .i64 (1))) [] 0 :=
  does_path (ct := ct) ctOk mixed (fn := Tryz.f58) rfl (by kernel_rfl) 2000 [.e, .t, .t, .t, .l, .e, .t, .t, .t, .l, .t, .t, .t, .l] (by kernel_rfl) (cj h0 (cj h0 (cj h0 (cj h1 (cj h1 (cj h1 (cj h2 (cj h2 (cj h2 cj0)))))))))
theorem pOr_2 (a b : Int) (h0 : (a == 0) = true) (h1 : (b == 0) = true) (h2 : (a == 1) = false) (h3 : (b == 1) = true) : Does cE 58 [] 0 [.v (it a), .v (it b)] (.v (.int .i64 (1))) [] 0 :=
  does_path (ct := ct) ctOk mixed (fn := Tryz.f58) rfl (by kernel_rfl) 2000 [.e, .t, .t, .t, .l, .e, .t, .t, .t, .l, .f, .f, .f, .t] (by kernel_rfl) (cj h0 (cj h0 (cj h0 (cj h1 (cj h1 (cj h1 (cj h2 (cj h2 (cj h2 (cj h3 cj0))))))))))
theorem pOr_3 (a b : Int) (h0 : (a == 0) = true) (h1 : (b == 0) = true) (h2 : (a == 1) = false) (h3 : (b == 1) = false) : Does cE 58 [] 0 [.v (it a), .v (it b)] (.v (.int .i64 (if b > a then b else a))) [] 0 :=
  does_path (ct := ct) ctOk mixed (fn := Tryz.f58) rfl (by kernel_rfl) 2000 [.e, .t, .t, .t, .l, .e, .t, .t, .t, .l, .f, .f, .f, .f] (by kernel_rfl) (cj h0 (cj h0 (cj h0 (cj h1 (cj h1 (cj h1 (cj h2 (cj h2 (cj h2 (cj h3 cj0))))))))))
theorem pOr_4 (a b : Int) (h0 : (a == 0) = true) (h1 : (b == 0) = false) (h2 : (b == 1) = true) (h3 : (a == 1) = true) : Does cE 58 [] 0 [.v (it a), .v (it b)] (.v (.int .i64 (1))) [] 0 :=
  does_path (ct := ct) ctOk mixed (fn := Tryz.f58) rfl (by kernel_rfl) 2000 [.e, .t, .t, .t, .l, .e, .f, .f, .f, .t, .t, .t, .t, .l] (by kernel_rfl) (cj h0 (cj h0 (cj h0 (cj h1 (cj h1 (cj h1 (cj h2 (cj h3 (cj h3 (cj h3 cj0))))))))))
theorem pOr_5 (a b : Int) (h0 : (a == 0) = true) (h1 : (b == 0) = false) (h2 : (b == 1) = true) (h3 : (a == 1) = false) : Does cE 58 [] 0 [.v (it a), .v (it b)] (.v (.int .i64 (1))) [] 0 :=
  does_path (ct := ct) ctOk mixed (fn := Tryz.f58) rfl (by kernel_rfl) 2000 [.e, .t, .t, .t, .l, .e, .f, .f, .f, .t, .f, .f, .f, .t] (by kernel_rfl) (cj h0 (cj h0 (cj h0 (cj h1 (cj h1 (cj h1 (cj h2 (cj h3 (cj h3 (cj h3 (cj h2 cj0)))))))))))
theorem pOr_6 (a b : Int) (h0 : (a == 0) = true) (h1 : (b == 0) = false) (h2 : (b == 1) = false) (h3 : (a == 1) = true) : Does cE 58 [] 0 [.v (it a), .v (it b)] (.v (.int .i64 (1))) [] 0 :=
  does_path (ct := ct) ctOk mixed (fn := Tryz.f58) rfl (by kernel_rfl) 2000 [.e, .t, .t, .t, .l, .e, .f, .f, .f, .f, .t, .t, .t, .l] (by kernel_rfl) (cj h0 (cj h0 (cj h0 (cj h1 (cj h1 (cj h1 (cj h2 (cj h3 (cj h3 (cj h3 cj0))))))))))
theorem pOr_7 (a b : Int) (h0 : (a == 0) = true) (h1 : (b == 0) = false) (h2 : (b == 1) = false) (h3 : (a == 1) = false) : Does cE 58 [] 0 [.v (it a), .v (it b)] (.v (.int .i64 (if 2 > a then 2 else a))) [] 0 :=
  does_path (ct := ct) ctOk mixed (fn := Tryz.f58) rfl (by kernel_rfl) 2000 [.e, .t, .t, .t, .l, .e, .f, .f, .f, .f, .f, .f, .f, .l] (by kernel_rfl) (cj h0 (cj h0 (cj h0 (cj h1 (cj h1 (cj h1 (cj h2 (cj h3 (cj h3 (cj h3 cj0))))))))))
theorem pOr_8 (a b : Int) (h0 : (a == 0) = false) (h1 : (a == 1) = true) (h2 : (b == 0) = true) : Does cE 58 [] 0 [.v (it a), .v (it b)] (.v (.int .i64 (1))) [] 0 :=
  does_path (ct := ct) ctOk mixed (fn := Tryz.f58) rfl (by kernel_rfl) 2000 [.e, .f, .f, .f, .t, .e, .t, .t, .t, .l, .t, .t, .t, .l] (by kernel_rfl) (cj h0 (cj h0 (cj h0 (cj h1 (cj h2 (cj h2 (cj h2 (cj h1 (cj h1 (cj h1 cj0))))))))))
theorem pOr_9 (a b : Int) (h0 : (a == 0) = false) (h1 : (a == 1) = true) (h2 : (b == 0) = false) (h3 : (b == 1) = true) : Does cE 58 [] 0 [.v (it a), .v (it b)] (.v (.int .i64 (1))) [] 0 :=
  does_path (ct := ct) ctOk mixed (fn := Tryz.f58) rfl (by kernel_rfl) 2000 [.e, .f, .f, .f, .t, .e, .f, .f, .f, .t, .t, .t, .t, .l] (by kernel_rfl) (cj h0 (cj h0 (cj h0 (cj h1 (cj h2 (cj h2 (cj h2 (cj h3 (cj h1 (cj h1 (cj h1 cj0)))))))))))
theorem pOr_10 (a b : Int) (h0 : (a == 0) = false) (h1 : (a == 1) = true) (h2 : (b == 0) = false) (h3 : (b == 1) = false) : Does cE 58 [] 0 [.v (it a), .v (it b)] (.v (.int .i64 (1))) [] 0 :=
  does_path (ct := ct) ctOk mixed (fn := Tryz.f58) rfl (by kernel_rfl) 2000 [.e, .f, .f, .f, .t, .e, .f, .f, .f, .f, .t, .t, .t, .l] (by kernel_rfl) (cj h0 (cj h0 (cj h0 (cj h1 (cj h2 (cj h2 (cj h2 (cj h3 (cj h1 (cj h1 (cj h1 cj0)))))))))))
theorem pOr_11 (a b : Int) (h0 : (a == 0) = false) (h1 : (a == 1) = false) (h2 : (b == 0) = true) (h3 : (b == 1) = true) : Does cE 58 [] 0 [.v (it a), .v (it b)] (.v (.int .i64 (1))) [] 0 :=
  does_path (ct := ct) ctOk mixed (fn := Tryz.f58) rfl (by kernel_rfl) 2000 [.e, .f, .f, .f, .f, .e, .t, .t, .t, .l, .l, .l, .l, .t] (by kernel_rfl) (cj h0 (cj h0 (cj h0 (cj h1 (cj h2 (cj h2 (cj h2 (cj h3 cj0))))))))
theorem pOr_12 (a b : Int) (h0 : (a == 0) = false) (h1 : (a == 1) = false) (h2 : (b == 0) = true) (h3 : (b == 1) = false) : Does cE 58 [] 0 [.v (it a), .v (it b)] (.v (.int .i64 (if b > 2 then b else 2))) [] 0 :=
  does_path (ct := ct) ctOk mixed (fn := Tryz.f58) rfl (by kernel_rfl) 2000 [.e, .f, .f, .f, .f, .e, .t, .t, .t, .l, .l, .l, .l, .f] (by kernel_rfl) (cj h0 (cj h0 (cj h0 (cj h1 (cj h2 (cj h2 (cj h2 (cj h3 cj0))))))))
theorem pOr_13 (a b : Int) (h0 : (a == 0) = false) (h1 : (a == 1) = false) (h2 : (b == 0) = false) (h3 : (b == 1) = true) : Does cE 58 [] 0 [.v (it a), .v (it b)] (.v (.int .i64 (1))) [] 0 :=
  does_path (ct := ct) ctOk mixed (fn := Tryz.f58) rfl (by kernel_rfl) 2000 [.e, .f, .f, .f, .f, .e, .f, .f, .f, .t, .l, .l, .l, .t] (by kernel_rfl) (cj h0 (cj h0 (cj h0 (cj h1 (cj h2 (cj h2 (cj h2 (cj h3 (cj h3 cj0)))))))))
theorem pOr_14 (a b : Int) (h0 : (a == 0) = false) (h1 : (a == 1) = false) (h2 : (b == 0) = false) (h3 : (b == 1) = false) : Does cE 58 [] 0 [.v (it a), .v (it b)] (.v (.int .i64 (if 2 > 2 then 2 else 2))) [] 0 :=
  does_path (ct := ct) ctOk mixed (fn := Tryz.f58) rfl (by kernel_rfl) 2000 [.e, .f, .f, .f, .f, .e, .f, .f, .f, .f, .l, .l, .l, .l] (by kernel_rfl) (cj h0 (cj h0 (cj h0 (cj h1 (cj h2 (cj h2 (cj h2 (cj h3 cj0))))))))
theorem pAnd_1 (a b : Int) (i0 : Int) (i1 : Int) (i2 : Int) (i3 : Int) (h0 : Does cE 59 [] 0 [.v (.int .i64 (a))] (.v (.int .i64 (i0))) [] 0) (h1 : Does cE 59 [] 0 [.v (.int .i64 (b))] (.v (.int .i64 (i1))) [] 0) (h2 : Does cE 58 [] 0 [.v (.int .i64 (i0)), .v (.int .i64 (i1))] (.v (.int .i64 (i2))) [] 0) (h3 : Does cE 59 [] 0 [.v (.int .i64 (i2))] (.v (.int .i64 (i3))) [] 0) : Does cE 57 [] 0 [.v (it a), .v (it b)] (.v (.int .i64 (i3))) [] 0 :=
  does_path (ct := ct) ctOk mixed (fn := Tryz.f57) rfl (by kernel_rfl) 2000 [.c (.v (.int .i64 (i0))) [] 0, .c (.v (.int .i64 (i1))) [] 0, .c (.v (.int .i64 (i2))) [] 0, .c (.v (.int .i64 (i3))) [] 0] (by kernel_rfl) (cj h0 (cj h1 (cj h2 (cj h3 cj0))))
theorem pRt_1 (k n m : Int) (s : ByteArray) (h0 : (k == 0) = true) : Does cE 46 [] 0 [.v (vl k n m s)] (.v (.bool (k == 0 && (n == 0 && (m == 0 && (s == (ByteArray.mk #[]) && true)))))) [] 0 :=
  does_path (ct := ct) ctOk mixed (fn := Tryz.f46) rfl (by kernel_rfl) 2000 [.t] (by kernel_rfl) (cj h0 cj0)
theorem pRt_2 (k n m : Int) (s : ByteArray) (h0 : (k == 0) = false) (h1 : (k == 1) = true) : Does cE 46 [] 0 [.v (vl k n m s)] (.v (.bool (k == 1 && (n == n && (m == 0 && (s == (ByteArray.mk #[]) && true)))))) [] 0 :=
  does_path (ct := ct) ctOk mixed (fn := Tryz.f46) rfl (by kernel_rfl) 2000 [.f, .t] (by kernel_rfl) (cj h0 (cj h1 cj0))
theorem pRt_3 (k n m : Int) (s : ByteArray) (b0 : Bool) (h0 : (k == 0) = false) (h1 : (k == 1) = false) (h2 : (k == 2) = true) (h3 : (s.toList == (ByteArray.mk #[]).toList) = true) (h4 : Does cE 97 [] 0 [.v (.agg #[(.int .i64 (n)), (.int .i64 (m))])] (.v (.bool (b0))) [] 0) : Does cE 46 [] 0 [.v (vl k n m s)] (.v (.bool (b0))) [] 0 :=
  does_path (ct := ct) ctOk mixed (fn := Tryz.f46) rfl (by kernel_rfl) 2000 [.f, .f, .t, .t, .t, .e, .t, .c (.v (.bool (b0))) [] 0, .t] (by kernel_rfl) (cj h0 (cj h1 (cj h2 (cj h3 (cj h3 (cj h3 (cj h4 (cj h3 cj0))))))))
theorem pRt_4 (k n m : Int) (s : ByteArray) (h0 : (k == 0) = false) (h1 : (k == 1) = false) (h2 : (k == 2) = true) (h3 : (s.toList == (ByteArray.mk #[]).toList) = false) : Does cE 46 [] 0 [.v (vl k n m s)] (.v (.bool (false))) [] 0 :=
  does_path (ct := ct) ctOk mixed (fn := Tryz.f46) rfl (by kernel_rfl) 2000 [.f, .f, .t, .f, .f, .f, .f] (by kernel_rfl) (cj h0 (cj h1 (cj h2 (cj h3 (cj h3 (cj h3 (cj h3 cj0)))))))
theorem pRt_5 (k n m : Int) (s : ByteArray) (b0 : Bool) (h0 : (k == 0) = false) (h1 : (k == 1) = false) (h2 : (k == 2) = false) (h3 : (k == 3) = true) (h4 : (k == 3 && (n == 0 && (m == 0 && (s == s && true)))) = true) (h5 : decide ((s.size : Int) ≤ 256) = true) (h6 : Does cE 98 [] 0 [.v (.string (s))] (.v (.bool (b0))) [] 0) : Does cE 46 [] 0 [.v (vl k n m s)] (.v (.bool (b0))) [] 0 :=
  does_path (ct := ct) ctOk mixed (fn := Tryz.f46) rfl (by kernel_rfl) 2000 [.f, .f, .f, .t, .t, .t, .t, .t, .t, .t, .t, .t, .c (.v (.bool (b0))) [] 0, .t] (by kernel_rfl) (cj h0 (cj h1 (cj h2 (cj h3 (cj h4 (cj h4 (cj h4 (cj h4 (cj h4 (cj h5 (cj h5 (cj h5 (cj h6 (cj h5 cj0))))))))))))))
theorem pRt_6 (k n m : Int) (s : ByteArray) (h0 : (k == 0) = false) (h1 : (k == 1) = false) (h2 : (k == 2) = false) (h3 : (k == 3) = true) (h4 : (k == 3 && (n == 0 && (m == 0 && (s == s && true)))) = true) (h5 : decide ((s.size : Int) ≤ 256) = false) : Does cE 46 [] 0 [.v (vl k n m s)] (.v (.bool (false))) [] 0 :=
  does_path (ct := ct) ctOk mixed (fn := Tryz.f46) rfl (by kernel_rfl) 2000 [.f, .f, .f, .t, .t, .t, .t, .t, .t, .f, .f, .f, .f] (by kernel_rfl) (cj h0 (cj h1 (cj h2 (cj h3 (cj h4 (cj h4 (cj h4 (cj h4 (cj h4 (cj h5 (cj h5 (cj h5 (cj h5 cj0)))))))))))))
theorem pRt_7 (k n m : Int) (s : ByteArray) (h0 : (k == 0) = false) (h1 : (k == 1) = false) (h2 : (k == 2) = false) (h3 : (k == 3) = true) (h4 : (k == 3 && (n == 0 && (m == 0 && (s == s && true)))) = false) : Does cE 46 [] 0 [.v (vl k n m s)] (.v (.bool (false))) [] 0 :=
  does_path (ct := ct) ctOk mixed (fn := Tryz.f46) rfl (by kernel_rfl) 2000 [.f, .f, .f, .t, .f, .f, .f, .f, .f, .l, .f, .l, .l] (by kernel_rfl) (cj h0 (cj h1 (cj h2 (cj h3 (cj h4 (cj h4 (cj h4 (cj h4 (cj h4 (cj (rfl : false = false) cj0))))))))))
theorem pRt_8 (k n m : Int) (s : ByteArray) (i0 : Int) (i1 : Int) (i2 : Int) (s3 : ByteArray) (h0 : (k == 0) = false) (h1 : (k == 1) = false) (h2 : (k == 2) = false) (h3 : (k == 3) = false) (h4 : (k == 4) = true) (h5 : Does cE 91 [] 0 [.v (.int .i64 (0))] (.v (.agg #[(.int .i64 (i0)), (.int .i64 (i1)), (.int .i64 (i2)), (.string (s3))])) [] 0) (h6 : (k == i0 && (n == i1 && (m == i2 && (s == s3 && true)))) = true) : Does cE 46 [] 0 [.v (vl k n m s)] (.v (.bool (true))) [] 0 :=
  does_path (ct := ct) ctOk mixed (fn := Tryz.f46) rfl (by kernel_rfl) 2000 [.f, .f, .f, .f, .t, .c (.v (.agg #[(.int .i64 (i0)), (.int .i64 (i1)), (.int .i64 (i2)), (.string (s3))])) [] 0, .t, .t, .t, .t] (by kernel_rfl) (cj h0 (cj h1 (cj h2 (cj h3 (cj h4 (cj h5 (cj h6 (cj h6 (cj h6 (cj h6 cj0))))))))))
theorem pRt_9 (k n m : Int) (s : ByteArray) (i0 : Int) (i1 : Int) (i2 : Int) (s3 : ByteArray) (i4 : Int) (i5 : Int) (i6 : Int) (s7 : ByteArray) (h0 : (k == 0) = false) (h1 : (k == 1) = false) (h2 : (k == 2) = false) (h3 : (k == 3) = false) (h4 : (k == 4) = true) (h5 : Does cE 91 [] 0 [.v (.int .i64 (0))] (.v (.agg #[(.int .i64 (i0)), (.int .i64 (i1)), (.int .i64 (i2)), (.string (s3))])) [] 0) (h6 : (k == i0 && (n == i1 && (m == i2 && (s == s3 && true)))) = false) (h7 : Does cE 91 [] 0 [.v (.int .i64 (1))] (.v (.agg #[(.int .i64 (i4)), (.int .i64 (i5)), (.int .i64 (i6)), (.string (s7))])) [] 0) : Does cE 46 [] 0 [.v (vl k n m s)] (.v (.bool (k == i4 && (n == i5 && (m == i6 && (s == s7 && true)))))) [] 0 :=
  does_path (ct := ct) ctOk mixed (fn := Tryz.f46) rfl (by kernel_rfl) 2000 [.f, .f, .f, .f, .t, .c (.v (.agg #[(.int .i64 (i0)), (.int .i64 (i1)), (.int .i64 (i2)), (.string (s3))])) [] 0, .f, .f, .c (.v (.agg #[(.int .i64 (i4)), (.int .i64 (i5)), (.int .i64 (i6)), (.string (s7))])) [] 0, .f, .f] (by kernel_rfl) (cj h0 (cj h1 (cj h2 (cj h3 (cj h4 (cj h5 (cj h6 (cj h6 (cj h7 (cj h6 (cj h6 cj0)))))))))))
theorem pRt_10 (k n m : Int) (s : ByteArray) (b0 : Bool) (h0 : (k == 0) = false) (h1 : (k == 1) = false) (h2 : (k == 2) = false) (h3 : (k == 3) = false) (h4 : (k == 4) = false) (h5 : (k == 5) = true) (h6 : (s.toList == (ByteArray.mk #[]).toList) = true) (h7 : Does cE 99 [] 0 [.v (.agg #[(.int .i64 (n)), (.int .i64 (m))])] (.v (.bool (b0))) [] 0) : Does cE 46 [] 0 [.v (vl k n m s)] (.v (.bool (b0))) [] 0 :=
  does_path (ct := ct) ctOk mixed (fn := Tryz.f46) rfl (by kernel_rfl) 2000 [.f, .f, .f, .f, .f, .t, .t, .t, .e, .t, .c (.v (.bool (b0))) [] 0, .t] (by kernel_rfl) (cj h0 (cj h1 (cj h2 (cj h3 (cj h4 (cj h5 (cj h6 (cj h6 (cj h6 (cj h7 (cj h6 cj0)))))))))))
theorem pRt_11 (k n m : Int) (s : ByteArray) (h0 : (k == 0) = false) (h1 : (k == 1) = false) (h2 : (k == 2) = false) (h3 : (k == 3) = false) (h4 : (k == 4) = false) (h5 : (k == 5) = true) (h6 : (s.toList == (ByteArray.mk #[]).toList) = false) : Does cE 46 [] 0 [.v (vl k n m s)] (.v (.bool (false))) [] 0 :=
  does_path (ct := ct) ctOk mixed (fn := Tryz.f46) rfl (by kernel_rfl) 2000 [.f, .f, .f, .f, .f, .t, .f, .f, .f, .f] (by kernel_rfl) (cj h0 (cj h1 (cj h2 (cj h3 (cj h4 (cj h5 (cj h6 (cj h6 (cj h6 (cj h6 cj0))))))))))
theorem pRt_12 (k n m : Int) (s : ByteArray) (h0 : (k == 0) = false) (h1 : (k == 1) = false) (h2 : (k == 2) = false) (h3 : (k == 3) = false) (h4 : (k == 4) = false) (h5 : (k == 5) = false) : Does cE 46 [] 0 [.v (vl k n m s)] (.v (.bool (false))) [] 0 :=
  does_path (ct := ct) ctOk mixed (fn := Tryz.f46) rfl (by kernel_rfl) 2000 [.f, .f, .f, .f, .f, .f] (by kernel_rfl) (cj h0 (cj h1 (cj h2 (cj h3 (cj h4 (cj h5 cj0))))))
theorem rRt_1 (k n m : Int) (s : ByteArray) (h0 : (k == 0) = true) (h1 : (n == 0) = true) (h2 : (m == 0) = true) : Does cE 32 [] 0 [.v (vl k n m s)] (.v (.bool (s.toList == (ByteArray.mk #[]).toList))) [] 0 :=
  does_path (ct := ct) ctOk mixed (fn := Tryz.f32) rfl (by kernel_rfl) 2000 [.t, .t, .t, .t, .t, .t, .t, .t, .t] (by kernel_rfl) (cj h0 (cj h1 (cj h1 (cj h1 (cj h1 (cj h2 (cj h2 (cj h2 (cj h2 cj0)))))))))
theorem rRt_2 (k n m : Int) (s : ByteArray) (h0 : (k == 0) = true) (h1 : (n == 0) = true) (h2 : (m == 0) = false) : Does cE 32 [] 0 [.v (vl k n m s)] (.v (.bool (false))) [] 0 :=
  does_path (ct := ct) ctOk mixed (fn := Tryz.f32) rfl (by kernel_rfl) 2000 [.t, .t, .t, .t, .t, .f, .f, .f, .f] (by kernel_rfl) (cj h0 (cj h1 (cj h1 (cj h1 (cj h1 (cj h2 (cj h2 (cj h2 (cj h2 cj0)))))))))
theorem rRt_3 (k n m : Int) (s : ByteArray) (h0 : (k == 0) = true) (h1 : (n == 0) = false) : Does cE 32 [] 0 [.v (vl k n m s)] (.v (.bool (false))) [] 0 :=
  does_path (ct := ct) ctOk mixed (fn := Tryz.f32) rfl (by kernel_rfl) 2000 [.t, .f, .f, .f, .f, .l, .f, .f, .l] (by kernel_rfl) (cj h0 (cj h1 (cj h1 (cj h1 (cj h1 (cj (rfl : false = false) (cj (rfl : false = false) cj0)))))))
theorem rRt_4 (k n m : Int) (s : ByteArray) (h0 : (k == 0) = false) (h1 : (k == 1) = true) (h2 : (m == 0) = true) : Does cE 32 [] 0 [.v (vl k n m s)] (.v (.bool (s.toList == (ByteArray.mk #[]).toList))) [] 0 :=
  does_path (ct := ct) ctOk mixed (fn := Tryz.f32) rfl (by kernel_rfl) 2000 [.f, .t, .t, .t, .t, .t] (by kernel_rfl) (cj h0 (cj h1 (cj h2 (cj h2 (cj h2 (cj h2 cj0))))))
theorem rRt_5 (k n m : Int) (s : ByteArray) (h0 : (k == 0) = false) (h1 : (k == 1) = true) (h2 : (m == 0) = false) : Does cE 32 [] 0 [.v (vl k n m s)] (.v (.bool (false))) [] 0 :=
  does_path (ct := ct) ctOk mixed (fn := Tryz.f32) rfl (by kernel_rfl) 2000 [.f, .t, .f, .f, .f, .f] (by kernel_rfl) (cj h0 (cj h1 (cj h2 (cj h2 (cj h2 (cj h2 cj0))))))
theorem rRt_6 (k n m : Int) (s : ByteArray) (h0 : (k == 0) = false) (h1 : (k == 1) = false) (h2 : (k == 2) = true) (h3 : decide (m ≥ 0) = true) (h4 : decide (m ≤ 6) = true) : Does cE 32 [] 0 [.v (vl k n m s)] (.v (.bool (s.toList == (ByteArray.mk #[]).toList))) [] 0 :=
  does_path (ct := ct) ctOk mixed (fn := Tryz.f32) rfl (by kernel_rfl) 2000 [.f, .f, .t, .t, .t, .t, .t, .t, .t, .t, .t] (by kernel_rfl) (cj h0 (cj h1 (cj h2 (cj h3 (cj h3 (cj h3 (cj h3 (cj h4 (cj h4 (cj h4 (cj h4 cj0)))))))))))
theorem rRt_7 (k n m : Int) (s : ByteArray) (h0 : (k == 0) = false) (h1 : (k == 1) = false) (h2 : (k == 2) = true) (h3 : decide (m ≥ 0) = true) (h4 : decide (m ≤ 6) = false) : Does cE 32 [] 0 [.v (vl k n m s)] (.v (.bool (false))) [] 0 :=
  does_path (ct := ct) ctOk mixed (fn := Tryz.f32) rfl (by kernel_rfl) 2000 [.f, .f, .t, .t, .t, .t, .t, .f, .f, .f, .f] (by kernel_rfl) (cj h0 (cj h1 (cj h2 (cj h3 (cj h3 (cj h3 (cj h3 (cj h4 (cj h4 (cj h4 (cj h4 cj0)))))))))))
theorem rRt_8 (k n m : Int) (s : ByteArray) (h0 : (k == 0) = false) (h1 : (k == 1) = false) (h2 : (k == 2) = true) (h3 : decide (m ≥ 0) = false) : Does cE 32 [] 0 [.v (vl k n m s)] (.v (.bool (false))) [] 0 :=
  does_path (ct := ct) ctOk mixed (fn := Tryz.f32) rfl (by kernel_rfl) 2000 [.f, .f, .t, .f, .f, .f, .f, .l, .f, .f, .l] (by kernel_rfl) (cj h0 (cj h1 (cj h2 (cj h3 (cj h3 (cj h3 (cj h3 (cj (rfl : false = false) (cj (rfl : false = false) cj0)))))))))
theorem rRt_9 (k n m : Int) (s : ByteArray) (b0 : Bool) (h0 : (k == 0) = false) (h1 : (k == 1) = false) (h2 : (k == 2) = false) (h3 : (k == 3) = true) (h4 : (n == 0) = true) (h5 : (m == 0) = true) (h6 : decide ((s.size : Int) ≤ 256) = true) (h7 : Does cE 68 [] 0 [.v (.string (s))] (.v (.bool (b0))) [] 0) : Does cE 32 [] 0 [.v (vl k n m s)] (.v (.bool (b0))) [] 0 :=
  does_path (ct := ct) ctOk mixed (fn := Tryz.f32) rfl (by kernel_rfl) 2000 [.f, .f, .f, .t, .t, .t, .t, .t, .t, .t, .t, .t, .t, .t, .t, .t, .c (.v (.bool (b0))) [] 0, .t] (by kernel_rfl) (cj h0 (cj h1 (cj h2 (cj h3 (cj h4 (cj h4 (cj h4 (cj h4 (cj h5 (cj h5 (cj h5 (cj h5 (cj h5 (cj h6 (cj h6 (cj h6 (cj h7 (cj h6 cj0))))))))))))))))))
theorem rRt_10 (k n m : Int) (s : ByteArray) (h0 : (k == 0) = false) (h1 : (k == 1) = false) (h2 : (k == 2) = false) (h3 : (k == 3) = true) (h4 : (n == 0) = true) (h5 : (m == 0) = true) (h6 : decide ((s.size : Int) ≤ 256) = false) : Does cE 32 [] 0 [.v (vl k n m s)] (.v (.bool (false))) [] 0 :=
  does_path (ct := ct) ctOk mixed (fn := Tryz.f32) rfl (by kernel_rfl) 2000 [.f, .f, .f, .t, .t, .t, .t, .t, .t, .t, .t, .t, .t, .f, .f, .f, .f] (by kernel_rfl) (cj h0 (cj h1 (cj h2 (cj h3 (cj h4 (cj h4 (cj h4 (cj h4 (cj h5 (cj h5 (cj h5 (cj h5 (cj h5 (cj h6 (cj h6 (cj h6 (cj h6 cj0)))))))))))))))))
theorem rRt_11 (k n m : Int) (s : ByteArray) (h0 : (k == 0) = false) (h1 : (k == 1) = false) (h2 : (k == 2) = false) (h3 : (k == 3) = true) (h4 : (n == 0) = true) (h5 : (m == 0) = false) : Does cE 32 [] 0 [.v (vl k n m s)] (.v (.bool (false))) [] 0 :=
  does_path (ct := ct) ctOk mixed (fn := Tryz.f32) rfl (by kernel_rfl) 2000 [.f, .f, .f, .t, .t, .t, .t, .t, .f, .f, .f, .f, .f, .l, .f, .l, .l] (by kernel_rfl) (cj h0 (cj h1 (cj h2 (cj h3 (cj h4 (cj h4 (cj h4 (cj h4 (cj h5 (cj h5 (cj h5 (cj h5 (cj h5 (cj (rfl : false = false) cj0))))))))))))))
theorem rRt_12 (k n m : Int) (s : ByteArray) (h0 : (k == 0) = false) (h1 : (k == 1) = false) (h2 : (k == 2) = false) (h3 : (k == 3) = true) (h4 : (n == 0) = false) : Does cE 32 [] 0 [.v (vl k n m s)] (.v (.bool (false))) [] 0 :=
  does_path (ct := ct) ctOk mixed (fn := Tryz.f32) rfl (by kernel_rfl) 2000 [.f, .f, .f, .t, .f, .f, .f, .f, .l, .f, .f, .f, .f, .l, .f, .l, .l] (by kernel_rfl) (cj h0 (cj h1 (cj h2 (cj h3 (cj h4 (cj h4 (cj h4 (cj h4 (cj (rfl : false = false) (cj (rfl : false = false) (cj (rfl : false = false) (cj (rfl : false = false) (cj (rfl : false = false) cj0)))))))))))))
theorem rRt_13 (k n m : Int) (s : ByteArray) (h0 : (k == 0) = false) (h1 : (k == 1) = false) (h2 : (k == 2) = false) (h3 : (k == 3) = false) (h4 : (k == 4) = true) (h5 : (n == 0) = true) (h6 : (m == 0) = true) : Does cE 32 [] 0 [.v (vl k n m s)] (.v (.bool (s.toList == (ByteArray.mk #[]).toList))) [] 0 :=
  does_path (ct := ct) ctOk mixed (fn := Tryz.f32) rfl (by kernel_rfl) 2000 [.f, .f, .f, .f, .t, .t, .t, .t, .t, .l, .l, .l, .l, .t, .t, .t, .t] (by kernel_rfl) (cj h0 (cj h1 (cj h2 (cj h3 (cj h4 (cj h5 (cj h5 (cj h5 (cj h5 (cj h6 (cj h6 (cj h6 (cj h6 cj0)))))))))))))
theorem rRt_14 (k n m : Int) (s : ByteArray) (h0 : (k == 0) = false) (h1 : (k == 1) = false) (h2 : (k == 2) = false) (h3 : (k == 3) = false) (h4 : (k == 4) = true) (h5 : (n == 0) = true) (h6 : (m == 0) = false) : Does cE 32 [] 0 [.v (vl k n m s)] (.v (.bool (false))) [] 0 :=
  does_path (ct := ct) ctOk mixed (fn := Tryz.f32) rfl (by kernel_rfl) 2000 [.f, .f, .f, .f, .t, .t, .t, .t, .t, .l, .l, .l, .l, .f, .f, .f, .f] (by kernel_rfl) (cj h0 (cj h1 (cj h2 (cj h3 (cj h4 (cj h5 (cj h5 (cj h5 (cj h5 (cj h6 (cj h6 (cj h6 (cj h6 cj0)))))))))))))
theorem rRt_15 (k n m : Int) (s : ByteArray) (h0 : (k == 0) = false) (h1 : (k == 1) = false) (h2 : (k == 2) = false) (h3 : (k == 3) = false) (h4 : (k == 4) = true) (h5 : (n == 0) = false) (h6 : (n == 1) = true) (h7 : (m == 0) = true) : Does cE 32 [] 0 [.v (vl k n m s)] (.v (.bool (s.toList == (ByteArray.mk #[]).toList))) [] 0 :=
  does_path (ct := ct) ctOk mixed (fn := Tryz.f32) rfl (by kernel_rfl) 2000 [.f, .f, .f, .f, .t, .f, .f, .f, .f, .t, .t, .t, .t, .t, .t, .t, .t] (by kernel_rfl) (cj h0 (cj h1 (cj h2 (cj h3 (cj h4 (cj h5 (cj h5 (cj h5 (cj h5 (cj h6 (cj h6 (cj h6 (cj h6 (cj h7 (cj h7 (cj h7 (cj h7 cj0)))))))))))))))))
theorem rRt_16 (k n m : Int) (s : ByteArray) (h0 : (k == 0) = false) (h1 : (k == 1) = false) (h2 : (k == 2) = false) (h3 : (k == 3) = false) (h4 : (k == 4) = true) (h5 : (n == 0) = false) (h6 : (n == 1) = true) (h7 : (m == 0) = false) : Does cE 32 [] 0 [.v (vl k n m s)] (.v (.bool (false))) [] 0 :=
  does_path (ct := ct) ctOk mixed (fn := Tryz.f32) rfl (by kernel_rfl) 2000 [.f, .f, .f, .f, .t, .f, .f, .f, .f, .t, .t, .t, .t, .f, .f, .f, .f] (by kernel_rfl) (cj h0 (cj h1 (cj h2 (cj h3 (cj h4 (cj h5 (cj h5 (cj h5 (cj h5 (cj h6 (cj h6 (cj h6 (cj h6 (cj h7 (cj h7 (cj h7 (cj h7 cj0)))))))))))))))))
theorem rRt_17 (k n m : Int) (s : ByteArray) (h0 : (k == 0) = false) (h1 : (k == 1) = false) (h2 : (k == 2) = false) (h3 : (k == 3) = false) (h4 : (k == 4) = true) (h5 : (n == 0) = false) (h6 : (n == 1) = false) : Does cE 32 [] 0 [.v (vl k n m s)] (.v (.bool (false))) [] 0 :=
  does_path (ct := ct) ctOk mixed (fn := Tryz.f32) rfl (by kernel_rfl) 2000 [.f, .f, .f, .f, .t, .f, .f, .f, .f, .f, .f, .f, .f, .l, .f, .f, .l] (by kernel_rfl) (cj h0 (cj h1 (cj h2 (cj h3 (cj h4 (cj h5 (cj h5 (cj h5 (cj h5 (cj h6 (cj h6 (cj h6 (cj h6 (cj (rfl : false = false) (cj (rfl : false = false) cj0)))))))))))))))
theorem rRt_18 (k n m : Int) (s : ByteArray) (b0 : Bool) (h0 : (k == 0) = false) (h1 : (k == 1) = false) (h2 : (k == 2) = false) (h3 : (k == 3) = false) (h4 : (k == 4) = false) (h5 : (k == 5) = true) (h6 : Does cE 69 [] 0 [.v (.agg #[(.int .i64 (n)), (.int .i64 (m))])] (.v (.bool (b0))) [] 0) (h7 : b0 = true) : Does cE 32 [] 0 [.v (vl k n m s)] (.v (.bool (s.toList == (ByteArray.mk #[]).toList))) [] 0 :=
  does_path (ct := ct) ctOk mixed (fn := Tryz.f32) rfl (by kernel_rfl) 2000 [.f, .f, .f, .f, .f, .t, .c (.v (.bool (b0))) [] 0, .t, .t, .t, .t] (by kernel_rfl) (cj h0 (cj h1 (cj h2 (cj h3 (cj h4 (cj h5 (cj h6 (cj h7 (cj h7 (cj h7 (cj h7 cj0)))))))))))
theorem rRt_19 (k n m : Int) (s : ByteArray) (b0 : Bool) (h0 : (k == 0) = false) (h1 : (k == 1) = false) (h2 : (k == 2) = false) (h3 : (k == 3) = false) (h4 : (k == 4) = false) (h5 : (k == 5) = true) (h6 : Does cE 69 [] 0 [.v (.agg #[(.int .i64 (n)), (.int .i64 (m))])] (.v (.bool (b0))) [] 0) (h7 : b0 = false) : Does cE 32 [] 0 [.v (vl k n m s)] (.v (.bool (false))) [] 0 :=
  does_path (ct := ct) ctOk mixed (fn := Tryz.f32) rfl (by kernel_rfl) 2000 [.f, .f, .f, .f, .f, .t, .c (.v (.bool (b0))) [] 0, .f, .f, .f, .f] (by kernel_rfl) (cj h0 (cj h1 (cj h2 (cj h3 (cj h4 (cj h5 (cj h6 (cj h7 (cj h7 (cj h7 (cj h7 cj0)))))))))))
theorem rRt_20 (k n m : Int) (s : ByteArray) (h0 : (k == 0) = false) (h1 : (k == 1) = false) (h2 : (k == 2) = false) (h3 : (k == 3) = false) (h4 : (k == 4) = false) (h5 : (k == 5) = false) : Does cE 32 [] 0 [.v (vl k n m s)] (.v (.bool (false))) [] 0 :=
  does_path (ct := ct) ctOk mixed (fn := Tryz.f32) rfl (by kernel_rfl) 2000 [.f, .f, .f, .f, .f, .f] (by kernel_rfl) (cj h0 (cj h1 (cj h2 (cj h3 (cj h4 (cj h5 cj0))))))
theorem rSa_1 (k n m j p q : Int) (s u : ByteArray) (h0 : (k == j) = true) (h1 : (n == p) = true) (h2 : (m == q) = true) : Does cE 17 [] 0 [.v (vl k n m s), .v (vl j p q u)] (.v (.bool (s.toList == u.toList))) [] 0 :=
  does_path (ct := ct) ctOk mixed (fn := Tryz.f17) rfl (by kernel_rfl) 2000 [.t, .t, .t, .t, .t, .t, .t, .t, .t, .t, .t, .t, .t, .t, .t, .t, .t, .t] (by kernel_rfl) (cj h0 (cj h0 (cj h0 (cj h0 (cj h0 (cj h0 (cj h1 (cj h1 (cj h1 (cj h1 (cj h1 (cj h1 (cj h2 (cj h2 (cj h2 (cj h2 (cj h2 (cj h2 cj0))))))))))))))))))
theorem rSa_2 (k n m j p q : Int) (s u : ByteArray) (h0 : (k == j) = true) (h1 : (n == p) = true) (h2 : (m == q) = false) : Does cE 17 [] 0 [.v (vl k n m s), .v (vl j p q u)] (.v (.bool (false))) [] 0 :=
  does_path (ct := ct) ctOk mixed (fn := Tryz.f17) rfl (by kernel_rfl) 2000 [.t, .t, .t, .t, .t, .t, .t, .t, .t, .t, .t, .t, .f, .f, .f, .f, .f, .f] (by kernel_rfl) (cj h0 (cj h0 (cj h0 (cj h0 (cj h0 (cj h0 (cj h1 (cj h1 (cj h1 (cj h1 (cj h1 (cj h1 (cj h2 (cj h2 (cj h2 (cj h2 (cj h2 (cj h2 cj0))))))))))))))))))
theorem rSa_3 (k n m j p q : Int) (s u : ByteArray) (h0 : (k == j) = true) (h1 : (n == p) = false) : Does cE 17 [] 0 [.v (vl k n m s), .v (vl j p q u)] (.v (.bool (false))) [] 0 :=
  does_path (ct := ct) ctOk mixed (fn := Tryz.f17) rfl (by kernel_rfl) 2000 [.t, .t, .t, .t, .t, .t, .f, .f, .f, .f, .f, .f, .l, .f, .f, .f, .f, .l] (by kernel_rfl) (cj h0 (cj h0 (cj h0 (cj h0 (cj h0 (cj h0 (cj h1 (cj h1 (cj h1 (cj h1 (cj h1 (cj h1 (cj (rfl : false = false) (cj (rfl : false = false) (cj (rfl : false = false) (cj (rfl : false = false) cj0))))))))))))))))
theorem rSa_4 (k n m j p q : Int) (s u : ByteArray) (h0 : (k == j) = false) : Does cE 17 [] 0 [.v (vl k n m s), .v (vl j p q u)] (.v (.bool (false))) [] 0 :=
  does_path (ct := ct) ctOk mixed (fn := Tryz.f17) rfl (by kernel_rfl) 2000 [.f, .f, .f, .f, .f, .f, .l, .f, .f, .f, .f, .f, .l, .f, .f, .f, .f, .l] (by kernel_rfl) (cj h0 (cj h0 (cj h0 (cj h0 (cj h0 (cj h0 (cj (rfl : false = false) (cj (rfl : false = false) (cj (rfl : false = false) (cj (rfl : false = false) (cj (rfl : false = false) (cj (rfl : false = false) (cj (rfl : false = false) (cj (rfl : false = false) (cj (rfl : false = false) cj0)))))))))))))))
end Go.Proofs.YtpfignfgfhbblaaGreatDoorC
