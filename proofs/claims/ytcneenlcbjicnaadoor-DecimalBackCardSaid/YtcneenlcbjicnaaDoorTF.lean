import Derived.Test.YtcneenlcbjicnaaDoorPT3
import Derived.Test.YtcneenlcbjicnaaDoorTC
/- The reference's Parse, at every text. Written by a program (wip/dec/gentf.py). -/
namespace Go.Proofs.YtcneenlcbjicnaaDoorC
open Go.Proofs Go.Proofs.YtcneenlcbjicnaaDoorSx Go.RowKit Go.Sort Go.Lib
set_option maxRecDepth 100000
set_option linter.unusedVariables false
set_option linter.unusedSimpArgs false
theorem valF_pow : ∀ (l : List UInt8) (a : Nat), valF a l = a * 10 ^ l.length + valF 0 l
  | [], a => by simp [valF]
  | c :: r, a => by
    have h1 := valF_pow r (10 * a + (c.toNat - 48))
    have h2 := valF_pow r (10 * 0 + (c.toNat - 48))
    show valF (10 * a + (c.toNat - 48)) r = a * 10 ^ (r.length + 1) + valF (10 * 0 + (c.toNat - 48)) r
    rw [h1, h2, Nat.pow_succ]
    grind
theorem val_lt : ∀ (l : List UInt8), l.all isD = true → valF 0 l < 10 ^ l.length
  | [], _ => by simp [valF]
  | c :: r, h => by
    simp only [List.all_cons, Bool.and_eq_true] at h
    have ih := val_lt r h.2
    have hd := isD_le h.1
    show valF (10 * 0 + (c.toNat - 48)) r < 10 ^ (r.length + 1)
    rw [valF_pow, Nat.pow_succ]
    have : (10 * 0 + (c.toNat - 48)) * 10 ^ r.length ≤ 9 * 10 ^ r.length := Nat.mul_le_mul_right _ (by omega)
    omega
theorem val_ge {c : UInt8} {r : List UInt8} (hc : isD c = true) (h : c ≠ 48) : 10 ^ r.length ≤ valF 0 (c :: r) := by
  have hd : 1 ≤ c.toNat - 48 := by
    unfold isD at hc
    simp only [decide_eq_true_eq] at hc
    have : c.toNat ≠ 48 := fun e => h (UInt8.toNat_inj.1 e)
    omega
  show 10 ^ r.length ≤ valF (10 * 0 + (c.toNat - 48)) r
  rw [valF_pow]
  have : 1 * 10 ^ r.length ≤ (10 * 0 + (c.toNat - 48)) * 10 ^ r.length := Nat.mul_le_mul_right _ (by omega)
  omega
theorem over40 (ng : Bool) {w : List UInt8} {p : Option (List UInt8)} (h1 : w ≠ []) (h2 : p ≠ some []) (h3 : (p.getD []).length ≤ 6) (h4 : ¬ (1 < w.length ∧ w.head? = some 48)) (h5 : (w ++ p.getD []).all isD = true) (h : 40 < (w ++ p.getD []).length) : parseB ng w p = (0, 0, 32) := by
  rw [p_end h1 h2 h3 h4]
  refine end_over h5 ?_
  have hl : 1 < w.length := by
    rw [List.length_append] at h
    omega
  cases w with
  | nil => exact (h1 rfl).elim
  | cons c r =>
    have hc : c ≠ 48 := by
      intro e
      subst e
      exact h4 ⟨hl, rfl⟩
    have hd : isD c = true := by
      rw [List.cons_append, List.all_cons, Bool.and_eq_true] at h5
      exact h5.1
    have hg := val_ge (r := r ++ p.getD []) hd hc
    have hp : 10 ^ 40 ≤ 10 ^ (r ++ p.getD []).length := Nat.pow_le_pow_right (by decide) (by
      rw [List.cons_append, List.length_cons] at h
      omega)
    rw [List.cons_append]
    have : (18446744073709551616 : Nat) ≤ 10 ^ 40 := by decide
    omega
theorem zero_v {v : Int} (h0 : 0 ≤ v) (h1 : v < big192) (s : Bool) (hz : v = 0) : Does cE 55 [] 0 [.v (W v s)] (.v (.bool true)) [] 0 := by
  have h := zero_does (dg_dig v) s
  rw [val_W v h0 h1] at h
  simpa [hz] using h
theorem zero_n {v : Int} (h0 : 0 ≤ v) (h1 : v < big192) (s : Bool) (hz : v ≠ 0) : Does cE 55 [] 0 [.v (W v s)] (.v (.bool false)) [] 0 := by
  have h := zero_does (dg_dig v) s
  rw [val_W v h0 h1] at h
  have e : decide (v = 0) = false := by simpa using hz
  rw [e] at h
  exact h
/-- What stands behind the whole part. -/
def sepL : Option (List UInt8) → List UInt8
  | none => []
  | some q => 46 :: q
theorem drop_getD {s l : List UInt8} {a : Nat} (h : s.drop a = l) (j : Nat) : s.getD (a + j) 0 = l.getD j 0 := by
  rw [← h, List.getD_eq_getElem?_getD, List.getD_eq_getElem?_getD, List.getElem?_drop]
theorem drop_len {s l : List UInt8} {a : Nat} (h : s.drop a = l) (ha : a ≤ s.length) : s.length = a + l.length := by
  rw [← h, List.length_drop]
  omega
/-- Where the reference's loop stands. -/
structure RInv (s : List UInt8) (f : Nat) (w : List UInt8) (p : Option (List UInt8)) (r : List UInt8) (v : Int) : Prop where
  fle : f ≤ s.length
  dr : s.drop f = w ++ (sepL p ++ r)
  all : (w ++ p.getD []).all isD = true
  wp : p.isSome = true → w ≠ []
  h0 : 0 ≤ v
  h1 : v < big192
  hv : (w ++ p.getD []).length ≤ 40 → v = (valF 0 (w ++ p.getD []) : Int)
abbrev qrS (s : List UInt8) (f : Nat) (pt : Int) (n i : Nat) : List SV := [.v (st (oL s)), .na, .p 0 0, .v (it 0), .p 1 0, .v (it f), .v (it pt), .v (it n), .v (it i)] ++ List.replicate 113 .na
theorem head_q {w : List UInt8} {s l : List UInt8} {f : Nat} (h : s.drop f = w ++ l) (hw : w ≠ []) : ((((s.getD f 0).toNat : Nat) : Int) == 48) = decide (w.head? = some 48) := by
  have := drop_getD h 0
  rw [Nat.add_zero] at this
  rw [this, ← head_eq hw]
  cases w with
  | nil => exact (hw rfl).elim
  | cons c r => rfl
abbrev ptR (f : Nat) (w : List UInt8) (p : Option (List UInt8)) : Int := match p with
  | none => -1
  | some _ => (f : Int) + w.length
theorem q_end {s : List UInt8} (hs : s.length ≤ 9223372036854775807) {f : Nat} {w : List UInt8} {p : Option (List UInt8)} {v : Int} (hi : RInv s f w p [] v) (m : Nat) :
    Fin cE Tryd.f38 0 (.v (ans (parseB (((f : Nat) : Int) == 1) w p))) [] 0 (bodyK qrK m) (qrS s f (ptR f w p) (w ++ p.getD []).length s.length) (qT (dg 6 v)) 2 := by
  have hlen := drop_len hi.dr hi.fle
  have h0 := hi.h0
  have h1 := hi.h1
  have hv := hi.hv
  have b5 := hi.all
  have hdr := hi.dr
  generalize hN : (w ++ p.getD []).length = N at hv
  have hsz : decide (((s.length : Nat) : Int) < ((oL s).size : Int)) = false := by rw [oL_size]; simp
  have osz := oL_size s
  cases p with
  | none =>
    simp only [sepL, List.append_nil, Option.getD_none, List.nil_append] at hlen hdr hN b5 hv ⊢
    subst hN
    have n0 : decide ((-1 : Int) ≥ 0) = false := rfl
    by_cases w0 : w = []
    · rw [p_rule1 _ (.inl w0)]
      exact qrb_32 (bs := oL s) (a := dg 6 v) (fr := f) (m := m) (h0 := hsz) (h1 := n0) (h2 := by simp [w0])
    have hw1 : 0 < w.length := by
      cases w with
      | nil => exact (w0 rfl).elim
      | cons c r => simp
    have n2 : ((((w.length : Nat)) : Int) == 0) = false := by simp; omega
    have n3 : ((-1 : Int) == IntKind.i64.wrap (((oL s).size : Int) - 1)) = false := by
      rw [osz, wrap64 (by omega) (by omega)]
      simp
      omega
    have b2 : (none : Option (List UInt8)) ≠ some [] := by simp
    have b3 : ((none : Option (List UInt8)).getD []).length ≤ 6 := by simp
    have b6 : (0 : Int) ≤ (f : Int) ∧ (f : Int) < ((oL s).size : Int) := by rw [osz]; omega
    have e1 : IntKind.i64.wrap (0 + 1) = 1 := rfl
    have hhq := head_q (l := []) (by simpa using hdr) w0
    have b5' : (w ++ (none : Option (List UInt8)).getD []).all isD = true := by simpa using b5
    by_cases hl : 1 < w.length
    · have n4 : decide ((((w.length : Nat)) : Int) > IntKind.i64.wrap (0 + 1)) = true := by rw [e1]; simp; omega
      by_cases h48 : w.head? = some 48
      · rw [p_rule1 _ (.inr (.inr (.inr (.inl ⟨hl, h48⟩))))]
        exact qrb_34 (bs := oL s) (a := dg 6 v) (m := m) (h0 := hsz) (h1 := n0) (h2 := n2) (h3 := n3) (h4 := n4) (h5 := b6) (h6 := hhq.trans (by simpa using h48))
      · have b4 : ¬ (1 < w.length ∧ w.head? = some 48) := by rintro ⟨_, e⟩; exact h48 e
        by_cases hg : (((f : Nat) : Int) == 1) = true
        · by_cases hz : v = 0
          · have z := zero_v h0 h1 true hz
            by_cases h40 : w.length ≤ 40
            · rw [p_rule2 (ng := (((f : Nat) : Int) == 1)) ⟨hg, by have := hv h40; simp at this ⊢; omega⟩]
              exact qrb_35 (bs := oL s) (a := dg 6 v) (m := m) (h0 := hsz) (h1 := n0) (h2 := n2) (h3 := n3) (h4 := n4) (h5 := b6) (h6 := hhq.trans (by simpa using h48)) (h7 := hg) (h8 := zero_v h0 h1 false hz) (h9 := rfl) (h10 := by simp; omega)
            · rw [over40 (((f : Nat) : Int) == 1) w0 b2 b3 b4 b5' (by simp; omega)]
              exact qrb_36 (bs := oL s) (a := dg 6 v) (m := m) (h0 := hsz) (h1 := n0) (h2 := n2) (h3 := n3) (h4 := n4) (h5 := b6) (h6 := hhq.trans (by simpa using h48)) (h7 := hg) (h8 := zero_v h0 h1 false hz) (h9 := rfl) (h10 := by simp; omega) (h11 := by simp; omega)
          · have z := zero_n h0 h1 false hz
            by_cases h40 : w.length ≤ 40
            · have e : v = ((valF 0 (w ++ (none : Option (List UInt8)).getD []) : Nat) : Int) := by simpa using hv h40
              rw [p_rule3 w0 b2 b3 b4 b5' (by rintro ⟨_, e2⟩; omega), ← e]
              exact qrb_39 (bs := oL s) (a := dg 6 v) (m := m) (h0 := hsz) (h1 := n0) (h2 := n2) (h3 := n3) (h4 := n4) (h5 := b6) (h6 := hhq.trans (by simpa using h48)) (h7 := hg) (h8 := z) (h9 := rfl) (h10 := by simp; omega) (h11 := rback_does h0 h1 (((f : Nat) : Int) == 1) 0)
            · rw [over40 (((f : Nat) : Int) == 1) w0 b2 b3 b4 b5' (by simp; omega)]
              exact qrb_38 (bs := oL s) (a := dg 6 v) (m := m) (h0 := hsz) (h1 := n0) (h2 := n2) (h3 := n3) (h4 := n4) (h5 := b6) (h6 := hhq.trans (by simpa using h48)) (h7 := hg) (h8 := z) (h9 := rfl) (h10 := by simp; omega)
        · have hg2 : (((f : Nat) : Int) == 1) = false := by simpa using hg
          by_cases h40 : w.length ≤ 40
          · have e : v = ((valF 0 (w ++ (none : Option (List UInt8)).getD []) : Nat) : Int) := by simpa using hv h40
            rw [p_rule3 w0 b2 b3 b4 b5' (by rintro ⟨e2, _⟩; exact hg e2), ← e]
            exact qrb_41 (bs := oL s) (a := dg 6 v) (m := m) (h0 := hsz) (h1 := n0) (h2 := n2) (h3 := n3) (h4 := n4) (h5 := b6) (h6 := hhq.trans (by simpa using h48)) (h7 := hg2) (h8 := by simp; omega) (h9 := rback_does h0 h1 (((f : Nat) : Int) == 1) 0)
          · rw [over40 (((f : Nat) : Int) == 1) w0 b2 b3 b4 b5' (by simp; omega)]
            exact qrb_40 (bs := oL s) (a := dg 6 v) (m := m) (h0 := hsz) (h1 := n0) (h2 := n2) (h3 := n3) (h4 := n4) (h5 := b6) (h6 := hhq.trans (by simpa using h48)) (h7 := hg2) (h8 := by simp; omega)
    · have n4 : decide ((((w.length : Nat)) : Int) > IntKind.i64.wrap (0 + 1)) = false := by rw [e1]; simp; omega
      have b4 : ¬ (1 < w.length ∧ w.head? = some 48) := by rintro ⟨e, _⟩; exact hl e
      by_cases hg : (((f : Nat) : Int) == 1) = true
      · by_cases hz : v = 0
        · have z := zero_v h0 h1 true hz
          by_cases h40 : w.length ≤ 40
          · rw [p_rule2 (ng := (((f : Nat) : Int) == 1)) ⟨hg, by have := hv h40; simp at this ⊢; omega⟩]
            exact qrb_42 (bs := oL s) (a := dg 6 v) (m := m) (h0 := hsz) (h1 := n0) (h2 := n2) (h3 := n3) (h4 := n4) (h5 := hg) (h6 := zero_v h0 h1 false hz) (h7 := rfl) (h8 := by simp; omega)
          · rw [over40 (((f : Nat) : Int) == 1) w0 b2 b3 b4 b5' (by simp; omega)]
            exact qrb_43 (bs := oL s) (a := dg 6 v) (m := m) (h0 := hsz) (h1 := n0) (h2 := n2) (h3 := n3) (h4 := n4) (h5 := hg) (h6 := zero_v h0 h1 false hz) (h7 := rfl) (h8 := by simp; omega) (h9 := by simp; omega)
        · have z := zero_n h0 h1 false hz
          by_cases h40 : w.length ≤ 40
          · have e : v = ((valF 0 (w ++ (none : Option (List UInt8)).getD []) : Nat) : Int) := by simpa using hv h40
            rw [p_rule3 w0 b2 b3 b4 b5' (by rintro ⟨_, e2⟩; omega), ← e]
            exact qrb_46 (bs := oL s) (a := dg 6 v) (m := m) (h0 := hsz) (h1 := n0) (h2 := n2) (h3 := n3) (h4 := n4) (h5 := hg) (h6 := z) (h7 := rfl) (h8 := by simp; omega) (h9 := rback_does h0 h1 (((f : Nat) : Int) == 1) 0)
          · rw [over40 (((f : Nat) : Int) == 1) w0 b2 b3 b4 b5' (by simp; omega)]
            exact qrb_45 (bs := oL s) (a := dg 6 v) (m := m) (h0 := hsz) (h1 := n0) (h2 := n2) (h3 := n3) (h4 := n4) (h5 := hg) (h6 := z) (h7 := rfl) (h8 := by simp; omega)
      · have hg2 : (((f : Nat) : Int) == 1) = false := by simpa using hg
        by_cases h40 : w.length ≤ 40
        · have e : v = ((valF 0 (w ++ (none : Option (List UInt8)).getD []) : Nat) : Int) := by simpa using hv h40
          rw [p_rule3 w0 b2 b3 b4 b5' (by rintro ⟨e2, _⟩; exact hg e2), ← e]
          exact qrb_48 (bs := oL s) (a := dg 6 v) (m := m) (h0 := hsz) (h1 := n0) (h2 := n2) (h3 := n3) (h4 := n4) (h5 := hg2) (h6 := by simp; omega) (h7 := rback_does h0 h1 (((f : Nat) : Int) == 1) 0)
        · rw [over40 (((f : Nat) : Int) == 1) w0 b2 b3 b4 b5' (by simp; omega)]
          exact qrb_47 (bs := oL s) (a := dg 6 v) (m := m) (h0 := hsz) (h1 := n0) (h2 := n2) (h3 := n3) (h4 := n4) (h5 := hg2) (h6 := by simp; omega)
  | some q =>
    have w0 := hi.wp rfl
    simp only [sepL, List.append_nil, Option.getD_some] at hlen hdr hN b5 hv ⊢
    have hN2 : N = w.length + q.length := by rw [← hN, List.length_append]
    have hl2 : s.length = f + (w.length + (q.length + 1)) := by rw [hlen]; simp
    have hw1 : 0 < w.length := by
      cases w with
      | nil => exact (w0 rfl).elim
      | cons c r => simp
    have n0 : decide ((f : Int) + w.length ≥ 0) = true := by simp; omega
    have n2 : ((((N : Nat)) : Int) == 0) = false := by simp; omega
    by_cases q0 : q = []
    · rw [p_rule1 _ (.inr (.inl (by rw [q0])))]
      exact qrb_15 (bs := oL s) (a := dg 6 v) (fr := f) (pt := (f : Int) + w.length) (m := m) (h0 := hsz) (h1 := n0) (h2 := n2) (h3 := by
        rw [osz, wrap64 (by omega) (by omega)]
        simp [q0] at hl2 ⊢
        omega)
    have hq1 : 0 < q.length := by
      cases q with
      | nil => exact (q0 rfl).elim
      | cons c r => simp
    have n3 : ((f : Int) + w.length == IntKind.i64.wrap (((oL s).size : Int) - 1)) = false := by
      rw [osz, wrap64 (by omega) (by omega)]
      simp
      omega
    have esc : IntKind.i64.wrap (IntKind.i64.wrap (((oL s).size : Int) - ((f : Int) + w.length)) - 1) = (q.length : Int) := by
      rw [osz, wrap64 (n := (s.length : Int) - ((f : Int) + w.length)) (by omega) (by omega), wrap64 (by omega) (by omega)]
      omega
    by_cases q6 : 6 < q.length
    · rw [p_rule1 _ (p := some q) (.inr (.inr (.inl (by simpa using q6))))]
      exact qrb_16 (bs := oL s) (a := dg 6 v) (fr := f) (m := m) (h0 := hsz) (h1 := n0) (h2 := n2) (h3 := n3) (h4 := by rw [esc]; simp; omega)
    have n4 : decide (IntKind.i64.wrap (IntKind.i64.wrap (((oL s).size : Int) - ((f : Int) + w.length)) - 1) > 6) = false := by rw [esc]; simp; omega
    have e1 : IntKind.i64.wrap (IntKind.i64.wrap (IntKind.i64.wrap (((oL s).size : Int) - ((f : Int) + w.length)) - 1) + 1) = (q.length : Int) + 1 := by rw [esc, wrap64 (by omega) (by omega)]
    have b2 : some q ≠ some [] := by simpa using q0
    have b3 : ((some q).getD []).length ≤ 6 := by simp; omega
    have b6 : (0 : Int) ≤ (f : Int) ∧ (f : Int) < ((oL s).size : Int) := by rw [osz]; omega
    have hhq := head_q hdr w0
    by_cases hl : 1 < w.length
    · have n5 : decide ((((N : Nat)) : Int) > IntKind.i64.wrap (IntKind.i64.wrap (IntKind.i64.wrap (((oL s).size : Int) - ((f : Int) + w.length)) - 1) + 1)) = true := by rw [e1]; simp; omega
      by_cases h48 : w.head? = some 48
      · rw [p_rule1 _ (.inr (.inr (.inr (.inl ⟨hl, h48⟩))))]
        exact qrb_17 (bs := oL s) (a := dg 6 v) (m := m) (h0 := hsz) (h1 := n0) (h2 := n2) (h3 := n3) (h4 := n4) (h5 := n5) (h6 := b6) (h7 := hhq.trans (by simpa using h48))
      · have b4 : ¬ (1 < w.length ∧ w.head? = some 48) := by rintro ⟨_, e⟩; exact h48 e
        by_cases hg : (((f : Nat) : Int) == 1) = true
        · by_cases hz : v = 0
          · have z := zero_v h0 h1 true hz
            by_cases h40 : N ≤ 40
            · rw [p_rule2 (ng := (((f : Nat) : Int) == 1)) ⟨hg, by have := hv h40; simp at this ⊢; omega⟩]
              exact qrb_18 (bs := oL s) (a := dg 6 v) (m := m) (h0 := hsz) (h1 := n0) (h2 := n2) (h3 := n3) (h4 := n4) (h5 := n5) (h6 := b6) (h7 := hhq.trans (by simpa using h48)) (h8 := hg) (h9 := zero_v h0 h1 false hz) (h10 := rfl) (h11 := by simp; omega)
            · rw [over40 (((f : Nat) : Int) == 1) w0 b2 b3 b4 b5 (by simp; omega)]
              exact qrb_19 (bs := oL s) (a := dg 6 v) (m := m) (h0 := hsz) (h1 := n0) (h2 := n2) (h3 := n3) (h4 := n4) (h5 := n5) (h6 := b6) (h7 := hhq.trans (by simpa using h48)) (h8 := hg) (h9 := zero_v h0 h1 false hz) (h10 := rfl) (h11 := by simp; omega) (h12 := by simp; omega)
          · have z := zero_n h0 h1 false hz
            by_cases h40 : N ≤ 40
            · have e : v = ((valF 0 (w ++ (some q).getD []) : Nat) : Int) := by simpa using hv h40
              rw [p_rule3 w0 b2 b3 b4 b5 (by rintro ⟨_, e2⟩; omega), ← e]
              exact qrb_22 (bs := oL s) (a := dg 6 v) (m := m) (h0 := hsz) (h1 := n0) (h2 := n2) (h3 := n3) (h4 := n4) (h5 := n5) (h6 := b6) (h7 := hhq.trans (by simpa using h48)) (h8 := hg) (h9 := z) (h10 := rfl) (h11 := by simp; omega) (h12 := by rw [esc]; exact rback_does h0 h1 (((f : Nat) : Int) == 1) (q.length : Int))
            · rw [over40 (((f : Nat) : Int) == 1) w0 b2 b3 b4 b5 (by simp; omega)]
              exact qrb_21 (bs := oL s) (a := dg 6 v) (m := m) (h0 := hsz) (h1 := n0) (h2 := n2) (h3 := n3) (h4 := n4) (h5 := n5) (h6 := b6) (h7 := hhq.trans (by simpa using h48)) (h8 := hg) (h9 := z) (h10 := rfl) (h11 := by simp; omega)
        · have hg2 : (((f : Nat) : Int) == 1) = false := by simpa using hg
          by_cases h40 : N ≤ 40
          · have e : v = ((valF 0 (w ++ (some q).getD []) : Nat) : Int) := by simpa using hv h40
            rw [p_rule3 w0 b2 b3 b4 b5 (by rintro ⟨e2, _⟩; exact hg e2), ← e]
            exact qrb_24 (bs := oL s) (a := dg 6 v) (m := m) (h0 := hsz) (h1 := n0) (h2 := n2) (h3 := n3) (h4 := n4) (h5 := n5) (h6 := b6) (h7 := hhq.trans (by simpa using h48)) (h8 := hg2) (h9 := by simp; omega) (h10 := by rw [esc]; exact rback_does h0 h1 (((f : Nat) : Int) == 1) (q.length : Int))
          · rw [over40 (((f : Nat) : Int) == 1) w0 b2 b3 b4 b5 (by simp; omega)]
            exact qrb_23 (bs := oL s) (a := dg 6 v) (m := m) (h0 := hsz) (h1 := n0) (h2 := n2) (h3 := n3) (h4 := n4) (h5 := n5) (h6 := b6) (h7 := hhq.trans (by simpa using h48)) (h8 := hg2) (h9 := by simp; omega)
    · have n5 : decide ((((N : Nat)) : Int) > IntKind.i64.wrap (IntKind.i64.wrap (IntKind.i64.wrap (((oL s).size : Int) - ((f : Int) + w.length)) - 1) + 1)) = false := by rw [e1]; simp; omega
      have b4 : ¬ (1 < w.length ∧ w.head? = some 48) := by rintro ⟨e, _⟩; exact hl e
      by_cases hg : (((f : Nat) : Int) == 1) = true
      · by_cases hz : v = 0
        · have z := zero_v h0 h1 true hz
          by_cases h40 : N ≤ 40
          · rw [p_rule2 (ng := (((f : Nat) : Int) == 1)) ⟨hg, by have := hv h40; simp at this ⊢; omega⟩]
            exact qrb_25 (bs := oL s) (a := dg 6 v) (m := m) (h0 := hsz) (h1 := n0) (h2 := n2) (h3 := n3) (h4 := n4) (h5 := n5) (h6 := hg) (h7 := zero_v h0 h1 false hz) (h8 := rfl) (h9 := by simp; omega)
          · rw [over40 (((f : Nat) : Int) == 1) w0 b2 b3 b4 b5 (by simp; omega)]
            exact qrb_26 (bs := oL s) (a := dg 6 v) (m := m) (h0 := hsz) (h1 := n0) (h2 := n2) (h3 := n3) (h4 := n4) (h5 := n5) (h6 := hg) (h7 := zero_v h0 h1 false hz) (h8 := rfl) (h9 := by simp; omega) (h10 := by simp; omega)
        · have z := zero_n h0 h1 false hz
          by_cases h40 : N ≤ 40
          · have e : v = ((valF 0 (w ++ (some q).getD []) : Nat) : Int) := by simpa using hv h40
            rw [p_rule3 w0 b2 b3 b4 b5 (by rintro ⟨_, e2⟩; omega), ← e]
            exact qrb_29 (bs := oL s) (a := dg 6 v) (m := m) (h0 := hsz) (h1 := n0) (h2 := n2) (h3 := n3) (h4 := n4) (h5 := n5) (h6 := hg) (h7 := z) (h8 := rfl) (h9 := by simp; omega) (h10 := by rw [esc]; exact rback_does h0 h1 (((f : Nat) : Int) == 1) (q.length : Int))
          · rw [over40 (((f : Nat) : Int) == 1) w0 b2 b3 b4 b5 (by simp; omega)]
            exact qrb_28 (bs := oL s) (a := dg 6 v) (m := m) (h0 := hsz) (h1 := n0) (h2 := n2) (h3 := n3) (h4 := n4) (h5 := n5) (h6 := hg) (h7 := z) (h8 := rfl) (h9 := by simp; omega)
      · have hg2 : (((f : Nat) : Int) == 1) = false := by simpa using hg
        by_cases h40 : N ≤ 40
        · have e : v = ((valF 0 (w ++ (some q).getD []) : Nat) : Int) := by simpa using hv h40
          rw [p_rule3 w0 b2 b3 b4 b5 (by rintro ⟨e2, _⟩; exact hg e2), ← e]
          exact qrb_31 (bs := oL s) (a := dg 6 v) (m := m) (h0 := hsz) (h1 := n0) (h2 := n2) (h3 := n3) (h4 := n4) (h5 := n5) (h6 := hg2) (h7 := by simp; omega) (h8 := by rw [esc]; exact rback_does h0 h1 (((f : Nat) : Int) == 1) (q.length : Int))
        · rw [over40 (((f : Nat) : Int) == 1) w0 b2 b3 b4 b5 (by simp; omega)]
          exact qrb_30 (bs := oL s) (a := dg 6 v) (m := m) (h0 := hsz) (h1 := n0) (h2 := n2) (h3 := n3) (h4 := n4) (h5 := n5) (h6 := hg2) (h7 := by simp; omega)
end Go.Proofs.YtcneenlcbjicnaaDoorC
/- The reference's Parse, at every text: its loop, and the whole. -/
namespace Go.Proofs.YtcneenlcbjicnaaDoorC
open Go.Proofs Go.Proofs.YtcneenlcbjicnaaDoorSx Go.RowKit Go.Sort Go.Lib
set_option maxRecDepth 100000
set_option linter.unusedVariables false
set_option linter.unusedSimpArgs false
/-- The parts, a digit further. -/
def wNext (w : List UInt8) (p : Option (List UInt8)) (c : UInt8) : List UInt8 := match p with
  | none => w ++ [c]
  | some _ => w
def pNext (p : Option (List UInt8)) (c : UInt8) : Option (List UInt8) := match p with
  | none => none
  | some q => some (q ++ [c])
theorem next_app (w : List UInt8) (p : Option (List UInt8)) (c : UInt8) : wNext w p c ++ (pNext p c).getD [] = (w ++ p.getD []) ++ [c] := by
  cases p <;> simp [wNext, pNext]
/-- What comes of the rest. -/
def goalR (ng : Bool) (w : List UInt8) (p : Option (List UInt8)) (r : List UInt8) : Int × Int × Int := match p with
  | none => parseB ng (w ++ (sp r).1) (sp r).2
  | some q => parseB ng w (some (q ++ r))
theorem goal_next (ng : Bool) (w : List UInt8) (p : Option (List UInt8)) {c : UInt8} (r : List UInt8) (hc : isD c = true) : goalR ng w p (c :: r) = goalR ng (wNext w p c) (pNext p c) r := by
  have h46 : c ≠ 46 := by
    intro e
    subst e
    exact absurd hc (by decide)
  cases p with
  | none => simp [goalR, wNext, pNext, sp, h46]
  | some q => simp [goalR, wNext, pNext]
theorem goal_end (ng : Bool) (w : List UInt8) (p : Option (List UInt8)) : goalR ng w p [] = parseB ng w p := by
  cases p <;> simp [goalR, sp]
/-- A byte that is none of a number's. -/
theorem goal_bad (ng : Bool) (w : List UInt8) (p : Option (List UInt8)) {c : UInt8} (r : List UInt8) (hc : isD c = false) (hp : c ≠ 46 ∨ p.isSome = true ∨ w = []) : goalR ng w p (c :: r) = (0, 0, 21) := by
  cases p with
  | none =>
    unfold goalR
    simp only
    rw [sp]
    by_cases h : c = 46
    · rw [if_pos h]
      rcases hp with e | e | e
      · exact (e h).elim
      · cases e
      · exact p_rule1 ng (.inl (by simp [e]))
    · rw [if_neg h]
      exact p_rule1 ng (.inr (.inr (.inr (.inr (by simp [hc])))))
  | some q =>
    unfold goalR
    exact p_rule1 ng (.inr (.inr (.inr (.inr (by simp [hc])))))
section
variable {s : List UInt8} {f : Nat} {w : List UInt8} {p : Option (List UInt8)} {r : List UInt8} {c : UInt8} {v : Int}
def posR (f : Nat) (w : List UInt8) (p : Option (List UInt8)) : Nat := f + (w.length + (sepL p).length)
theorem pos_at (hi : RInv s f w p (c :: r) v) : s.getD (posR f w p) 0 = c := by
  unfold posR
  rw [drop_getD hi.dr, ← List.append_assoc, List.getD_eq_getElem?_getD, List.getElem?_append_right (by simp)]
  simp
theorem pos_lt (hi : RInv s f w p (c :: r) v) : posR f w p < s.length ∧ (w ++ p.getD []).length ≤ posR f w p := by
  have := drop_len hi.dr hi.fle
  unfold posR
  cases p with
  | none => simp [sepL] at this ⊢; omega
  | some q => simp [sepL] at this ⊢; omega
theorem pos_end (hi : RInv s f w p [] v) : posR f w p = s.length := by
  have := drop_len hi.dr hi.fle
  unfold posR
  simp at this ⊢
  omega
theorem pos_next : posR f (wNext w p c) (pNext p c) = posR f w p + 1 := by
  unfold posR
  cases p with
  | none => simp [wNext, pNext, sepL]; omega
  | some q => simp [wNext, pNext, sepL]; omega
theorem rinv_digit (hi : RInv s f w p (c :: r) v) (hc : isD c = true) {v' : Int} (h0 : 0 ≤ v') (h1 : v' < big192) (hv : (w ++ p.getD []).length + 1 ≤ 40 → v' = v * 10 + ((c.toNat - 48 : Nat) : Int)) : RInv s f (wNext w p c) (pNext p c) r v' where
  fle := hi.fle
  dr := by
    rw [hi.dr]
    cases p <;> simp [wNext, pNext, sepL]
  all := by
    rw [next_app, List.all_append, hi.all, List.all_cons, hc]
    rfl
  wp := by
    cases p with
    | none => simp [pNext]
    | some q => intro _; exact hi.wp rfl
  h0 := h0
  h1 := h1
  hv := by
    intro h
    rw [next_app, List.length_append] at h
    simp only [List.length_cons, List.length_nil] at h
    rw [next_app, valF_snoc, hv (by omega), hi.hv (by omega)]
    omega
theorem rinv_point (hi : RInv s f w none (46 :: r) v) (hw : w ≠ []) : RInv s f w (some []) r v where
  fle := hi.fle
  dr := by
    rw [hi.dr]
    simp [sepL]
  all := by simpa using hi.all
  wp := fun _ => hw
  h0 := hi.h0
  h1 := hi.h1
  hv := by simpa using hi.hv
theorem rinv_small (hi : RInv s f w p r v) (h : (w ++ p.getD []).length + 1 ≤ 40) : v < 10 ^ 39 := by
  have hl := val_lt _ hi.all
  have hp : 10 ^ (w ++ p.getD []).length ≤ 10 ^ 39 := Nat.pow_le_pow_right (by decide) (by omega)
  have e := hi.hv (by omega)
  have e2 : ((10 ^ 39 : Nat) : Int) = (10 : Int) ^ 39 := by decide
  omega
end
theorem pt_next (f : Nat) (w : List UInt8) (p : Option (List UInt8)) (c : UInt8) : ptR f (wNext w p c) (pNext p c) = ptR f w p := by
  cases p <;> rfl
theorem ge48 {c : UInt8} (h : isD c = true) : ((((c.toNat : Nat) : Int) == 46) = false) ∧ decide (((c.toNat : Nat) : Int) ≥ 48) = true ∧ decide (((c.toNat : Nat) : Int) ≤ 57) = true := by
  unfold isD at h
  simp only [decide_eq_true_eq] at h
  refine ⟨?_, ?_, ?_⟩
  · simp; omega
  · simp; omega
  · simp; omega
theorem eq46 {c : UInt8} (h : c ≠ 46) : (((c.toNat : Nat) : Int) == 46) = false := by
  have : ¬ ((c.toNat : Nat) : Int) = 46 := by
    intro e
    apply h
    apply UInt8.toNat_inj.1
    have e46 : (46 : UInt8).toNat = 46 := rfl
    omega
  simpa using this
theorem q_loop {s : List UInt8} (hs : s.length ≤ 9223372036854775807) {f : Nat} : ∀ (r : List UInt8) (w : List UInt8) (p : Option (List UInt8)) (v : Int), RInv s f w p r v →
    Fin cE Tryd.f38 0 (.v (ans (goalR (((f : Nat) : Int) == 1) w p r))) [] 0 (bodyK qrK r.length) (qrS s f (ptR f w p) (w ++ p.getD []).length (posR f w p)) (qT (dg 6 v)) 2
  | [], w, p, v, hi => by
    rw [goal_end, pos_end hi]
    exact q_end hs hi 0
  | c :: r, w, p, v, hi => by
    obtain ⟨pl, pn⟩ := pos_lt hi
    have hat := pos_at hi
    have hbv : big192 = 6277101735386680763835789423207666416102355444464034512896 := rfl
    have h0 := hi.h0
    have h1 := hi.h1
    have lt : decide (((posR f w p : Nat) : Int) < ((oL s).size : Int)) = true := by rw [oL_size]; simp; omega
    have bn : (0 : Int) ≤ ((posR f w p : Nat) : Int) ∧ ((posR f w p : Nat) : Int) < ((oL s).size : Int) := by rw [oL_size]; omega
    have en : IntKind.i64.wrap ((((w ++ p.getD []).length : Nat) : Int) + 1) = (((w ++ p.getD []).length + 1 : Nat) : Int) := step64 (by omega)
    have ei : IntKind.i64.wrap (((posR f w p : Nat) : Int) + 1) = ((posR f w p + 1 : Nat) : Int) := step64 (by omega)
    have el : (wNext w p c ++ (pNext p c).getD []).length = (w ++ p.getD []).length + 1 := by rw [next_app, List.length_append]; rfl
    by_cases hc : isD c = true
    · obtain ⟨d1, d2, d3⟩ := ge48 hc
      obtain ⟨y1, _⟩ := dig_yes hc
      have hd := isD_le hc
      rw [← hat] at d1 d2 d3
      rw [goal_next _ w p r hc]
      by_cases h40 : (w ++ p.getD []).length + 1 ≤ 40
      · have hsm := rinv_small hi h40
        have e39 : (10 : Int) ^ 39 = 1000000000000000000000000000000000000000 := by decide
        have n1 : decide (IntKind.i64.wrap ((((w ++ p.getD []).length : Nat) : Int) + 1) ≤ 40) = true := by rw [en]; simp; simp at h40; omega
        have t49 : Does cE 49 [] 0 [.v (it 10)] (.v (W 10 false)) [] 0 := rof_does (n := 10) (by decide)
        have t48 := W_times (x := v) (y := 10) ⟨h0, h1⟩ (by decide) (by omega) false false
        have ed : IntKind.i64.wrap (IntKind.u8.wrap ((((s.getD (posR f w p) 0).toNat : Nat) : Int) - 48)) = ((c.toNat - 48 : Nat) : Int) := by rw [hat, y1, wrap64 (by omega) (by omega)]
        have u49 : Does cE 49 [] 0 [.v (it (IntKind.i64.wrap (IntKind.u8.wrap ((((s.getD (posR f w p) 0).toNat : Nat) : Int) - 48))))] (.v (W ((c.toNat - 48 : Nat) : Int) false)) [] 0 := by
          rw [ed]
          exact rof_does (n := ((c.toNat - 48 : Nat) : Int)) ⟨by omega, by omega⟩
        have t58 := W_plus (x := v * 10) (y := ((c.toNat - 48 : Nat) : Int)) (by omega) (by omega) (by omega) false false
        have h := qrb_10 (bs := oL s) (a := dg 6 v) (fr := f) (pt := ptR f w p) (n := ((w ++ p.getD []).length : Nat)) (i := (posR f w p : Nat)) (m := r.length + 1) (res := .v (ans (goalR (((f : Nat) : Int) == 1) (wNext w p c) (pNext p c) r))) (T' := []) (n' := 0) (h0 := lt) (h1 := bn) (h2 := d1) (h3 := d2) (h4 := d3) (h5 := n1) (h6 := t49) (h7 := t48) (h8 := u49) (h9 := t58)
        rw [en, ei] at h
        refine h (fin_round ?_)
        have ih := q_loop hs r (wNext w p c) (pNext p c) (v * 10 + ((c.toNat - 48 : Nat) : Int)) (rinv_digit hi hc (by omega) (by omega) (fun _ => rfl))
        rw [pt_next, el, pos_next] at ih
        exact ih
      · have n1 : decide (IntKind.i64.wrap ((((w ++ p.getD []).length : Nat) : Int) + 1) ≤ 40) = false := by rw [en]; simp; simp at h40; omega
        have h := qrb_11 (bs := oL s) (a := dg 6 v) (fr := f) (pt := ptR f w p) (n := ((w ++ p.getD []).length : Nat)) (i := (posR f w p : Nat)) (m := r.length + 1) (res := .v (ans (goalR (((f : Nat) : Int) == 1) (wNext w p c) (pNext p c) r))) (T' := []) (n' := 0) (h0 := lt) (h1 := bn) (h2 := d1) (h3 := d2) (h4 := d3) (h5 := n1)
        rw [en, ei] at h
        refine h (fin_round ?_)
        have ih := q_loop hs r (wNext w p c) (pNext p c) v (rinv_digit hi hc h0 h1 (fun e => (h40 e).elim))
        rw [pt_next, el, pos_next] at ih
        exact ih
    · have hc2 : isD c = false := by simpa using hc
      by_cases h46 : c = 46
      · subst h46
        have q1 : ((((s.getD (posR f w p) 0).toNat : Nat) : Int) == 46) = true := by rw [hat]; rfl
        have q2 : decide ((((s.getD (posR f w p) 0).toNat : Nat) : Int) ≥ 48) = false := by rw [hat]; rfl
        cases p with
        | none =>
          by_cases w0 : w = []
          · rw [goal_bad _ w none r hc2 (.inr (.inr w0))]
            refine qrb_5 (bs := oL s) (a := dg 6 v) (fr := f) (pt := -1) (n := ((w ++ (none : Option (List UInt8)).getD []).length : Nat)) (i := (posR f w none : Nat)) (m := r.length + 1) (h0 := lt) (h1 := bn) (h2 := q1) (h3 := rfl) (h4 := ?_) (h5 := q2)
            unfold posR
            rw [w0]
            simp [sepL]
          · have hi2 := rinv_point hi w0
            have hw1 : 0 < w.length := by
              cases w with
              | nil => exact (w0 rfl).elim
              | cons c r => simp
            have h := qrb_1 (bs := oL s) (a := dg 6 v) (fr := f) (pt := -1) (n := ((w ++ (none : Option (List UInt8)).getD []).length : Nat)) (i := (posR f w none : Nat)) (m := r.length + 1) (res := .v (ans (goalR (((f : Nat) : Int) == 1) w none (46 :: r)))) (T' := []) (n' := 0) (h0 := lt) (h1 := bn) (h2 := q1) (h3 := rfl) (h4 := by
              unfold posR
              simp [sepL]
              omega)
            rw [ei] at h
            refine h (fin_round ?_)
            have ih := q_loop hs r w (some []) v hi2
            have eg : goalR (((f : Nat) : Int) == 1) w (some []) r = goalR (((f : Nat) : Int) == 1) w none (46 :: r) := by simp [goalR, sp]
            have ep : ptR f w (some []) = ((posR f w none : Nat) : Int) := by
              unfold posR
              simp [sepL]
            have eo : posR f w (some []) = posR f w none + 1 := by
              unfold posR
              simp [sepL]
              omega
            rw [eg, ep, eo] at ih
            exact ih
        | some q =>
          rw [goal_bad _ w (some q) r hc2 (.inr (.inl rfl))]
          exact qrb_9 (bs := oL s) (a := dg 6 v) (fr := f) (pt := (f : Int) + w.length) (n := ((w ++ (some q).getD []).length : Nat)) (i := (posR f w (some q) : Nat)) (m := r.length + 1) (h0 := lt) (h1 := bn) (h2 := q1) (h3 := by simp; omega) (h4 := q2)
      · have d1 := eq46 h46
        rw [goal_bad _ w p r hc2 (.inl h46)]
        rw [← hat] at d1
        by_cases h48 : ((c.toNat : Nat) : Int) ≥ 48
        · have d2 : decide ((((s.getD (posR f w p) 0).toNat : Nat) : Int) ≥ 48) = true := by rw [hat]; simpa using h48
          have d3 : decide ((((s.getD (posR f w p) 0).toNat : Nat) : Int) ≤ 57) = false := by
            rw [hat]
            unfold isD at hc2
            simp only [decide_eq_false_iff_not] at hc2 ⊢
            omega
          exact qrb_12 (bs := oL s) (a := dg 6 v) (fr := f) (pt := ptR f w p) (n := ((w ++ p.getD []).length : Nat)) (i := (posR f w p : Nat)) (m := r.length + 1) (h0 := lt) (h1 := bn) (h2 := d1) (h3 := d2) (h4 := d3)
        · have d2 : decide ((((s.getD (posR f w p) 0).toNat : Nat) : Int) ≥ 48) = false := by rw [hat]; simp only [decide_eq_false_iff_not]; omega
          exact qrb_13 (bs := oL s) (a := dg 6 v) (fr := f) (pt := ptR f w p) (n := ((w ++ p.getD []).length : Nat)) (i := (posR f w p : Nat)) (m := r.length + 1) (h0 := lt) (h1 := bn) (h2 := d1) (h3 := d2)
theorem rparse_does (s : List UInt8) (hs : s.length ≤ 9223372036854775807) : Does cE 38 [] 0 [.v (st (oL s))] (.v (ans (parseL s))) [] 0 := by
  refine does_of_fin (fn := Tryd.f38) (c := bd Tryd.f38) rfl (by kernel_rfl) rfl ?_
  have start : ∀ (f : Nat), f ≤ s.length → RInv s f [] none (s.drop f) 0 := fun f hf => ⟨hf, by simp [sepL], rfl, (fun e => by cases e), by decide, by decide, fun _ => rfl⟩
  cases s with
  | nil =>
    refine qra_3 (oL []) _ _ _ (by rw [is_empty rfl]; rfl) ?_
    exact fin_loop (0 + 1) (fin_round (q_loop hs [] [] none 0 (start 0 (Nat.le_refl _))))
  | cons c r =>
    have h0 : (!(oL (c :: r)).toList == (ByteArray.mk #[]).toList) = true := by rw [ne_empty (by simp)]; rfl
    have h1 : (0 : Int) ≤ 0 ∧ (0 : Int) < ((oL (c :: r)).size : Int) := by rw [oL_size]; simp
    by_cases h45 : c = 45
    · subst h45
      have e1 : parseL (45 :: r) = goalR (((1 : Nat) : Int) == 1) [] none r := by simp [parseL, goalR, sgn, bodyL]
      rw [e1]
      refine qra_1 (oL (45 :: r)) _ _ _ h0 h1 rfl ?_
      exact fin_loop (r.length + 1) (fin_round (q_loop hs r [] none 0 (start 1 (by simp))))
    · have e2 : sgn (c :: r) = false := by simp [sgn, h45]
      have e1 : parseL (c :: r) = goalR (((0 : Nat) : Int) == 1) [] none (c :: r) := by
        unfold parseL bodyL goalR
        rw [e2]
        rfl
      rw [e1]
      refine qra_2 (oL (c :: r)) _ _ _ h0 h1 ?_ ?_
      · have : ¬ ((c.toNat : Nat) : Int) = 45 := by
          intro e
          apply h45
          apply UInt8.toNat_inj.1
          have e45 : (45 : UInt8).toNat = 45 := rfl
          omega
        have h3 : (((c.toNat : Nat) : Int) == 45) = false := by simpa using this
        exact h3
      · exact fin_loop ((c :: r).length + 1) (fin_round (q_loop hs (c :: r) [] none 0 (start 0 (by simp))))
end Go.Proofs.YtcneenlcbjicnaaDoorC
