import Derived.Lib.ItoaNum
/- The text of a decimal and the decimal of a text, in lists of bytes; what is printed is read again, and what is read is printed again. -/
namespace Go.Proofs.YtcneenlcbjicnaaDoorC
open Go.Lib
/-- A decimal's text. -/
def padL (u sc : Int) : List UInt8 := List.replicate (sc.toNat + 1 - (decDigits u.natAbs).length) 48 ++ decDigits u.natAbs
def dotL (s : List UInt8) (sc : Int) : List UInt8 := if sc = 0 then s else s.take (s.length - sc.toNat) ++ 46 :: s.drop (s.length - sc.toNat)
def printL (u sc : Int) : List UInt8 := if 0 ≤ sc ∧ sc ≤ 6 then (if u < 0 then 45 :: dotL (padL u sc) sc else dotL (padL u sc) sc) else []
def isD (c : UInt8) : Bool := decide (48 ≤ c.toNat ∧ c.toNat ≤ 57)
def valF (a : Nat) (l : List UInt8) : Nat := l.foldl (fun n c => 10 * n + (c.toNat - 48)) a
/-- What stands before the first point, what behind it. -/
def sp : List UInt8 → List UInt8 × Option (List UInt8)
  | [] => ([], none)
  | c :: r => if c = 46 then ([], some r) else (c :: (sp r).1, (sp r).2)
def sgn : List UInt8 → Bool
  | c :: _ => c == 45
  | [] => false
def bodyL (s : List UInt8) : List UInt8 := if sgn s then s.drop 1 else s
def parseB (neg : Bool) (w : List UInt8) (p : Option (List UInt8)) : Int × Int × Int :=
  if w = [] ∨ p = some [] ∨ 6 < (p.getD []).length ∨ (1 < w.length ∧ w.head? = some 48) ∨ (w ++ p.getD []).all isD = false then (0, 0, 21)
  else if neg = true ∧ valF 0 (w ++ p.getD []) = 0 then (0, 0, 21)
  else if neg = true then (if valF 0 (w ++ p.getD []) ≤ 9223372036854775808 then (-(valF 0 (w ++ p.getD []) : Int), ((p.getD []).length : Int), 0) else (0, 0, 32))
  else if valF 0 (w ++ p.getD []) < 9223372036854775808 then ((valF 0 (w ++ p.getD []) : Int), ((p.getD []).length : Int), 0) else (0, 0, 32)
def parseL (s : List UInt8) : Int × Int × Int := parseB (sgn s) (sp (bodyL s)).1 (sp (bodyL s)).2

theorem valF_app (a : Nat) (l r : List UInt8) : valF a (l ++ r) = valF (valF a l) r := by simp [valF]
theorem valF_snoc (a : Nat) (l : List UInt8) (c : UInt8) : valF a (l ++ [c]) = 10 * valF a l + (c.toNat - 48) := by simp [valF]
theorem valF_zeros : ∀ k, valF 0 (List.replicate k 48) = 0
  | 0 => rfl
  | k + 1 => by
    rw [List.replicate_succ', valF_snoc, valF_zeros k]
    rfl
theorem ofNat_toNat {d : Nat} (h : d < 10) : (UInt8.ofNat (48 + d)).toNat = 48 + d := by
  rw [UInt8.toNat_ofNat']
  omega
theorem isD_ofNat {d : Nat} (h : d < 10) : isD (UInt8.ofNat (48 + d)) = true := by
  unfold isD
  rw [ofNat_toNat h]
  simp
  omega
theorem isD_eq {c : UInt8} (h : isD c = true) : c = UInt8.ofNat (48 + (c.toNat - 48)) ∧ c.toNat - 48 < 10 := by
  unfold isD at h
  simp only [decide_eq_true_eq] at h
  refine ⟨?_, by omega⟩
  have e : 48 + (c.toNat - 48) = c.toNat := by omega
  rw [e]
  simp
theorem dec_small {u : Nat} (h : u < 10) : decDigits u = [UInt8.ofNat (48 + u)] := by rw [decDigits, dif_pos h]
theorem dec_big {u : Nat} (h : ¬ u < 10) : decDigits u = decDigits (u / 10) ++ [UInt8.ofNat (48 + u % 10)] := by rw [decDigits, dif_neg h]
theorem dec_all (u : Nat) : (decDigits u).all isD = true := by
  induction u using Nat.strongRecOn with
  | _ u ih =>
    by_cases h : u < 10
    · rw [dec_small h, List.all_cons, isD_ofNat h]
      rfl
    · rw [dec_big h, List.all_append, ih (u / 10) (by omega), List.all_cons, isD_ofNat (Nat.mod_lt u (by decide : 10 > 0))]
      rfl
theorem dec_val (u : Nat) : valF 0 (decDigits u) = u := by
  induction u using Nat.strongRecOn with
  | _ u ih =>
    by_cases h : u < 10
    · rw [dec_small h]
      simp only [valF, List.foldl_cons, List.foldl_nil, ofNat_toNat h]
      omega
    · rw [dec_big h, valF_snoc, ih (u / 10) (by omega), ofNat_toNat (Nat.mod_lt u (by decide))]
      omega
theorem dec_ne (u : Nat) : decDigits u ≠ [] := by
  intro h
  have := decDigits_length u
  rw [h] at this
  have := nDigits_pos u
  simp at *
  omega
theorem head_app {l r : List UInt8} (h : l ≠ []) : (l ++ r).head? = l.head? := by
  cases l with
  | nil => exact (h rfl).elim
  | cons a l => rfl
theorem dec_head (u : Nat) (h : 10 ≤ u) : (decDigits u).head? ≠ some 48 := by
  induction u using Nat.strongRecOn with
  | _ u ih =>
    rw [dec_big (by omega)]
    have hne := dec_ne (u / 10)
    rw [head_app hne]
    by_cases h2 : u / 10 < 10
    · rw [dec_small h2]
      simp only [List.head?_cons, ne_eq, Option.some.injEq]
      intro e
      have := congrArg UInt8.toNat e
      rw [ofNat_toNat h2] at this
      have e48 : (48 : UInt8).toNat = 48 := rfl
      omega
    · exact ih (u / 10) (by omega) (by omega)
/-- Every row of digits is a number's own digits, with zeros ahead. -/
theorem digits_pad : ∀ (n : Nat) (l : List UInt8), l.length = n → l ≠ [] → l.all isD = true → l = List.replicate (l.length - (decDigits (valF 0 l)).length) 48 ++ decDigits (valF 0 l) ∧ (decDigits (valF 0 l)).length ≤ l.length
  | 0, l, hn, h, _ => (h (List.eq_nil_of_length_eq_zero hn)).elim
  | n + 1, l, hn, h, hd => by
    obtain ⟨r, c, rfl⟩ : ∃ r c, l = r ++ [c] := ⟨l.dropLast, l.getLast h, (List.dropLast_concat_getLast h).symm⟩
    rw [List.all_append, Bool.and_eq_true] at hd
    have hc : isD c = true := by simpa using hd.2
    obtain ⟨e1, e2⟩ := isD_eq hc
    rw [valF_snoc]
    generalize hk : c.toNat - 48 = d at e1 e2
    have hlen : (r ++ [c]).length = r.length + 1 := by simp
    rw [hlen] at hn ⊢
    by_cases hr : r = []
    · subst hr
      have : valF 0 ([] : List UInt8) = 0 := rfl
      rw [this, Nat.mul_zero, Nat.zero_add, dec_small e2, ← e1]
      simp
    · obtain ⟨ih, ih2⟩ := digits_pad n r (by omega) hr hd.1
      by_cases hv : valF 0 r = 0
      · rw [hv] at ih ih2 ⊢
        rw [Nat.mul_zero, Nat.zero_add, dec_small e2, ← e1]
        rw [dec_small (by decide)] at ih
        have e48 : UInt8.ofNat (48 + 0) = 48 := rfl
        rw [e48] at ih
        refine ⟨?_, by simp⟩
        have hrep : r = List.replicate r.length 48 := by
          have h1 : r.length ≠ 0 := by intro h; exact hr (List.eq_nil_of_length_eq_zero h)
          have h2 : List.replicate (r.length - 1) (48 : UInt8) ++ [48] = List.replicate r.length 48 := by
            rw [← List.replicate_succ']
            congr 1
            omega
          simp only [List.length_cons, List.length_nil] at ih
          exact ih.trans h2
        simp only [List.length_cons, List.length_nil]
        have : r.length + 1 - (0 + 1) = r.length := by omega
        rw [this, ← hrep]
      · have hb : ¬ 10 * valF 0 r + d < 10 := by omega
        rw [dec_big hb]
        have q1 : (10 * valF 0 r + d) / 10 = valF 0 r := by omega
        have q2 : (10 * valF 0 r + d) % 10 = d := by omega
        rw [q1, q2, ← e1, List.length_append]
        refine ⟨?_, by simp; omega⟩
        simp only [List.length_cons, List.length_nil]
        have : r.length + 1 - ((decDigits (valF 0 r)).length + (0 + 1)) = r.length - (decDigits (valF 0 r)).length := by omega
        rw [this, ← List.append_assoc, ← ih]
theorem sp_digits : ∀ (w : List UInt8), w.all isD = true → sp w = (w, none)
  | [], _ => rfl
  | c :: r, h => by
    simp only [List.all_cons, Bool.and_eq_true] at h
    have hc : c ≠ 46 := by
      intro e
      subst e
      exact absurd h.1 (by decide)
    rw [sp, if_neg hc, sp_digits r h.2]
theorem sp_dot : ∀ (w p : List UInt8), w.all isD = true → sp (w ++ 46 :: p) = (w, some p)
  | [], p, _ => by simp [sp]
  | c :: r, p, h => by
    simp only [List.all_cons, Bool.and_eq_true] at h
    have hc : c ≠ 46 := by
      intro e
      subst e
      exact absurd h.1 (by decide)
    rw [List.cons_append, sp, if_neg hc, sp_dot r p h.2]
theorem sp_back : ∀ (l : List UInt8), l = (sp l).1 ++ (match (sp l).2 with | none => [] | some p => 46 :: p)
  | [] => rfl
  | c :: r => by
    rw [sp]
    by_cases h : c = 46
    · rw [if_pos h, h]
      rfl
    · rw [if_neg h]
      show c :: r = c :: ((sp r).1 ++ _)
      rw [← sp_back r]
theorem all_rep (k : Nat) : (List.replicate k (48 : UInt8)).all isD = true := by
  rw [List.all_eq_true]
  intro x hx
  rw [(List.mem_replicate.1 hx).2]
  rfl
theorem pad_all (u sc : Int) : (padL u sc).all isD = true := by
  unfold padL
  rw [List.all_append, all_rep, dec_all]
  rfl
theorem pad_val (u sc : Int) : valF 0 (padL u sc) = u.natAbs := by
  unfold padL
  rw [valF_app, valF_zeros, dec_val]
theorem pad_len (u sc : Int) : (padL u sc).length = max (sc.toNat + 1) (decDigits u.natAbs).length := by
  unfold padL
  rw [List.length_append, List.length_replicate]
  omega
theorem sgn_digits {l : List UInt8} (h : l.all isD = true) : sgn l = false := by
  cases l with
  | nil => rfl
  | cons c r =>
    simp only [List.all_cons, Bool.and_eq_true] at h
    have hc : c ≠ 45 := by
      intro e
      subst e
      exact absurd h.1 (by decide)
    simp [sgn, hc]
/-- The two parts of a printed number. -/
theorem dot_parts (u sc : Int) (h0 : 0 ≤ sc) : ∃ w p, sp (dotL (padL u sc) sc) = (w, p) ∧ w ++ p.getD [] = padL u sc ∧ (p.getD []).length = sc.toNat ∧ w.length = (padL u sc).length - sc.toNat ∧ p ≠ some [] ∧ sgn (dotL (padL u sc) sc) = false := by
  have hall := pad_all u sc
  have hl := pad_len u sc
  by_cases hz : sc = 0
  · refine ⟨padL u sc, none, ?_, by simp, by simp [hz], by simp [hz], by simp, ?_⟩
    · unfold dotL
      rw [if_pos hz, sp_digits _ hall]
    · unfold dotL
      rw [if_pos hz, sgn_digits hall]
  · have hp : ((padL u sc).drop ((padL u sc).length - sc.toNat)).length = sc.toNat := by
      rw [List.length_drop]
      omega
    have htd := List.take_append_drop ((padL u sc).length - sc.toNat) (padL u sc)
    have hw : ((padL u sc).take ((padL u sc).length - sc.toNat)).all isD = true := by
      rw [← htd, List.all_append, Bool.and_eq_true] at hall
      exact hall.1
    refine ⟨(padL u sc).take ((padL u sc).length - sc.toNat), some ((padL u sc).drop ((padL u sc).length - sc.toNat)), ?_, by simp, by simpa using hp, by rw [List.length_take]; omega, ?_, ?_⟩
    · unfold dotL
      rw [if_neg hz, sp_dot _ _ hw]
    · intro e
      simp only [Option.some.injEq] at e
      rw [e] at hp
      simp at hp
      omega
    · unfold dotL
      rw [if_neg hz]
      cases hx : (padL u sc).take ((padL u sc).length - sc.toNat) with
      | nil => rfl
      | cons c r =>
        rw [hx] at hw
        exact sgn_digits (l := c :: r) hw
/-- What is printed is read as it was. -/
theorem parse_print (u sc : Int) (h0 : 0 ≤ sc) (h6 : sc ≤ 6) (hu : -9223372036854775808 ≤ u) (hu2 : u < 9223372036854775808) : parseL (printL u sc) = (u, sc, 0) := by
  obtain ⟨w, p, e1, e2, e3, e4, e5, e6⟩ := dot_parts u sc h0
  have hl := pad_len u sc
  have hbody : bodyL (printL u sc) = dotL (padL u sc) sc ∧ sgn (printL u sc) = decide (u < 0) := by
    have hp : printL u sc = if u < 0 then 45 :: dotL (padL u sc) sc else dotL (padL u sc) sc := by
      unfold printL
      rw [if_pos ⟨h0, h6⟩]
    rw [hp]
    unfold bodyL
    by_cases hn : u < 0
    · rw [if_pos hn]
      simp [sgn, hn]
    · rw [if_neg hn, e6]
      simp [hn]
  unfold parseL
  rw [hbody.1, hbody.2, e1]
  simp only
  unfold parseB
  rw [e2, pad_val, pad_all]
  have hw : w ≠ [] := by
    intro e
    rw [e] at e4
    simp at e4
    omega
  have hlead : ¬ (1 < w.length ∧ w.head? = some 48) := by
    rintro ⟨a1, a2⟩
    have hlen : (decDigits u.natAbs).length > sc.toNat + 1 := by omega
    have hpad : padL u sc = decDigits u.natAbs := by
      unfold padL
      have : sc.toNat + 1 - (decDigits u.natAbs).length = 0 := by omega
      rw [this]
      rfl
    have hbig : 10 ≤ u.natAbs := by
      by_cases h : u.natAbs < 10
      · rw [dec_small h] at hlen
        simp at hlen
      · omega
    have := dec_head _ hbig
    rw [← hpad, ← e2, head_app hw] at this
    exact this a2
  have hbad : ¬ (w = [] ∨ p = some [] ∨ 6 < (p.getD []).length ∨ (1 < w.length ∧ w.head? = some 48) ∨ true = false) := by
    rintro (h | h | h | h | h)
    · exact hw h
    · exact e5 h
    · rw [e3] at h; omega
    · exact hlead h
    · cases h
  rw [if_neg hbad]
  by_cases hn : u < 0
  · have : ¬ (decide (u < 0) = true ∧ u.natAbs = 0) := by rintro ⟨_, h⟩; omega
    rw [if_neg this, if_pos (by simpa using hn), if_pos (by omega), e3]
    simp only [Prod.mk.injEq, and_true]
    omega
  · have : ¬ (decide (u < 0) = true ∧ u.natAbs = 0) := by rintro ⟨h, _⟩; exact hn (by simpa using h)
    rw [if_neg this, if_neg (by simpa using hn), if_pos (by omega), e3]
    simp only [Prod.mk.injEq, and_true]
    omega
/-- What is read is printed as it was. -/
theorem print_parse (s : List UInt8) (u sc e : Int) (h : parseL s = (u, sc, e)) (he : e = 0) : printL u sc = s := by
  subst he
  have hsp := sp_back (bodyL s)
  unfold parseL at h
  generalize hw : (sp (bodyL s)).1 = w at h hsp
  generalize hp : (sp (bodyL s)).2 = p at h hsp
  unfold parseB at h
  split at h
  · simp at h
  rename_i hbad
  split at h
  · simp at h
  rename_i hz
  have b1 : w ≠ [] := fun e => hbad (.inl e)
  have b2 : p ≠ some [] := fun e => hbad (.inr (.inl e))
  have b3 : (p.getD []).length ≤ 6 := by
    have : ¬ 6 < (p.getD []).length := fun e => hbad (.inr (.inr (.inl e)))
    omega
  have b4 : ¬ (1 < w.length ∧ w.head? = some 48) := fun e => hbad (.inr (.inr (.inr (.inl e))))
  have b5 : (w ++ p.getD []).all isD = true := by
    cases hh : (w ++ p.getD []).all isD with
    | true => rfl
    | false => exact (hbad (.inr (.inr (.inr (.inr hh))))).elim
  have hne : w ++ p.getD [] ≠ [] := by simp [b1]
  obtain ⟨pd, pl⟩ := digits_pad _ _ rfl hne b5
  have fin : ∀ v : Int, v.natAbs = valF 0 (w ++ p.getD []) → dotL (padL v ((p.getD []).length : Int)) ((p.getD []).length : Int) = bodyL s := by
    intro v hv
    have hpad : padL v ((p.getD []).length : Int) = w ++ p.getD [] := by
      unfold padL
      rw [hv]
      by_cases h1 : w.length = 1
      · have : (((p.getD []).length : Int)).toNat + 1 = (w ++ p.getD []).length := by rw [List.length_append]; omega
        rw [this]
        exact pd.symm
      · have hw1 : 1 < w.length := by
          have : w.length ≠ 0 := fun h => b1 (List.eq_nil_of_length_eq_zero h)
          omega
        have hk : (w ++ p.getD []).length - (decDigits (valF 0 (w ++ p.getD []))).length = 0 := by
          cases hk : (w ++ p.getD []).length - (decDigits (valF 0 (w ++ p.getD []))).length with
          | zero => rfl
          | succ k =>
            rw [hk] at pd
            have := congrArg List.head? pd
            rw [head_app b1] at this
            simp [List.replicate_succ] at this
            exact (b4 ⟨hw1, this⟩).elim
        rw [hk] at pd
        have hlen : (decDigits (valF 0 (w ++ p.getD []))).length = w.length + (p.getD []).length := by
          rw [← List.length_append]
          omega
        have : (((p.getD []).length : Int)).toNat + 1 - (decDigits (valF 0 (w ++ p.getD []))).length = 0 := by omega
        rw [this]
        exact pd.symm
    rw [hpad, hsp]
    unfold dotL
    cases p with
    | none => simp
    | some q =>
      have hq : q ≠ [] := fun e => b2 (by rw [e])
      have hq2 : ¬ ((((some q).getD ([] : List UInt8)).length : Int) = 0) := by
        intro e
        have : q.length = 0 := by simpa using e
        exact hq (List.eq_nil_of_length_eq_zero this)
      rw [if_neg hq2]
      have : (w ++ (some q).getD []).length - ((((some q).getD ([] : List UInt8)).length : Int)).toNat = w.length := by simp
      rw [this]
      simp
  have hsc : (0 : Int) ≤ ((p.getD []).length : Int) ∧ ((p.getD []).length : Int) ≤ 6 := by omega
  split at h
  · rename_i hs
    split at h
    · simp only [Prod.mk.injEq] at h
      obtain ⟨rfl, rfl, _⟩ := h
      have hv : valF 0 (w ++ p.getD []) ≠ 0 := fun e => hz ⟨hs, e⟩
      unfold printL
      rw [if_pos hsc, if_pos (by omega), fin _ (by omega)]
      unfold bodyL
      rw [if_pos hs]
      cases s with
      | nil => simp [sgn] at hs
      | cons c r =>
        simp only [sgn, beq_iff_eq] at hs
        simp [hs]
    · simp at h
  · rename_i hs
    split at h
    · simp only [Prod.mk.injEq] at h
      obtain ⟨rfl, rfl, _⟩ := h
      unfold printL
      rw [if_pos hsc, if_neg (by omega), fin _ (by omega)]
      unfold bodyL
      rw [if_neg hs]
    · simp at h
end Go.Proofs.YtcneenlcbjicnaaDoorC
