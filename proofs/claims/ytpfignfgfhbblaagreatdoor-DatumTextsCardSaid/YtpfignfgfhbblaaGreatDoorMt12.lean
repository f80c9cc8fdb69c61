import Derived.Test.YtpfignfgfhbblaaGreatDoorMt11
import Derived.Test.YtpfignfgfhbblaaGreatDoorMt08
import Derived.Test.YtpfignfgfhbblaaGreatDoorMt05
import Derived.KernelRfl
import Derived.Lib.IndexLaws
namespace Go.Proofs.YtpfignfgfhbblaaGreatDoorC
open Go.Proofs Go.Proofs.YtpfignfgfhbblaaGreatDoorSx Go.Lib
set_option maxRecDepth 100000
set_option linter.unusedVariables false
set_option linter.unusedSimpArgs false
theorem dbif {g : Nat} {xs : List SV} {c : Bool} {a b : Value} (h1 : c = true → Does cE g [] 0 xs (.v a) [] 0) (h0 : c = false → Does cE g [] 0 xs (.v b) [] 0) : Does cE g [] 0 xs (.v (bif c then a else b)) [] 0 := by
  cases c
  · exact h0 rfl
  · exact h1 rfl
def pOf_v (t : Int) : Value :=
  bif (t == 0) then bif (t == 2) then (.agg #[(.int .i64 (0)), (.int .i64 (0)), (.int .i64 (0)), (.string ((ByteArray.mk #[])))])
    else (.agg #[(.int .i64 (4)), (.int .i64 (t)), (.int .i64 (0)), (.string ((ByteArray.mk #[])))])
  else bif (t == 1) then bif (t == 2) then (.agg #[(.int .i64 (0)), (.int .i64 (0)), (.int .i64 (0)), (.string ((ByteArray.mk #[])))])
    else (.agg #[(.int .i64 (4)), (.int .i64 (t)), (.int .i64 (0)), (.string ((ByteArray.mk #[])))])
  else (.agg #[(.int .i64 (0)), (.int .i64 (0)), (.int .i64 (0)), (.string ((ByteArray.mk #[])))])
theorem pOf_v_does (t : Int) : Does cE 91 [] 0 [.v (it t)] (.v (pOf_v t)) [] 0 := by
  unfold pOf_v
  refine dbif (fun c1 => ?_) (fun c1 => ?_)
  · refine dbif (fun c2 => ?_) (fun c2 => ?_)
    · exact pOf_1 (t := t) (h0 := c1) (h1 := c2)
    · exact pOf_2 (t := t) (h0 := c1) (h1 := c2)
  · refine dbif (fun c3 => ?_) (fun c3 => ?_)
    · refine dbif (fun c4 => ?_) (fun c4 => ?_)
      · exact pOf_3 (t := t) (h0 := c1) (h1 := c3) (h2 := c4)
      · exact pOf_4 (t := t) (h0 := c1) (h1 := c3) (h2 := c4)
    · exact pOf_5 (t := t) (h0 := c1) (h1 := c3)
def pNot_v (a : Int) : Value :=
  bif (a == 0) then bif (a == 2) then (.int .i64 (2))
    else (.int .i64 (IntKind.i64.wrap (1 - a)))
  else bif (a == 1) then bif (a == 2) then (.int .i64 (2))
    else (.int .i64 (IntKind.i64.wrap (1 - a)))
  else (.int .i64 (2))
theorem pNot_v_does (a : Int) : Does cE 59 [] 0 [.v (it a)] (.v (pNot_v a)) [] 0 := by
  unfold pNot_v
  refine dbif (fun c1 => ?_) (fun c1 => ?_)
  · refine dbif (fun c2 => ?_) (fun c2 => ?_)
    · exact pNot_1 (a := a) (h0 := c1) (h1 := c2)
    · exact pNot_2 (a := a) (h0 := c1) (h1 := c2)
  · refine dbif (fun c3 => ?_) (fun c3 => ?_)
    · refine dbif (fun c4 => ?_) (fun c4 => ?_)
      · exact pNot_3 (a := a) (h0 := c1) (h1 := c3) (h2 := c4)
      · exact pNot_4 (a := a) (h0 := c1) (h1 := c3) (h2 := c4)
    · exact pNot_5 (a := a) (h0 := c1) (h1 := c3)
def pOr_v (a b : Int) : Value :=
  bif (a == 0) then bif (b == 0) then bif (a == 1) then (.int .i64 (1))
      else bif (b == 1) then (.int .i64 (1))
      else (.int .i64 (if b > a then b else a))
    else bif (b == 1) then bif (a == 1) then (.int .i64 (1))
      else (.int .i64 (1))
    else bif (a == 1) then (.int .i64 (1))
    else (.int .i64 (if 2 > a then 2 else a))
  else bif (a == 1) then bif (b == 0) then (.int .i64 (1))
    else bif (b == 1) then (.int .i64 (1))
    else (.int .i64 (1))
  else bif (b == 0) then bif (b == 1) then (.int .i64 (1))
    else (.int .i64 (if b > 2 then b else 2))
  else bif (b == 1) then (.int .i64 (1))
  else (.int .i64 (if 2 > 2 then 2 else 2))
theorem pOr_v_does (a b : Int) : Does cE 58 [] 0 [.v (it a), .v (it b)] (.v (pOr_v a b)) [] 0 := by
  unfold pOr_v
  refine dbif (fun c1 => ?_) (fun c1 => ?_)
  · refine dbif (fun c2 => ?_) (fun c2 => ?_)
    · refine dbif (fun c3 => ?_) (fun c3 => ?_)
      · exact pOr_1 (a := a) (b := b) (h0 := c1) (h1 := c2) (h2 := c3)
      · refine dbif (fun c4 => ?_) (fun c4 => ?_)
        · exact pOr_2 (a := a) (b := b) (h0 := c1) (h1 := c2) (h2 := c3) (h3 := c4)
        · exact pOr_3 (a := a) (b := b) (h0 := c1) (h1 := c2) (h2 := c3) (h3 := c4)
    · refine dbif (fun c5 => ?_) (fun c5 => ?_)
      · refine dbif (fun c6 => ?_) (fun c6 => ?_)
        · exact pOr_4 (a := a) (b := b) (h0 := c1) (h1 := c2) (h2 := c5) (h3 := c6)
        · exact pOr_5 (a := a) (b := b) (h0 := c1) (h1 := c2) (h2 := c5) (h3 := c6)
      · refine dbif (fun c7 => ?_) (fun c7 => ?_)
        · exact pOr_6 (a := a) (b := b) (h0 := c1) (h1 := c2) (h2 := c5) (h3 := c7)
        · exact pOr_7 (a := a) (b := b) (h0 := c1) (h1 := c2) (h2 := c5) (h3 := c7)
  · refine dbif (fun c8 => ?_) (fun c8 => ?_)
    · refine dbif (fun c9 => ?_) (fun c9 => ?_)
      · exact pOr_8 (a := a) (b := b) (h0 := c1) (h1 := c8) (h2 := c9)
      · refine dbif (fun c10 => ?_) (fun c10 => ?_)
        · exact pOr_9 (a := a) (b := b) (h0 := c1) (h1 := c8) (h2 := c9) (h3 := c10)
        · exact pOr_10 (a := a) (b := b) (h0 := c1) (h1 := c8) (h2 := c9) (h3 := c10)
    · refine dbif (fun c11 => ?_) (fun c11 => ?_)
      · refine dbif (fun c12 => ?_) (fun c12 => ?_)
        · exact pOr_11 (a := a) (b := b) (h0 := c1) (h1 := c8) (h2 := c11) (h3 := c12)
        · exact pOr_12 (a := a) (b := b) (h0 := c1) (h1 := c8) (h2 := c11) (h3 := c12)
      · refine dbif (fun c13 => ?_) (fun c13 => ?_)
        · exact pOr_13 (a := a) (b := b) (h0 := c1) (h1 := c8) (h2 := c11) (h3 := c13)
        · exact pOr_14 (a := a) (b := b) (h0 := c1) (h1 := c8) (h2 := c11) (h3 := c13)
def rOf_v (t : Int) : Value :=
  bif (t == 0) then (.agg #[(.int .i64 (4)), (.int .i64 (t)), (.int .i64 (0)), (.string ((ByteArray.mk #[])))])
  else bif (t == 1) then (.agg #[(.int .i64 (4)), (.int .i64 (t)), (.int .i64 (0)), (.string ((ByteArray.mk #[])))])
  else (.agg #[(.int .i64 (0)), (.int .i64 (0)), (.int .i64 (0)), (.string ((ByteArray.mk #[])))])
def rNot_v (a : Int) : Value :=
  bif (a == 0) then (.int .i64 (IntKind.i64.wrap (1 - a)))
  else bif (a == 1) then (.int .i64 (IntKind.i64.wrap (1 - a)))
  else (.int .i64 (2))
def rOr_v (a b : Int) : Value :=
  bif (a == 1) then (.int .i64 (1))
  else bif (b == 1) then (.int .i64 (1))
  else bif (a == 0) then bif (b == 0) then (.int .i64 (0))
    else (.int .i64 (2))
  else (.int .i64 (2))
def rAnd_v (a b : Int) : Value :=
  bif (a == 0) then (.int .i64 (0))
  else bif (b == 0) then (.int .i64 (0))
  else bif (a == 1) then bif (b == 1) then (.int .i64 (1))
    else (.int .i64 (2))
  else (.int .i64 (2))
def rSa_v (k n m j p q : Int) (s u : ByteArray) : Value :=
  bif (k == j) then bif (n == p) then bif (m == q) then (.bool (s.toList == u.toList))
      else (.bool (false))
    else (.bool (false))
  else (.bool (false))
theorem rSa_v_does (k n m j p q : Int) (s u : ByteArray) : Does cE 17 [] 0 [.v (vl k n m s), .v (vl j p q u)] (.v (rSa_v k n m j p q s u)) [] 0 := by
  unfold rSa_v
  refine dbif (fun c1 => ?_) (fun c1 => ?_)
  · refine dbif (fun c2 => ?_) (fun c2 => ?_)
    · refine dbif (fun c3 => ?_) (fun c3 => ?_)
      · exact rSa_1 (k := k) (n := n) (m := m) (j := j) (p := p) (q := q) (s := s) (u := u) (h0 := c1) (h1 := c2) (h2 := c3)
      · exact rSa_2 (k := k) (n := n) (m := m) (j := j) (p := p) (q := q) (s := s) (u := u) (h0 := c1) (h1 := c2) (h2 := c3)
    · exact rSa_3 (k := k) (n := n) (m := m) (j := j) (p := p) (q := q) (s := s) (u := u) (h0 := c1) (h1 := c2)
  · exact rSa_4 (k := k) (n := n) (m := m) (j := j) (p := p) (q := q) (s := s) (u := u) (h0 := c1)
end Go.Proofs.YtpfignfgfhbblaaGreatDoorC
/- Truth of three kinds, values of it, in plain words: program and reference come to the same. -/
namespace Go.Proofs.YtpfignfgfhbblaaGreatDoorC
open Go.Proofs Go.Proofs.YtpfignfgfhbblaaGreatDoorSx Go.Lib
set_option maxRecDepth 100000
set_option linter.unusedVariables false
set_option linter.unusedSimpArgs false
abbrev bE : ByteArray := ByteArray.mk #[]
abbrev ofK (t : Int) : Int := if t = 0 ∨ t = 1 then 4 else 0
abbrev ofN (t : Int) : Int := if t = 0 ∨ t = 1 then t else 0
abbrev notV (a : Int) : Int := if a = 0 ∨ a = 1 then 1 - a else 2
abbrev orV (a b : Int) : Int := if a = 1 ∨ b = 1 then 1 else if a = 0 ∧ b = 0 then 0 else 2
abbrev andV (a b : Int) : Int := if a = 0 ∨ b = 0 then 0 else if a = 1 ∧ b = 1 then 1 else 2
theorem three_cases (a : Int) : a = 0 ∨ a = 1 ∨ (¬ a = 0 ∧ ¬ a = 1 ∧ (a == 0) = false ∧ (a == 1) = false) := by
  by_cases h0 : a = 0
  · exact .inl h0
  · by_cases h1 : a = 1
    · exact .inr (.inl h1)
    · exact .inr (.inr ⟨h0, h1, by simpa using h0, by simpa using h1⟩)
theorem of_does (t : Int) : Does cE 91 [] 0 [.v (it t)] (.v (vl (ofK t) (ofN t) 0 bE)) [] 0 := by
  have h := pOf_v_does t
  have e : pOf_v t = vl (ofK t) (ofN t) 0 bE := by
    unfold pOf_v
    rcases three_cases t with rfl | rfl | ⟨h0, h1, e0, e1⟩
    · rfl
    · rfl
    · rw [e0, e1]
      simp [ofK, ofN, h0, h1]
  rw [e] at h
  exact h
theorem not_does (a : Int) : Does cE 59 [] 0 [.v (it a)] (.v (it (notV a))) [] 0 := by
  have h := pNot_v_does a
  have e : pNot_v a = it (notV a) := by
    unfold pNot_v
    rcases three_cases a with rfl | rfl | ⟨h0, h1, e0, e1⟩
    · rfl
    · rfl
    · rw [e0, e1]
      simp [notV, h0, h1]
  rw [e] at h
  exact h
theorem or3_does (a b : Int) : Does cE 58 [] 0 [.v (it a), .v (it b)] (.v (it (orV a b))) [] 0 := by
  have h := pOr_v_does a b
  have e : pOr_v a b = it (orV a b) := by
    unfold pOr_v
    rcases three_cases a with rfl | rfl | ⟨h0, h1, e0, e1⟩ <;> rcases three_cases b with rfl | rfl | ⟨k0, k1, f0, f1⟩ <;> first | rfl | simp [orV, *]
  rw [e] at h
  exact h
theorem and3_does (a b : Int) : Does cE 57 [] 0 [.v (it a), .v (it b)] (.v (it (andV a b))) [] 0 := by
  have h := pAnd_1 (a := a) (b := b) (h0 := not_does a) (h1 := not_does b) (h2 := or3_does _ _) (h3 := not_does _)
  have e : notV (orV (notV a) (notV b)) = andV a b := by
    rcases three_cases a with rfl | rfl | ⟨h0, h1, e0, e1⟩ <;> rcases three_cases b with rfl | rfl | ⟨k0, k1, f0, f1⟩ <;> first | rfl | simp [andV, orV, notV, *]
  rw [e] at h
  exact h
end Go.Proofs.YtpfignfgfhbblaaGreatDoorC
namespace Go.Proofs.YtpfignfgfhbblaaGreatDoorC
open Go.Proofs Go.Proofs.YtpfignfgfhbblaaGreatDoorSx Go.Lib
set_option maxRecDepth 100000
set_option linter.unusedVariables false
set_option linter.unusedSimpArgs false
def pRt_v (k n m : Int) (s : ByteArray) : Value :=
  bif (k == 0) then (.bool (k == 0 && (n == 0 && (m == 0 && (s == (ByteArray.mk #[]) && true)))))
  else bif (k == 1) then (.bool (k == 1 && (n == n && (m == 0 && (s == (ByteArray.mk #[]) && true)))))
  else bif (k == 2) then bif (s.toList == (ByteArray.mk #[]).toList) then (.bool ((decide (0 ≤ m ∧ m ≤ 6))))
    else (.bool (false))
  else bif (k == 3) then bif (k == 3 && (n == 0 && (m == 0 && (s == s && true)))) then bif (decide ((s.size : Int) ≤ 256)) then (.bool ((validD s.data.toList)))
      else (.bool (false))
    else (.bool (false))
  else bif (k == 4) then bif (k == (ofK 0) && (n == (ofN 0) && (m == 0 && (s == bE && true)))) then (.bool (true))
    else (.bool (k == (ofK 1) && (n == (ofN 1) && (m == 0 && (s == bE && true)))))
  else bif (k == 5) then bif (s.toList == (ByteArray.mk #[]).toList) then (.bool ((rt n m)))
    else (.bool (false))
  else (.bool (false))
theorem pRt_v_does (k n m : Int) (s : ByteArray) (hs : s.size ≤ 140737488351232) : Does cE 46 [] 0 [.v (vl k n m s)] (.v (pRt_v k n m s)) [] 0 := by
  unfold pRt_v
  refine dbif (fun c1 => ?_) (fun c1 => ?_)
  · exact pRt_1 (k := k) (n := n) (m := m) (s := s) (h0 := c1)
  · refine dbif (fun c2 => ?_) (fun c2 => ?_)
    · exact pRt_2 (k := k) (n := n) (m := m) (s := s) (h0 := c1) (h1 := c2)
    · refine dbif (fun c3 => ?_) (fun c3 => ?_)
      · refine dbif (fun c4 => ?_) (fun c4 => ?_)
        · exact pRt_3 (k := k) (n := n) (m := m) (s := s) (h0 := c1) (h1 := c2) (h2 := c3) (h3 := c4) (h4 := pright_does n m)
        · exact pRt_4 (k := k) (n := n) (m := m) (s := s) (h0 := c1) (h1 := c2) (h2 := c3) (h3 := c4)
      · refine dbif (fun c5 => ?_) (fun c5 => ?_)
        · refine dbif (fun c6 => ?_) (fun c6 => ?_)
          · refine dbif (fun c7 => ?_) (fun c7 => ?_)
            · exact pRt_5 (k := k) (n := n) (m := m) (s := s) (h0 := c1) (h1 := c2) (h2 := c3) (h3 := c5) (h4 := c6) (h5 := c7) (h6 := vstr_does s hs)
            · exact pRt_6 (k := k) (n := n) (m := m) (s := s) (h0 := c1) (h1 := c2) (h2 := c3) (h3 := c5) (h4 := c6) (h5 := c7)
          · exact pRt_7 (k := k) (n := n) (m := m) (s := s) (h0 := c1) (h1 := c2) (h2 := c3) (h3 := c5) (h4 := c6)
        · refine dbif (fun c8 => ?_) (fun c8 => ?_)
          · refine dbif (fun c9 => ?_) (fun c9 => ?_)
            · exact pRt_8 (k := k) (n := n) (m := m) (s := s) (h0 := c1) (h1 := c2) (h2 := c3) (h3 := c5) (h4 := c8) (h5 := of_does 0) (h6 := c9)
            · exact pRt_9 (k := k) (n := n) (m := m) (s := s) (h0 := c1) (h1 := c2) (h2 := c3) (h3 := c5) (h4 := c8) (h5 := of_does 0) (h6 := c9) (h7 := of_does 1)
          · refine dbif (fun c10 => ?_) (fun c10 => ?_)
            · refine dbif (fun c11 => ?_) (fun c11 => ?_)
              · exact pRt_10 (k := k) (n := n) (m := m) (s := s) (h0 := c1) (h1 := c2) (h2 := c3) (h3 := c5) (h4 := c8) (h5 := c10) (h6 := c11) (h7 := gright_does n m)
              · exact pRt_11 (k := k) (n := n) (m := m) (s := s) (h0 := c1) (h1 := c2) (h2 := c3) (h3 := c5) (h4 := c8) (h5 := c10) (h6 := c11)
            · exact pRt_12 (k := k) (n := n) (m := m) (s := s) (h0 := c1) (h1 := c2) (h2 := c3) (h3 := c5) (h4 := c8) (h5 := c10)
def rRt_v (k n m : Int) (s : ByteArray) : Value :=
  bif (k == 0) then bif (n == 0) then bif (m == 0) then (.bool (s.toList == (ByteArray.mk #[]).toList))
      else (.bool (false))
    else (.bool (false))
  else bif (k == 1) then bif (m == 0) then (.bool (s.toList == (ByteArray.mk #[]).toList))
    else (.bool (false))
  else bif (k == 2) then bif (decide (m ≥ 0)) then bif (decide (m ≤ 6)) then (.bool (s.toList == (ByteArray.mk #[]).toList))
      else (.bool (false))
    else (.bool (false))
  else bif (k == 3) then bif (n == 0) then bif (m == 0) then bif (decide ((s.size : Int) ≤ 256)) then (.bool ((validD s.data.toList)))
        else (.bool (false))
      else (.bool (false))
    else (.bool (false))
  else bif (k == 4) then bif (n == 0) then bif (m == 0) then (.bool (s.toList == (ByteArray.mk #[]).toList))
      else (.bool (false))
    else bif (n == 1) then bif (m == 0) then (.bool (s.toList == (ByteArray.mk #[]).toList))
      else (.bool (false))
    else (.bool (false))
  else bif (k == 5) then bif (rt n m) then (.bool (s.toList == (ByteArray.mk #[]).toList))
    else (.bool (false))
  else (.bool (false))
theorem rRt_v_does (k n m : Int) (s : ByteArray) (hs : s.size ≤ 140737488351232) : Does cE 32 [] 0 [.v (vl k n m s)] (.v (rRt_v k n m s)) [] 0 := by
  unfold rRt_v
  refine dbif (fun c1 => ?_) (fun c1 => ?_)
  · refine dbif (fun c2 => ?_) (fun c2 => ?_)
    · refine dbif (fun c3 => ?_) (fun c3 => ?_)
      · exact rRt_1 (k := k) (n := n) (m := m) (s := s) (h0 := c1) (h1 := c2) (h2 := c3)
      · exact rRt_2 (k := k) (n := n) (m := m) (s := s) (h0 := c1) (h1 := c2) (h2 := c3)
    · exact rRt_3 (k := k) (n := n) (m := m) (s := s) (h0 := c1) (h1 := c2)
  · refine dbif (fun c4 => ?_) (fun c4 => ?_)
    · refine dbif (fun c5 => ?_) (fun c5 => ?_)
      · exact rRt_4 (k := k) (n := n) (m := m) (s := s) (h0 := c1) (h1 := c4) (h2 := c5)
      · exact rRt_5 (k := k) (n := n) (m := m) (s := s) (h0 := c1) (h1 := c4) (h2 := c5)
    · refine dbif (fun c6 => ?_) (fun c6 => ?_)
      · refine dbif (fun c7 => ?_) (fun c7 => ?_)
        · refine dbif (fun c8 => ?_) (fun c8 => ?_)
          · exact rRt_6 (k := k) (n := n) (m := m) (s := s) (h0 := c1) (h1 := c4) (h2 := c6) (h3 := c7) (h4 := c8)
          · exact rRt_7 (k := k) (n := n) (m := m) (s := s) (h0 := c1) (h1 := c4) (h2 := c6) (h3 := c7) (h4 := c8)
        · exact rRt_8 (k := k) (n := n) (m := m) (s := s) (h0 := c1) (h1 := c4) (h2 := c6) (h3 := c7)
      · refine dbif (fun c9 => ?_) (fun c9 => ?_)
        · refine dbif (fun c10 => ?_) (fun c10 => ?_)
          · refine dbif (fun c11 => ?_) (fun c11 => ?_)
            · refine dbif (fun c12 => ?_) (fun c12 => ?_)
              · exact rRt_9 (k := k) (n := n) (m := m) (s := s) (h0 := c1) (h1 := c4) (h2 := c6) (h3 := c9) (h4 := c10) (h5 := c11) (h6 := c12) (h7 := good_does s hs)
              · exact rRt_10 (k := k) (n := n) (m := m) (s := s) (h0 := c1) (h1 := c4) (h2 := c6) (h3 := c9) (h4 := c10) (h5 := c11) (h6 := c12)
            · exact rRt_11 (k := k) (n := n) (m := m) (s := s) (h0 := c1) (h1 := c4) (h2 := c6) (h3 := c9) (h4 := c10) (h5 := c11)
          · exact rRt_12 (k := k) (n := n) (m := m) (s := s) (h0 := c1) (h1 := c4) (h2 := c6) (h3 := c9) (h4 := c10)
        · refine dbif (fun c13 => ?_) (fun c13 => ?_)
          · refine dbif (fun c14 => ?_) (fun c14 => ?_)
            · refine dbif (fun c15 => ?_) (fun c15 => ?_)
              · exact rRt_13 (k := k) (n := n) (m := m) (s := s) (h0 := c1) (h1 := c4) (h2 := c6) (h3 := c9) (h4 := c13) (h5 := c14) (h6 := c15)
              · exact rRt_14 (k := k) (n := n) (m := m) (s := s) (h0 := c1) (h1 := c4) (h2 := c6) (h3 := c9) (h4 := c13) (h5 := c14) (h6 := c15)
            · refine dbif (fun c16 => ?_) (fun c16 => ?_)
              · refine dbif (fun c17 => ?_) (fun c17 => ?_)
                · exact rRt_15 (k := k) (n := n) (m := m) (s := s) (h0 := c1) (h1 := c4) (h2 := c6) (h3 := c9) (h4 := c13) (h5 := c14) (h6 := c16) (h7 := c17)
                · exact rRt_16 (k := k) (n := n) (m := m) (s := s) (h0 := c1) (h1 := c4) (h2 := c6) (h3 := c9) (h4 := c13) (h5 := c14) (h6 := c16) (h7 := c17)
              · exact rRt_17 (k := k) (n := n) (m := m) (s := s) (h0 := c1) (h1 := c4) (h2 := c6) (h3 := c9) (h4 := c13) (h5 := c14) (h6 := c16)
          · refine dbif (fun c18 => ?_) (fun c18 => ?_)
            · refine dbif (fun c19 => ?_) (fun c19 => ?_)
              · exact rRt_18 (k := k) (n := n) (m := m) (s := s) (h0 := c1) (h1 := c4) (h2 := c6) (h3 := c9) (h4 := c13) (h5 := c18) (h6 := rgright_does n m) (h7 := c19)
              · exact rRt_19 (k := k) (n := n) (m := m) (s := s) (h0 := c1) (h1 := c4) (h2 := c6) (h3 := c9) (h4 := c13) (h5 := c18) (h6 := rgright_does n m) (h7 := c19)
            · exact rRt_20 (k := k) (n := n) (m := m) (s := s) (h0 := c1) (h1 := c4) (h2 := c6) (h3 := c9) (h4 := c13) (h5 := c18)
end Go.Proofs.YtpfignfgfhbblaaGreatDoorC
/- Right, Truth and Same of program and reference, told by one word each. -/
namespace Go.Proofs.YtpfignfgfhbblaaGreatDoorC
open Go.Proofs Go.Proofs.YtpfignfgfhbblaaGreatDoorSx Go.Lib
set_option maxRecDepth 100000
set_option linter.unusedVariables false
set_option linter.unusedSimpArgs false
theorem cond_bool (c a b : Bool) : (bif c then Value.bool a else Value.bool b) = Value.bool (bif c then a else b) := by cases c <;> rfl
def eqE (s : ByteArray) : Bool := s.toList == (ByteArray.mk #[]).toList
theorem bytes_beq (s t : ByteArray) : (s == t) = (s.toList == t.toList) := by
  rw [Go.ByteArray.toList_eq, Go.ByteArray.toList_eq]
  change (s.data == t.data) = _
  rw [Bool.eq_iff_iff]
  simp
theorem beq_bE (s : ByteArray) : (s == ByteArray.mk #[]) = eqE s := bytes_beq s _
theorem bytes_refl (s : ByteArray) : (s == s) = true := by rw [bytes_beq]; simp
def okV (k n m : Int) (s : ByteArray) : Bool :=
  bif (k == 0) then (n == 0 && m == 0 && eqE s)
  else bif (k == 1) then (m == 0 && eqE s)
  else bif (k == 2) then (decide (0 ≤ m) && decide (m ≤ 6) && eqE s)
  else bif (k == 3) then (n == 0 && m == 0 && decide ((s.size : Int) ≤ 256) && validD s.data.toList)
  else bif (k == 4) then ((n == 0 || n == 1) && m == 0 && eqE s)
  else bif (k == 5) then (rt n m && eqE s)
  else false
theorem rRt_said (k n m : Int) (s : ByteArray) : rRt_v k n m s = .bool (okV k n m s) := by
  unfold rRt_v okV
  simp only [cond_bool]
  change _ = Value.bool _
  congr 1
  change (bif k == 0 then bif n == 0 then bif m == 0 then eqE s else false else false else _) = _
  · by_cases h0 : k = 0
    · subst h0; cases (n == 0) <;> cases (m == 0) <;> rfl
    · by_cases h1 : k = 1
      · subst h1; change (bif m == 0 then eqE s else false) = (m == 0 && eqE s); cases (m == 0) <;> rfl
      · by_cases h2 : k = 2
        · subst h2
          change (bif decide (m ≥ 0) then bif decide (m ≤ 6) then eqE s else false else false) = (decide (0 ≤ m) && decide (m ≤ 6) && eqE s)
          change (bif decide (0 ≤ m) then bif decide (m ≤ 6) then eqE s else false else false) = (decide (0 ≤ m) && decide (m ≤ 6) && eqE s)
          cases decide (0 ≤ m) <;> cases decide (m ≤ 6) <;> rfl
        · by_cases h3 : k = 3
          · subst h3
            change (bif n == 0 then bif m == 0 then bif decide ((s.size : Int) ≤ 256) then validD s.data.toList else false else false else false) = _
            cases (n == 0) <;> cases (m == 0) <;> cases decide ((s.size : Int) ≤ 256) <;> rfl
          · by_cases h4 : k = 4
            · subst h4
              change (bif n == 0 then bif m == 0 then eqE s else false else bif n == 1 then bif m == 0 then eqE s else false else false) = ((n == 0 || n == 1) && m == 0 && eqE s)
              cases (n == 0) <;> cases (n == 1) <;> cases (m == 0) <;> rfl
            · by_cases h5 : k = 5
              · subst h5
                change (bif rt n m then eqE s else false) = (rt n m && eqE s)
                cases rt n m <;> rfl
              · simp [beq_eq_false_iff_ne.mpr h0, beq_eq_false_iff_ne.mpr h1, beq_eq_false_iff_ne.mpr h2, beq_eq_false_iff_ne.mpr h3, beq_eq_false_iff_ne.mpr h4, beq_eq_false_iff_ne.mpr h5]
theorem pRt_said (k n m : Int) (s : ByteArray) : pRt_v k n m s = .bool (okV k n m s) := by
  unfold pRt_v okV
  simp only [cond_bool, beq_bE]
  congr 1
  by_cases h0 : k = 0
  · subst h0
    change (true && (n == 0 && (m == 0 && (eqE s && true)))) = (n == 0 && m == 0 && eqE s)
    cases (n == 0) <;> cases (m == 0) <;> cases eqE s <;> rfl
  · by_cases h1 : k = 1
    · subst h1
      change (true && (n == n && (m == 0 && (eqE s && true)))) = (m == 0 && eqE s)
      rw [beq_self_eq_true]
      cases (m == 0) <;> cases eqE s <;> rfl
    · by_cases h2 : k = 2
      · subst h2
        change (bif eqE s then decide (0 ≤ m ∧ m ≤ 6) else false) = (decide (0 ≤ m) && decide (m ≤ 6) && eqE s)
        rw [← Bool.decide_and]
        cases eqE s <;> cases decide (0 ≤ m ∧ m ≤ 6) <;> rfl
      · by_cases h3 : k = 3
        · subst h3
          change (bif (true && (n == 0 && (m == 0 && (s == s && true)))) then bif decide ((s.size : Int) ≤ 256) then validD s.data.toList else false else false) = (n == 0 && m == 0 && decide ((s.size : Int) ≤ 256) && validD s.data.toList)
          rw [bytes_refl]
          cases (n == 0) <;> cases (m == 0) <;> cases decide ((s.size : Int) ≤ 256) <;> rfl
        · by_cases h4 : k = 4
          · subst h4
            have e0 : ofK 0 = 4 := rfl
            have e1 : ofN 0 = 0 := rfl
            have e2 : ofK 1 = 4 := rfl
            have e3 : ofN 1 = 1 := rfl
            simp only [e0, e1, e2, e3, show (s == bE) = eqE s from beq_bE s]
            change (bif (true && (n == 0 && (m == 0 && (eqE s && true)))) then true else (true && (n == 1 && (m == 0 && (eqE s && true))))) = ((n == 0 || n == 1) && m == 0 && eqE s)
            cases (n == 0) <;> cases (n == 1) <;> cases (m == 0) <;> cases eqE s <;> rfl
          · by_cases h5 : k = 5
            · subst h5
              change (bif eqE s then rt n m else false) = (rt n m && eqE s)
              cases rt n m <;> cases eqE s <;> rfl
            · simp [beq_eq_false_iff_ne.mpr h0, beq_eq_false_iff_ne.mpr h1, beq_eq_false_iff_ne.mpr h2, beq_eq_false_iff_ne.mpr h3, beq_eq_false_iff_ne.mpr h4, beq_eq_false_iff_ne.mpr h5]
theorem right_does (k n m : Int) (s : ByteArray) (hs : s.size ≤ 140737488351232) : Does cE 46 [] 0 [.v (vl k n m s)] (.v (.bool (okV k n m s))) [] 0 := by
  rw [← pRt_said]
  exact pRt_v_does k n m s hs
theorem right4_does (k n m : Int) (s : ByteArray) (hs : s.size ≤ 140737488351232) : Does cE 32 [] 0 [.v (vl k n m s)] (.v (.bool (okV k n m s))) [] 0 := by
  rw [← rRt_said]
  exact rRt_v_does k n m s hs
end Go.Proofs.YtpfignfgfhbblaaGreatDoorC
/- datum.Print: what it needs; what it comes to. -/
namespace Go.Proofs.YtpfignfgfhbblaaGreatDoorC
open Go.Proofs Go.Proofs.YtpfignfgfhbblaaGreatDoorSx Go.Lib
set_option maxRecDepth 100000
set_option linter.unusedVariables false
theorem ddec2_does (k n m : Int) (s : ByteArray) : Does cE 51 [] 0 [.v (vl k n m s)] (.v (dc n m)) [] 0 := pth (fn := Tryz.f51) rfl (by kernel_rfl) [] (by kernel_rfl) cj0
theorem dpoint_does (k n m : Int) (s : ByteArray) : Does cE 54 [] 0 [.v (vl k n m s)] (.v (dc n m)) [] 0 := pth (fn := Tryz.f54) rfl (by kernel_rfl) [] (by kernel_rfl) cj0
theorem ok_text {k n m : Int} {s : ByteArray} (h : (!okV k n m s) = false) (hk : (k == 3) = true) : s.size ≤ 256 := by
  have e : k = 3 := eq_of_beq hk
  subst e
  have h' : okV 3 n m s = true := by simpa using h
  have : (n == 0 && m == 0 && decide ((s.size : Int) ≤ 256) && validD s.data.toList) = true := h'
  simp only [Bool.and_eq_true, decide_eq_true_eq] at this
  omega
theorem ok_bool {k n m : Int} {s : ByteArray} (h : (!okV k n m s) = false) (hk : (k == 4) = true) : 0 ≤ n ∧ n < 2 := by
  have e : k = 4 := eq_of_beq hk
  subst e
  have h' : okV 4 n m s = true := by simpa using h
  have : ((n == 0 || n == 1) && m == 0 && eqE s) = true := h'
  simp only [Bool.and_eq_true, Bool.or_eq_true, beq_iff_eq] at this
  omega
theorem repl2_does (s : ByteArray) (hs : s.size ≤ 256) : Does cE 52 [] 0 [.v (st s), .v (st (ByteArray.mk #[39])), .v (st (ByteArray.mk #[39, 39]))] (.v (st (oL (dbl s.data.toList)))) [] 0 := by
  have h := repl_does s.data.toList (by
    have : s.data.toList.length = s.size := by rw [Array.length_toList]; rfl
    omega)
  rw [← oL_of] at h
  exact h
theorem dbl_sz {s : ByteArray} (hs : s.size ≤ 256) : (oL (dbl s.data.toList)).size ≤ 512 := by
  have := dbl_len s.data.toList
  have h2 : s.data.toList.length = s.size := by rw [Array.length_toList]; rfl
  rw [oL_size]
  omega
theorem dz1 {s : ByteArray} (hs : s.size ≤ 256) : (ByteArray.mk #[39]).size + (oL (dbl s.data.toList)).size ≤ 9223372036854775807 := by
  have := dbl_sz hs
  show 1 + _ ≤ _
  omega
theorem dz2 {s : ByteArray} (hs : s.size ≤ 256) : (ByteArray.mk #[39] ++ oL (dbl s.data.toList)).size + (ByteArray.mk #[39]).size ≤ 9223372036854775807 := by
  have := dbl_sz hs
  rw [ByteArray.size_append]
  show 1 + _ + 1 ≤ _
  omega
theorem pl_len {u : Int} (sc : Int) (hu : I64 u) : (printL u sc).length ≤ 30 := by
  have hd := nd_le (u := u.natAbs) (by omega)
  have hp := pad_len u sc
  have h2 : ∀ (l : List UInt8) (c : Int), (dotL l c).length ≤ l.length + 1 := by
    intro l c
    unfold dotL
    split
    · omega
    · simp only [List.length_append, List.length_cons, List.length_take, List.length_drop]
      omega
  have h3 := h2 (padL u sc) sc
  unfold printL
  split
  · split
    · rw [List.length_cons]
      omega
    · omega
  · exact Nat.zero_le _
theorem pz1 {u sc : Int} (hu : I64 u) : (oL (printL u sc)).size + (ByteArray.mk #[46]).size ≤ 9223372036854775807 := by
  have := pl_len sc hu
  rw [oL_size]
  show _ + 1 ≤ _
  omega
end Go.Proofs.YtpfignfgfhbblaaGreatDoorC
/- datum.Print, the program's. Printed by a program (wip/tools); Lean checks each. -/
namespace Go.Proofs.YtpfignfgfhbblaaGreatDoorC
open Go.Proofs Go.Proofs.YtpfignfgfhbblaaGreatDoorSx Go.Lib
set_option maxRecDepth 100000
set_option linter.unusedVariables false
def pVp (k n m : Int) (s : ByteArray) : Value :=
  bif (!okV k n m s) then (.string ((ByteArray.mk #[])))
  else bif (k == 1) then (.string (oL (printL n m)))
    else bif (k == 2) then bif (m == 0) then (.string (oL (printL n m) ++ (ByteArray.mk #[46])))
        else (.string (oL (printL n m)))
      else bif (k == 3) then (.string ((ByteArray.mk #[39]) ++ oL (dbl s.data.toList) ++ (ByteArray.mk #[39])))
        else bif (k == 4) then (.string ((preS [Go.Value.string (ByteArray.mk #[102, 97, 108, 115, 101]), Go.Value.string (ByteArray.mk #[116, 114, 117, 101])]).getD n.toNat ByteArray.empty))
          else bif (k == 5) then (.string (oL (prG n m)))
            else (.string ((ByteArray.mk #[110, 117, 108, 108])))
theorem pVp_does (k n m : Int) (s : ByteArray) (hs : s.size ≤ 140737488351232) (hn : I64 n) (hm : I64 m) : Does cE 15 [] 0 [.v (vl k n m s)] (.v (pVp k n m s)) [] 0 := by
  unfold pVp
  refine tbif (fun c1 => ?_) (fun c1 => ?_)
  · exact pth (fn := Tryz.f15) rfl (by kernel_rfl) [.c (.v (.bool (okV k n m s))) [] 0, .t] (by kernel_rfl) (cj (right_does (k) (n) (m) (s) (by first | assumption | decide)) (cj c1 cj0))
  · refine tbif (fun c2 => ?_) (fun c2 => ?_)
    · exact pth (fn := Tryz.f15) rfl (by kernel_rfl) [.c (.v (.bool (okV k n m s))) [] 0, .f, .t, .c (.v (.agg #[(.int .i64 (n)), (.int .i64 (m))])) [] 0, .c (.v (.string (oL (printL n m)))) [] 0] (by kernel_rfl) (cj (right_does (k) (n) (m) (s) (by first | assumption | decide)) (cj c1 (cj c2 (cj (ddec2_does (k) (n) (m) (s)) (cj (print_does (n) (m) (by first | assumption | decide)) cj0)))))
    · refine tbif (fun c3 => ?_) (fun c3 => ?_)
      · refine tbif (fun c4 => ?_) (fun c4 => ?_)
        · exact pth (fn := Tryz.f15) rfl (by kernel_rfl) [.c (.v (.bool (okV k n m s))) [] 0, .f, .f, .t, .c (.v (.agg #[(.int .i64 (n)), (.int .i64 (m))])) [] 0, .c (.v (.string (oL (printL n m)))) [] 0, .t] (by kernel_rfl) (cj (right_does (k) (n) (m) (s) (by first | assumption | decide)) (cj c1 (cj c2 (cj c3 (cj (ddec2_does (k) (n) (m) (s)) (cj (print_does (n) (m) (by first | assumption | decide)) (cj c4 (cj (by (first | exact dz1 (ok_text c1 (by assumption)) | exact dz2 (ok_text c1 (by assumption)) | exact pz1 hn | exact (fun h => ⟨h.1, h.2, h.2⟩) (ok_bool c1 (by assumption))) : (oL (printL n m)).size + (ByteArray.mk #[46]).size ≤ 9223372036854775807) cj0))))))))
        · exact pth (fn := Tryz.f15) rfl (by kernel_rfl) [.c (.v (.bool (okV k n m s))) [] 0, .f, .f, .t, .c (.v (.agg #[(.int .i64 (n)), (.int .i64 (m))])) [] 0, .c (.v (.string (oL (printL n m)))) [] 0, .f] (by kernel_rfl) (cj (right_does (k) (n) (m) (s) (by first | assumption | decide)) (cj c1 (cj c2 (cj c3 (cj (ddec2_does (k) (n) (m) (s)) (cj (print_does (n) (m) (by first | assumption | decide)) (cj c4 cj0)))))))
      · refine tbif (fun c5 => ?_) (fun c5 => ?_)
        · exact pth (fn := Tryz.f15) rfl (by kernel_rfl) [.c (.v (.bool (okV k n m s))) [] 0, .f, .f, .f, .t, .c (.v (.string (oL (dbl s.data.toList)))) [] 0] (by kernel_rfl) (cj (right_does (k) (n) (m) (s) (by first | assumption | decide)) (cj c1 (cj c2 (cj c3 (cj c5 (cj (repl2_does (s) (ok_text c1 (by assumption))) (cj (by (first | exact dz1 (ok_text c1 (by assumption)) | exact dz2 (ok_text c1 (by assumption)) | exact pz1 hn | exact (fun h => ⟨h.1, h.2, h.2⟩) (ok_bool c1 (by assumption))) : (ByteArray.mk #[39]).size + (oL (dbl s.data.toList)).size ≤ 9223372036854775807) (cj (by (first | exact dz1 (ok_text c1 (by assumption)) | exact dz2 (ok_text c1 (by assumption)) | exact pz1 hn | exact (fun h => ⟨h.1, h.2, h.2⟩) (ok_bool c1 (by assumption))) : ((ByteArray.mk #[39]) ++ oL (dbl s.data.toList)).size + (ByteArray.mk #[39]).size ≤ 9223372036854775807) cj0))))))))
        · refine tbif (fun c6 => ?_) (fun c6 => ?_)
          · exact pth (fn := Tryz.f15) rfl (by kernel_rfl) [.c (.v (.bool (okV k n m s))) [] 0, .f, .f, .f, .f, .t, .x] (by kernel_rfl) (cj (right_does (k) (n) (m) (s) (by first | assumption | decide)) (cj c1 (cj c2 (cj c3 (cj c5 (cj c6 (cj (by (first | exact dz1 (ok_text c1 (by assumption)) | exact dz2 (ok_text c1 (by assumption)) | exact pz1 hn | exact (fun h => ⟨h.1, h.2, h.2⟩) (ok_bool c1 (by assumption))) : 0 ≤ n ∧ n < ((2 : Nat) : Int) ∧ n < (((preS [Go.Value.string (ByteArray.mk #[102, 97, 108, 115, 101]), Go.Value.string (ByteArray.mk #[116, 114, 117, 101])]).length : Nat) : Int)) cj0)))))))
          · refine tbif (fun c7 => ?_) (fun c7 => ?_)
            · exact pth (fn := Tryz.f15) rfl (by kernel_rfl) [.c (.v (.bool (okV k n m s))) [] 0, .f, .f, .f, .f, .f, .t, .c (.v (.agg #[(.int .i64 (n)), (.int .i64 (m))])) [] 0, .c (.v (.string (oL (prG n m)))) [] 0] (by kernel_rfl) (cj (right_does (k) (n) (m) (s) (by first | assumption | decide)) (cj c1 (cj c2 (cj c3 (cj c5 (cj c6 (cj c7 (cj (dpoint_does (k) (n) (m) (s)) (cj (gprint_does (n) (m) (by first | assumption | decide) (by first | assumption | decide)) cj0)))))))))
            · exact pth (fn := Tryz.f15) rfl (by kernel_rfl) [.c (.v (.bool (okV k n m s))) [] 0, .f, .f, .f, .f, .f, .f] (by kernel_rfl) (cj (right_does (k) (n) (m) (s) (by first | assumption | decide)) (cj c1 (cj c2 (cj c3 (cj c5 (cj c6 (cj c7 cj0)))))))
end Go.Proofs.YtpfignfgfhbblaaGreatDoorC
/- datum.Print, told. -/
namespace Go.Proofs.YtpfignfgfhbblaaGreatDoorC
open Go.Proofs Go.Proofs.YtpfignfgfhbblaaGreatDoorSx Go.Lib
set_option maxRecDepth 100000
set_option linter.unusedVariables false
/-- A value's text. -/
def prV (k n m : Int) (s : ByteArray) : List UInt8 :=
  bif !okV k n m s then []
  else bif k == 1 then printL n m
  else bif k == 2 then (bif m == 0 then printL n m ++ [46] else printL n m)
  else bif k == 3 then 39 :: (dbl s.data.toList ++ [39])
  else bif k == 4 then (bif n == 1 then [116, 114, 117, 101] else [102, 97, 108, 115, 101])
  else bif k == 5 then prG n m
  else [110, 117, 108, 108]
theorem pVp_eq (k n m : Int) (s : ByteArray) : pVp k n m s = st (oL (prV k n m s)) := by
  unfold pVp prV
  cases hok : (!okV k n m s) with
  | true => rfl
  | false =>
    cases h1 : (k == 1) with
    | true => rfl
    | false =>
      cases h2 : (k == 2) with
      | true =>
        cases h3 : (m == 0) with
        | true =>
          show st (oL (printL n m) ++ oL [46]) = st (oL (printL n m ++ [46]))
          rw [oL_app]
        | false => rfl
      | false =>
        cases h3 : (k == 3) with
        | true =>
          show st (oL [39] ++ oL (dbl s.data.toList) ++ oL [39]) = st (oL ([39] ++ dbl s.data.toList ++ [39]))
          rw [oL_app, oL_app]
        | false =>
          cases h4 : (k == 4) with
          | true =>
            have hb := ok_bool hok h4
            have : n = 0 ∨ n = 1 := by omega
            rcases this with rfl | rfl <;> rfl
          | false =>
            cases h5 : (k == 5) <;> rfl
theorem vprint_does (k n m : Int) (s : ByteArray) (hs : s.size ≤ 140737488351232) (hn : I64 n) (hm : I64 m) : Does cE 15 [] 0 [.v (vl k n m s)] (.v (st (oL (prV k n m s)))) [] 0 := by
  have h := pVp_does k n m s hs hn hm
  rw [pVp_eq] at h
  exact h
end Go.Proofs.YtpfignfgfhbblaaGreatDoorC
/- The reference's Print of a text: bounds. -/
namespace Go.Proofs.YtpfignfgfhbblaaGreatDoorC
open Go.Proofs Go.Proofs.YtpfignfgfhbblaaGreatDoorSx Go.Lib
set_option maxRecDepth 100000
set_option linter.unusedVariables false
section
variable {s : ByteArray} {t : List UInt8} {i : Nat}
theorem rv_w (hs : s.size ≤ 256) (hi : i ≤ s.size) : IntKind.i64.wrap ((i : Int) + 1) = ((i + 1 : Nat) : Int) := by
  rw [wrap64 (by omega) (by omega)]
  omega
theorem rv1 (hs : s.size ≤ 256) (c : decide ((i : Int) < (s.size : Int)) = true) : (0 : Int) ≤ (i : Int) ∧ (i : Int) ≤ IntKind.i64.wrap ((i : Int) + 1) ∧ IntKind.i64.wrap ((i : Int) + 1) ≤ (s.size : Int) := by
  have := of_decide_eq_true c
  rw [rv_w hs (by omega)]
  omega
theorem rv3 (c : decide ((i : Int) < (s.size : Int)) = true) : (0 : Int) ≤ (i : Int) ∧ (i : Int) < (s.size : Int) := by
  have := of_decide_eq_true c
  omega
theorem ex_sz (hs : s.size ≤ 256) (a b : Nat) : (s.extract a b).size ≤ 256 := by
  rw [ByteArray.size_extract]
  omega
theorem rv2 (hs : s.size ≤ 256) (ht : t.length ≤ 2 * i + 1) (hi : i ≤ s.size) : (oL t).size + (s.extract (i : Int).toNat (IntKind.i64.wrap ((i : Int) + 1)).toNat).size ≤ 9223372036854775807 := by
  have := ex_sz hs (i : Int).toNat (IntKind.i64.wrap ((i : Int) + 1)).toNat
  rw [oL_size]
  omega
theorem rv4 (hs : s.size ≤ 256) (ht : t.length ≤ 2 * i + 1) (hi : i ≤ s.size) : (oL t ++ s.extract (i : Int).toNat (IntKind.i64.wrap ((i : Int) + 1)).toNat).size + (ByteArray.mk #[39]).size ≤ 9223372036854775807 := by
  have := ex_sz hs (i : Int).toNat (IntKind.i64.wrap ((i : Int) + 1)).toNat
  rw [ByteArray.size_append, oL_size, show (ByteArray.mk #[39]).size = 1 from rfl]
  omega
theorem rv5 (hs : s.size ≤ 256) (ht : t.length ≤ 2 * i + 1) (hi : i ≤ s.size) : (oL t).size + (ByteArray.mk #[39]).size ≤ 9223372036854775807 := by
  rw [oL_size, show (ByteArray.mk #[39]).size = 1 from rfl]
  omega
end
end Go.Proofs.YtpfignfgfhbblaaGreatDoorC
/- The reference's Print of values. Printed by a program (wip/tools); Lean checks each. -/
namespace Go.Proofs.YtpfignfgfhbblaaGreatDoorC
open Go.Proofs Go.Proofs.YtpfignfgfhbblaaGreatDoorSx Go.Lib
set_option maxRecDepth 100000
set_option linter.unusedVariables false
noncomputable def rprK : List It := stackAt [1, 1, 0, 1, 0, 1, 1, 1, 1, 1, 0, 1, 0, 1, 0] (bd Tryz.f16) [] []
noncomputable def rquK : List It := stackAt [1, 1, 0, 1, 0] (bd Tryz.f47) [] []
abbrev rprS (k n m : Int) (s : ByteArray) (t : List UInt8) (i : Nat) : List SV := [.v (vl k n m s), .p 0 0, .na, .na, .v (st (oL t)), .v (it i)] ++ List.replicate 64 .na
abbrev rprT (k n m : Int) (s : ByteArray) : Tab cE := [(0, .box 23 [.v (it k), .v (it n), .v (it m), .v (st s)])]
def rVa (k n m : Int) (s : ByteArray) (R1 : Value) : Value :=
  bif (!okV k n m s) then (.string ((ByteArray.mk #[])))
  else bif (k == 1) then (.string (oL (printL n 0)))
    else bif (k == 2) then bif (m == 0) then (.string (oL (printL n m) ++ (ByteArray.mk #[46])))
        else (.string (oL (printL n m)))
      else bif (k == 3) then R1
        else bif (k == 4) then bif (n == 1) then (.string ((ByteArray.mk #[116, 114, 117, 101])))
            else (.string ((ByteArray.mk #[102, 97, 108, 115, 101])))
          else bif (k == 5) then (.string (oL (prG n m)))
            else (.string ((ByteArray.mk #[110, 117, 108, 108])))
theorem rVa_fin (k n m : Int) (s : ByteArray) (R1 : Value) (hs : s.size ≤ 140737488351232) (hn : I64 n) (hm : I64 m) (hF1 : (!okV k n m s) = false → (k == 1) = false → (k == 2) = false → (k == 3) = true → Fin cE Tryz.f16 0 (.v R1) [] 0 rprK ([.v (.agg #[(.int .i64 (k)), (.int .i64 (n)), (.int .i64 (m)), (.string (s))]), .p 0 0, .na, .na, .v (.string ((ByteArray.mk #[39]))), .v (.int .i64 (0))] ++ List.replicate 64 .na) [(0, .box 23 [.v (.int .i64 (k)), .v (.int .i64 (n)), .v (.int .i64 (m)), .v (.string (s))])] 1) : Fin cE Tryz.f16 0 (.v (rVa k n m s R1)) [] 0 [.code (bd Tryz.f16)] (argsS [.v (vl k n m s)] Tryz.f16.ntmps) [] 0 := by
  unfold rVa
  refine fbif (fun c1 => ?_) (fun c1 => ?_)
  · exact sfin (keep := [0, 1, 4, 5]) (by decide) [.c (.v (.bool (okV k n m s))) [] 0, .t] (by kernel_rfl) (cj (right4_does (k) (n) (m) (s) (by first | assumption | decide)) (cj c1 cj0))
  · refine fbif (fun c2 => ?_) (fun c2 => ?_)
    · exact sfin (keep := [0, 1, 4, 5]) (by decide) [.c (.v (.bool (okV k n m s))) [] 0, .f, .t, .c (.v (.string (oL (printL n 0)))) [] 0] (by kernel_rfl) (cj (right4_does (k) (n) (m) (s) (by first | assumption | decide)) (cj c1 (cj c2 (cj (rprint_does (n) (0) (by first | assumption | decide)) cj0))))
    · refine fbif (fun c3 => ?_) (fun c3 => ?_)
      · refine fbif (fun c4 => ?_) (fun c4 => ?_)
        · exact sfin (keep := [0, 1, 4, 5]) (by decide) [.c (.v (.bool (okV k n m s))) [] 0, .f, .f, .t, .c (.v (.string (oL (printL n m)))) [] 0, .t] (by kernel_rfl) (cj (right4_does (k) (n) (m) (s) (by first | assumption | decide)) (cj c1 (cj c2 (cj c3 (cj (rprint_does (n) (m) (by first | assumption | decide)) (cj c4 (cj (by (exact pz1 hn) : (oL (printL n m)).size + (ByteArray.mk #[46]).size ≤ 9223372036854775807) cj0)))))))
        · exact sfin (keep := [0, 1, 4, 5]) (by decide) [.c (.v (.bool (okV k n m s))) [] 0, .f, .f, .t, .c (.v (.string (oL (printL n m)))) [] 0, .f] (by kernel_rfl) (cj (right4_does (k) (n) (m) (s) (by first | assumption | decide)) (cj c1 (cj c2 (cj c3 (cj (rprint_does (n) (m) (by first | assumption | decide)) (cj c4 cj0))))))
      · refine fbif (fun c5 => ?_) (fun c5 => ?_)
        · exact sat (keep := [0, 1, 4, 5]) (by decide) [.c (.v (.bool (okV k n m s))) [] 0, .f, .f, .f, .t] (by kernel_rfl) (cj (right4_does (k) (n) (m) (s) (by first | assumption | decide)) (cj c1 (cj c2 (cj c3 (cj c5 cj0))))) (hF1 c1 c2 c3 c5)
        · refine fbif (fun c6 => ?_) (fun c6 => ?_)
          · refine fbif (fun c7 => ?_) (fun c7 => ?_)
            · exact sfin (keep := [0, 1, 4, 5]) (by decide) [.c (.v (.bool (okV k n m s))) [] 0, .f, .f, .f, .f, .t, .t] (by kernel_rfl) (cj (right4_does (k) (n) (m) (s) (by first | assumption | decide)) (cj c1 (cj c2 (cj c3 (cj c5 (cj c6 (cj c7 cj0)))))))
            · exact sfin (keep := [0, 1, 4, 5]) (by decide) [.c (.v (.bool (okV k n m s))) [] 0, .f, .f, .f, .f, .t, .f] (by kernel_rfl) (cj (right4_does (k) (n) (m) (s) (by first | assumption | decide)) (cj c1 (cj c2 (cj c3 (cj c5 (cj c6 (cj c7 cj0)))))))
          · refine fbif (fun c8 => ?_) (fun c8 => ?_)
            · exact sfin (keep := [0, 1, 4, 5]) (by decide) [.c (.v (.bool (okV k n m s))) [] 0, .f, .f, .f, .f, .f, .t, .c (.v (.string (oL (prG n m)))) [] 0] (by kernel_rfl) (cj (right4_does (k) (n) (m) (s) (by first | assumption | decide)) (cj c1 (cj c2 (cj c3 (cj c5 (cj c6 (cj c8 (cj (rgprint_does (n) (m) (by first | assumption | decide) (by first | assumption | decide)) cj0))))))))
            · exact sfin (keep := [0, 1, 4, 5]) (by decide) [.c (.v (.bool (okV k n m s))) [] 0, .f, .f, .f, .f, .f, .f] (by kernel_rfl) (cj (right4_does (k) (n) (m) (s) (by first | assumption | decide)) (cj c1 (cj c2 (cj c3 (cj c5 (cj c6 (cj c8 cj0)))))))
def rVb (k n m : Int) (s : ByteArray) (t : List UInt8) (i f : Nat) (R1 R2 : Value) : Value :=
  bif (decide ((i : Int) < (s.size : Int))) then bif ((((s.data.toList.getD i 0).toNat : Nat) : Int) == 39) then R1
    else R2
  else (.string (oL t ++ (ByteArray.mk #[39])))
theorem rVb_fin (k n m : Int) (s : ByteArray) (t : List UInt8) (i f : Nat) (R1 R2 : Value) (hs : s.size ≤ 256) (hi : i ≤ s.size) (ht : t.length ≤ 2 * i + 1) (hF1 : (decide ((i : Int) < (s.size : Int))) = true → ((((s.data.toList.getD i 0).toNat : Nat) : Int) == 39) = true → Fin cE Tryz.f16 0 (.v R1) [] 0 (inK rprK (f)) ([.v (.agg #[(.int .i64 (k)), (.int .i64 (n)), (.int .i64 (m)), (.string (s))]), .p 0 0, .na, .na, .v (.string (oL t ++ s.extract i (IntKind.i64.wrap ((i : Int) + 1)).toNat ++ (ByteArray.mk #[39]))), .v (.int .i64 (IntKind.i64.wrap ((i : Int) + 1)))] ++ List.replicate 64 .na) [(0, .box 23 [.v (.int .i64 (k)), .v (.int .i64 (n)), .v (.int .i64 (m)), .v (.string (s))])] 1) (hF2 : (decide ((i : Int) < (s.size : Int))) = true → ((((s.data.toList.getD i 0).toNat : Nat) : Int) == 39) = false → Fin cE Tryz.f16 0 (.v R2) [] 0 (inK rprK (f)) ([.v (.agg #[(.int .i64 (k)), (.int .i64 (n)), (.int .i64 (m)), (.string (s))]), .p 0 0, .na, .na, .v (.string (oL t ++ s.extract i (IntKind.i64.wrap ((i : Int) + 1)).toNat)), .v (.int .i64 (IntKind.i64.wrap ((i : Int) + 1)))] ++ List.replicate 64 .na) [(0, .box 23 [.v (.int .i64 (k)), .v (.int .i64 (n)), .v (.int .i64 (m)), .v (.string (s))])] 1) : Fin cE Tryz.f16 0 (.v (rVb k n m s t i f R1 R2)) [] 0 (bodyK rprK f) (rprS k n m s t i) (rprT k n m s) 1 := by
  unfold rVb
  refine fbif (fun c1 => ?_) (fun c1 => ?_)
  · refine fbif (fun c2 => ?_) (fun c2 => ?_)
    · exact sat (keep := [0, 1, 4, 5]) (by decide) [.t, .t] (by kernel_rfl) (cj c1 (cj (rv1 hs c1) (cj (rv2 hs ht hi) (cj (rv3 c1) (cj c2 (cj (rv4 hs ht hi) cj0)))))) (hF1 c1 c2)
    · exact sat (keep := [0, 1, 4, 5]) (by decide) [.t, .f] (by kernel_rfl) (cj c1 (cj (rv1 hs c1) (cj (rv2 hs ht hi) (cj (rv3 c1) (cj c2 cj0))))) (hF2 c1 c2)
  · exact sfin (keep := [0, 1, 4, 5]) (by decide) [.f] (by kernel_rfl) (cj c1 (cj (rv5 hs ht hi) cj0))
end Go.Proofs.YtpfignfgfhbblaaGreatDoorC
/- The reference's Print of values, told. -/
namespace Go.Proofs.YtpfignfgfhbblaaGreatDoorC
open Go.Proofs Go.Proofs.YtpfignfgfhbblaaGreatDoorSx Go.Lib
set_option maxRecDepth 100000
set_option linter.unusedVariables false
theorem bif_same {α : Type} (c : Bool) (a : α) : (bif c then a else a) = a := by cases c <;> rfl
theorem take_one (l : List UInt8) (i : Nat) (h : i < l.length) : (l.drop i).take 1 = [l.getD i 0] := by
  rw [List.drop_eq_getElem_cons h, List.getD_eq_getElem?_getD, List.getElem?_eq_getElem h]
  rfl
theorem take_step (l : List UInt8) (i : Nat) (h : i < l.length) : l.take (i + 1) = l.take i ++ [l.getD i 0] := by
  rw [List.take_add_one, List.getD_eq_getElem?_getD, List.getElem?_eq_getElem h]
  rfl
theorem rv_loop (k n m : Int) (s : ByteArray) (hs : s.size ≤ 256) : ∀ (f i : Nat), i + f = s.size → Fin cE Tryz.f16 0 (.v (st (oL (39 :: (dbl s.data.toList ++ [39]))))) [] 0 (bodyK rprK f) (rprS k n m s (39 :: dbl (s.data.toList.take i)) i) (rprT k n m s) 1 := by
  have hl : s.data.toList.length = s.size := by rw [Array.length_toList]; rfl
  have ht : ∀ i, i ≤ s.size → (39 :: dbl (s.data.toList.take i)).length ≤ 2 * i + 1 := by
    intro i hi
    have := dbl_len (s.data.toList.take i)
    rw [List.length_take] at this
    rw [List.length_cons]
    omega
  intro f
  induction f with
  | zero =>
    intro i hi
    have h := rVb_fin k n m s (39 :: dbl (s.data.toList.take i)) i 0 (it 0) (it 0) hs (by omega) (ht i (by omega)) (fun c1 _ => absurd (of_decide_eq_true c1) (by omega)) (fun c1 _ => absurd (of_decide_eq_true c1) (by omega))
    have e : rVb k n m s (39 :: dbl (s.data.toList.take i)) i 0 (it 0) (it 0) = st (oL (39 :: (dbl s.data.toList ++ [39]))) := by
      unfold rVb
      rw [decide_eq_false (by omega : ¬ (i : Int) < (s.size : Int)), List.take_of_length_le (by omega)]
      show st (oL (39 :: dbl s.data.toList) ++ oL [39]) = _
      rw [oL_app]
      rfl
    rw [e] at h
    exact h
  | succ f ih =>
    intro i hi
    have ih' := ih (i + 1) (by omega)
    have hil : i < s.data.toList.length := by omega
    have ex : s.extract (i : Int).toNat (IntKind.i64.wrap ((i : Int) + 1)).toNat = oL [s.data.toList.getD i 0] := by
      rw [rv_w hs (by omega)]
      have := oL_ext s.data.toList i (i + 1)
      rw [← oL_of, show i + 1 - i = 1 by omega, take_one _ _ hil] at this
      exact this
    have ed : dbl (s.data.toList.take (i + 1)) = dbl (s.data.toList.take i) ++ dbl [s.data.toList.getD i 0] := by rw [take_step _ _ hil, dbl_app]
    have ew := rv_w (s := s) (i := i) hs (by omega)
    have h := rVb_fin k n m s (39 :: dbl (s.data.toList.take i)) i (f + 1) (st (oL (39 :: (dbl s.data.toList ++ [39])))) (st (oL (39 :: (dbl s.data.toList ++ [39])))) hs (by omega) (ht i (by omega)) (fun c1 c2 => by
      have hc : s.data.toList.getD i 0 = 39 := by
        have h2 : (((s.data.toList.getD i 0).toNat : Nat) : Int) = 39 := eq_of_beq c2
        exact UInt8.toNat_inj.1 (by show _ = 39; omega)
      have et : oL (39 :: dbl (s.data.toList.take i)) ++ s.extract (i : Int).toNat (IntKind.i64.wrap ((i : Int) + 1)).toNat ++ ByteArray.mk #[39] = oL (39 :: dbl (s.data.toList.take (i + 1))) := by
        rw [ex, show ByteArray.mk #[39] = oL [39] from rfl, oL_app, oL_app, ed, hc]
        congr 1
        show (39 :: dbl (s.data.toList.take i) ++ [39]) ++ [39] = 39 :: (dbl (s.data.toList.take i) ++ [39, 39])
        simp
      show Fin cE _ 0 _ [] 0 _ ([.v (vl k n m s), .p 0 0, .na, .na, .v (st (oL (39 :: dbl (s.data.toList.take i)) ++ s.extract (i : Int).toNat (IntKind.i64.wrap ((i : Int) + 1)).toNat ++ ByteArray.mk #[39])), .v (it (IntKind.i64.wrap ((i : Int) + 1)))] ++ List.replicate 64 .na) (rprT k n m s) 1
      rw [et, ew]
      exact fin_round ih') (fun c1 c2 => by
      have hc : (s.data.toList.getD i 0 == 39) = false := by
        refine beq_eq_false_iff_ne.2 (fun e => ?_)
        have h2 : ((((s.data.toList.getD i 0).toNat : Nat) : Int) == 39) = false := c2
        rw [e] at h2
        exact absurd h2 (by decide)
      have et : oL (39 :: dbl (s.data.toList.take i)) ++ s.extract (i : Int).toNat (IntKind.i64.wrap ((i : Int) + 1)).toNat = oL (39 :: dbl (s.data.toList.take (i + 1))) := by
        have e1 : dbl [s.data.toList.getD i 0] = [s.data.toList.getD i 0] := by
          show (bif _ == 39 then _ else _) = _
          rw [hc]
          rfl
        rw [ex, oL_app, ed, e1]
        rfl
      show Fin cE _ 0 _ [] 0 _ ([.v (vl k n m s), .p 0 0, .na, .na, .v (st (oL (39 :: dbl (s.data.toList.take i)) ++ s.extract (i : Int).toNat (IntKind.i64.wrap ((i : Int) + 1)).toNat)), .v (it (IntKind.i64.wrap ((i : Int) + 1)))] ++ List.replicate 64 .na) (rprT k n m s) 1
      rw [et, ew]
      exact fin_round ih')
    have e : rVb k n m s (39 :: dbl (s.data.toList.take i)) i (f + 1) (st (oL (39 :: (dbl s.data.toList ++ [39])))) (st (oL (39 :: (dbl s.data.toList ++ [39])))) = st (oL (39 :: (dbl s.data.toList ++ [39]))) := by
      unfold rVb
      rw [decide_eq_true (by omega : (i : Int) < (s.size : Int))]
      exact bif_same _ _
    rw [e] at h
    exact h
theorem rVa_eq (k n m : Int) (s : ByteArray) : rVa k n m s (st (oL (39 :: (dbl s.data.toList ++ [39])))) = st (oL (prV k n m s)) := by
  unfold rVa prV
  cases hok : (!okV k n m s) with
  | true => rfl
  | false =>
    cases h1 : (k == 1) with
    | true =>
      have e : k = 1 := eq_of_beq h1
      subst e
      have h' : okV 1 n m s = true := by simpa using hok
      have h2 : (m == 0 && eqE s) = true := h'
      rw [Bool.and_eq_true] at h2
      have hm : m = 0 := eq_of_beq h2.1
      subst hm
      rfl
    | false =>
      cases h2 : (k == 2) with
      | true =>
        cases h3 : (m == 0) with
        | true =>
          show st (oL (printL n m) ++ oL [46]) = st (oL (printL n m ++ [46]))
          rw [oL_app]
        | false => rfl
      | false =>
        cases h3 : (k == 3) with
        | true => rfl
        | false =>
          cases h4 : (k == 4) with
          | true => cases h5 : (n == 1) <;> rfl
          | false => cases h5 : (k == 5) <;> rfl
/-- The reference's Print is the program's. -/
theorem rvprint_does (k n m : Int) (s : ByteArray) (hs : s.size ≤ 140737488351232) (hn : I64 n) (hm : I64 m) : Does cE 16 [] 0 [.v (vl k n m s)] (.v (st (oL (prV k n m s)))) [] 0 := by
  refine does_of_fin (fn := Tryz.f16) (c := bd Tryz.f16) rfl (by kernel_rfl) rfl ?_
  have h := rVa_fin k n m s (st (oL (39 :: (dbl s.data.toList ++ [39])))) hs hn hm (fun c1 _ _ c4 => fin_loop (s.size + 1) (fin_round (rv_loop k n m s (ok_text c1 c4) s.size 0 (by omega))))
  rw [rVa_eq] at h
  exact h
end Go.Proofs.YtpfignfgfhbblaaGreatDoorC
/- A decimal's text: which signs stand in it; a quoted text. Plain law. -/
namespace Go.Proofs.YtpfignfgfhbblaaGreatDoorC
open Go.Proofs Go.Proofs.YtpfignfgfhbblaaGreatDoorSx Go.Lib
set_option maxRecDepth 100000
set_option linter.unusedVariables false
abbrev dgC (c : UInt8) : Prop := 48 ≤ c.toNat ∧ c.toNat ≤ 57
theorem pad_chars {u sc : Int} {c : UInt8} (h : c ∈ padL u sc) : dgC c := by
  unfold padL at h
  rcases List.mem_append.1 h with h | h
  · have := (List.mem_replicate.1 h).2
    subst this
    decide
  · exact dec_chars h
theorem pad_ge (u sc : Int) : sc.toNat + 1 ≤ (padL u sc).length := by
  rw [pad_len]
  omega
theorem dot_chars {l : List UInt8} {sc : Int} {c : UInt8} (h : c ∈ dotL l sc) : c = 46 ∨ c ∈ l := by
  unfold dotL at h
  split at h
  · exact .inr h
  · rcases List.mem_append.1 h with h | h
    · exact .inr (List.mem_of_mem_take h)
    · rcases List.mem_cons.1 h with h | h
      · exact .inl h
      · exact .inr (List.mem_of_mem_drop h)
theorem dot_head {u sc : Int} : ∃ c r, dotL (padL u sc) sc = c :: r ∧ dgC c := by
  have hg := pad_ge u sc
  have hc := fun (c : UInt8) (h : c ∈ padL u sc) => pad_chars h
  unfold dotL
  generalize padL u sc = p at *
  cases p with
  | nil => simp at hg
  | cons c q =>
    split
    · exact ⟨c, q, rfl, hc c List.mem_cons_self⟩
    · obtain ⟨j, hj⟩ : ∃ j, (c :: q).length - sc.toNat = j + 1 := ⟨(c :: q).length - sc.toNat - 1, by omega⟩
      rw [hj]
      exact ⟨c, _, rfl, hc c List.mem_cons_self⟩
theorem last_of {l : List UInt8} (h : l ≠ []) : ∃ r c, l = r ++ [c] ∧ c ∈ l := ⟨l.dropLast, l.getLast h, (List.dropLast_concat_getLast h).symm, List.getLast_mem h⟩
theorem dot_last {u sc : Int} (h0 : 0 ≤ sc) : ∃ r c, dotL (padL u sc) sc = r ++ [c] ∧ dgC c := by
  have hg := pad_ge u sc
  have hc := fun (c : UInt8) (h : c ∈ padL u sc) => pad_chars h
  unfold dotL
  generalize padL u sc = p at *
  split
  · obtain ⟨r, c, e, hm⟩ := last_of (l := p) (fun e => by rw [e] at hg; simp at hg)
    exact ⟨r, c, e, hc c hm⟩
  · obtain ⟨r, c, e, hm⟩ := last_of (l := p.drop (p.length - sc.toNat)) (fun e => by
      have := congrArg List.length e
      rw [List.length_drop] at this
      simp at this
      omega)
    refine ⟨p.take (p.length - sc.toNat) ++ 46 :: r, c, ?_, hc c (List.mem_of_mem_drop hm)⟩
    rw [e]
    simp
theorem pl_eq {u sc : Int} (h : 0 ≤ sc ∧ sc ≤ 6) : printL u sc = if u < 0 then 45 :: dotL (padL u sc) sc else dotL (padL u sc) sc := by
  unfold printL
  rw [if_pos h]
theorem pl_chars {u sc : Int} {c : UInt8} (h : c ∈ printL u sc) : c = 45 ∨ c = 46 ∨ dgC c := by
  have hd : ∀ c, c ∈ dotL (padL u sc) sc → c = 46 ∨ dgC c := fun c h => (dot_chars h).imp id pad_chars
  unfold printL at h
  split at h
  · split at h
    · rcases List.mem_cons.1 h with h | h
      · exact .inl h
      · exact .inr (hd c h)
    · exact .inr (hd c h)
  · cases h
theorem pl_head {u sc : Int} (h : 0 ≤ sc ∧ sc ≤ 6) : ∃ c r, printL u sc = c :: r ∧ (c = 45 ∨ dgC c) := by
  rw [pl_eq h]
  split
  · exact ⟨45, _, rfl, .inl rfl⟩
  · obtain ⟨c, r, e, hc⟩ := dot_head (u := u) (sc := sc)
    exact ⟨c, r, e, .inr hc⟩
theorem pl_last {u sc : Int} (h : 0 ≤ sc ∧ sc ≤ 6) : ∃ r c, printL u sc = r ++ [c] ∧ dgC c := by
  rw [pl_eq h]
  obtain ⟨r, c, e, hc⟩ := dot_last (u := u) h.1
  split
  · exact ⟨45 :: r, c, by rw [e]; rfl, hc⟩
  · exact ⟨r, c, e, hc⟩
theorem pl_dot {u sc : Int} (h : 0 < sc ∧ sc ≤ 6) : (46 : UInt8) ∈ printL u sc := by
  rw [pl_eq ⟨by omega, h.2⟩]
  have : (46 : UInt8) ∈ dotL (padL u sc) sc := by
    unfold dotL
    rw [if_neg (by omega)]
    simp
  split
  · exact List.mem_cons_of_mem _ this
  · exact this
theorem pl_nodot {u : Int} : (46 : UInt8) ∉ printL u 0 := by
  intro h
  rw [pl_eq ⟨by decide, by decide⟩] at h
  have hd : (46 : UInt8) ∉ dotL (padL u 0) 0 := by
    unfold dotL
    rw [if_pos rfl]
    intro h
    exact absurd (pad_chars h) (by decide)
  split at h
  · rcases List.mem_cons.1 h with h | h
    · exact absurd h (by decide)
    · exact hd h
  · exact hd h
/-- What stands within quotes: each ' that has one behind it loses that one. -/
def undbl : List UInt8 → List UInt8
  | [] => []
  | c :: l => bif c == 39 then (match l with | [] => [c] | _ :: r => c :: undbl r) else c :: undbl l
theorem undbl_dbl : ∀ l : List UInt8, undbl (dbl l) = l
  | [] => rfl
  | c :: l => by
    have ih := undbl_dbl l
    unfold dbl
    cases hc : (c == 39) with
    | true =>
      have e : c = 39 := eq_of_beq hc
      subst e
      show 39 :: undbl (dbl l) = _
      rw [ih]
    | false =>
      show undbl (c :: dbl l) = _
      have e : undbl (c :: dbl l) = bif c == 39 then (match dbl l with | [] => [c] | _ :: r => c :: undbl r) else c :: undbl (dbl l) := by rw [undbl.eq_def]
      rw [e, hc]
      show c :: undbl (dbl l) = _
      rw [ih]
end Go.Proofs.YtpfignfgfhbblaaGreatDoorC
/- The reference's quoted: bounds. -/
namespace Go.Proofs.YtpfignfgfhbblaaGreatDoorC
open Go.Proofs Go.Proofs.YtpfignfgfhbblaaGreatDoorSx Go.Lib
set_option maxRecDepth 100000
set_option linter.unusedVariables false
section
variable {s : ByteArray} {i : Nat} {l : List Int}
theorem rq1 (hs : s.size ≤ 140737488351232) (c : decide ((i : Int) < IntKind.i64.wrap ((s.size : Int) - 1)) = true) : (0 : Int) ≤ (i : Int) ∧ (i : Int) < (s.size : Int) := by
  have h := of_decide_eq_true c
  rw [wrap64 (by omega) (by omega)] at h
  omega
end
theorem rq2 {a : Nat} {x : Int} (h : a ≤ 140737488351232) : Room (a + [x].length) 1 := by
  unfold Room maxLen
  simp only [List.length_cons, List.length_nil]
  omega
end Go.Proofs.YtpfignfgfhbblaaGreatDoorC
/- The reference's quoted, rounds. Printed by a program (wip/tools); Lean checks each. -/
namespace Go.Proofs.YtpfignfgfhbblaaGreatDoorC
open Go.Proofs Go.Proofs.YtpfignfgfhbblaaGreatDoorSx Go.Lib
set_option maxRecDepth 100000
set_option linter.unusedVariables false
abbrev rquS0 (s : ByteArray) (i : Nat) : List SV := [.v (st s), .na, .na, .v (.slice none 0 0), .v (it i)] ++ List.replicate 21 .na
abbrev rquS (s : ByteArray) (i : Nat) : List SV := [.v (st s), .na, .na, .o 0, .v (it i)] ++ List.replicate 21 .na
abbrev rquT (l : List Int) : Tab cE := [(0, .own 5 l)]
def rQb (s : ByteArray) (i f : Nat) (R1 R2 : Value) : Value :=
  bif (decide ((i : Int) < IntKind.i64.wrap ((s.size : Int) - 1))) then bif ((((s.data.toList.getD i 0).toNat : Nat) : Int) == 39) then R1
    else R2
  else (.string (bytesOf []))
theorem rQb_fin (s : ByteArray) (i f : Nat) (R1 R2 : Value) (hs : s.size ≤ 140737488351232) (hi : i ≤ s.size + 1) (hF1 : (decide ((i : Int) < IntKind.i64.wrap ((s.size : Int) - 1))) = true → ((((s.data.toList.getD i 0).toNat : Nat) : Int) == 39) = true → Fin cE Tryz.f47 0 (.v R1) [] 0 (inK rquK (f)) ([.v (.string (s)), .na, .na, .o 0, .v (.int .i64 (IntKind.i64.wrap (IntKind.i64.wrap ((i : Int) + 1) + 1)))] ++ List.replicate 21 .na) [(0, .own 5 ([] ++ [(((s.data.toList.getD i 0).toNat : Nat) : Int)]))] 1) (hF2 : (decide ((i : Int) < IntKind.i64.wrap ((s.size : Int) - 1))) = true → ((((s.data.toList.getD i 0).toNat : Nat) : Int) == 39) = false → Fin cE Tryz.f47 0 (.v R2) [] 0 (inK rquK (f)) ([.v (.string (s)), .na, .na, .o 0, .v (.int .i64 (IntKind.i64.wrap ((i : Int) + 1)))] ++ List.replicate 21 .na) [(0, .own 5 ([] ++ [(((s.data.toList.getD i 0).toNat : Nat) : Int)]))] 1) : Fin cE Tryz.f47 0 (.v (rQb s i f R1 R2)) [] 0 (bodyK rquK f) (rquS0 s i) [] 0 := by
  unfold rQb
  refine fbif (fun c1 => ?_) (fun c1 => ?_)
  · refine fbif (fun c2 => ?_) (fun c2 => ?_)
    · exact sat (keep := [0, 3, 4]) (by decide) [.t, .t] (by kernel_rfl) (cj c1 (cj (rq1 hs c1) (cj (rq2 (a := 0) (x := (((s.data.toList.getD (i : Int).toNat 0).toNat : Nat) : Int)) (by omega)) (cj (rq1 hs c1) (cj c2 cj0))))) (hF1 c1 c2)
    · exact sat (keep := [0, 3, 4]) (by decide) [.t, .f] (by kernel_rfl) (cj c1 (cj (rq1 hs c1) (cj (rq2 (a := 0) (x := (((s.data.toList.getD (i : Int).toNat 0).toNat : Nat) : Int)) (by omega)) (cj (rq1 hs c1) (cj c2 cj0))))) (hF2 c1 c2)
  · exact sfin (keep := [0, 3, 4]) (by decide) [.f] (by kernel_rfl) (cj c1 cj0)
def rQc (s : ByteArray) (l : List Int) (i f : Nat) (R1 R2 : Value) : Value :=
  bif (decide ((i : Int) < IntKind.i64.wrap ((s.size : Int) - 1))) then bif ((((s.data.toList.getD i 0).toNat : Nat) : Int) == 39) then R1
    else R2
  else (.string (bytesOf l))
theorem rQc_fin (s : ByteArray) (l : List Int) (i f : Nat) (R1 R2 : Value) (hs : s.size ≤ 140737488351232) (hi : i ≤ s.size + 1) (hl : l.length ≤ s.size) (hF1 : (decide ((i : Int) < IntKind.i64.wrap ((s.size : Int) - 1))) = true → ((((s.data.toList.getD i 0).toNat : Nat) : Int) == 39) = true → Fin cE Tryz.f47 0 (.v R1) [] 0 (inK rquK (f)) ([.v (.string (s)), .na, .na, .o 0, .v (.int .i64 (IntKind.i64.wrap (IntKind.i64.wrap ((i : Int) + 1) + 1)))] ++ List.replicate 21 .na) [(0, .own 5 (l ++ [(((s.data.toList.getD i 0).toNat : Nat) : Int)]))] 1) (hF2 : (decide ((i : Int) < IntKind.i64.wrap ((s.size : Int) - 1))) = true → ((((s.data.toList.getD i 0).toNat : Nat) : Int) == 39) = false → Fin cE Tryz.f47 0 (.v R2) [] 0 (inK rquK (f)) ([.v (.string (s)), .na, .na, .o 0, .v (.int .i64 (IntKind.i64.wrap ((i : Int) + 1)))] ++ List.replicate 21 .na) [(0, .own 5 (l ++ [(((s.data.toList.getD i 0).toNat : Nat) : Int)]))] 1) : Fin cE Tryz.f47 0 (.v (rQc s l i f R1 R2)) [] 0 (bodyK rquK f) (rquS s i) (rquT l) 1 := by
  unfold rQc
  refine fbif (fun c1 => ?_) (fun c1 => ?_)
  · refine fbif (fun c2 => ?_) (fun c2 => ?_)
    · exact sat (keep := [0, 3, 4]) (by decide) [.t, .t] (by kernel_rfl) (cj c1 (cj (rq1 hs c1) (cj (rq2 (a := l.length) (x := (((s.data.toList.getD (i : Int).toNat 0).toNat : Nat) : Int)) (by omega)) (cj (rq1 hs c1) (cj c2 cj0))))) (hF1 c1 c2)
    · exact sat (keep := [0, 3, 4]) (by decide) [.t, .f] (by kernel_rfl) (cj c1 (cj (rq1 hs c1) (cj (rq2 (a := l.length) (x := (((s.data.toList.getD (i : Int).toNat 0).toNat : Nat) : Int)) (by omega)) (cj (rq1 hs c1) (cj c2 cj0))))) (hF2 c1 c2)
  · exact sfin (keep := [0, 3, 4]) (by decide) [.f] (by kernel_rfl) (cj c1 cj0)
end Go.Proofs.YtpfignfgfhbblaaGreatDoorC
/- The reference's quoted, its head. Printed by a program (wip/tools); Lean checks each. -/
namespace Go.Proofs.YtpfignfgfhbblaaGreatDoorC
open Go.Proofs Go.Proofs.YtpfignfgfhbblaaGreatDoorSx Go.Lib
set_option maxRecDepth 100000
set_option linter.unusedVariables false
def rQa (s : ByteArray) (R1 : SV × Tab cE × Nat) : SV × Tab cE × Nat :=
  R1
theorem rQa_fin (s : ByteArray) (R1 : SV × Tab cE × Nat) (hs : s.size ≤ 140737488351232) (hF1 : Fin cE Tryz.f47 0 R1.1 R1.2.1 R1.2.2 rquK ([.v (.string (s)), .na, .na, .v (.slice (none) (0) (0)), .v (.int .i64 (1))] ++ List.replicate 21 .na) [] 0) : Fin cE Tryz.f47 0 (rQa s R1).1 (rQa s R1).2.1 (rQa s R1).2.2 [.code (bd Tryz.f47)] (argsS [.v (st s)] Tryz.f47.ntmps) [] 0 := by
  unfold rQa
  exact sat (keep := [0, 3, 4]) (by decide) [] (by kernel_rfl) cj0 (hF1 )
end Go.Proofs.YtpfignfgfhbblaaGreatDoorC
/- The reference's quoted, told. -/
namespace Go.Proofs.YtpfignfgfhbblaaGreatDoorC
open Go.Proofs Go.Proofs.YtpfignfgfhbblaaGreatDoorSx Go.Lib
set_option maxRecDepth 100000
set_option linter.unusedVariables false
abbrev byN (s : ByteArray) (i : Nat) : Int := (((s.data.toList.getD i 0).toNat : Nat) : Int)
def inQ (s : ByteArray) (i : Nat) : Bool := decide ((i : Int) < IntKind.i64.wrap ((s.size : Int) - 1))
/-- What the reference's quoted gathers. -/
def quR (s : ByteArray) : Nat → Nat → List Int → List Int
  | 0, _, a => a
  | f + 1, i, a => bif inQ s i then quR s f (bif byN s i == 39 then i + 2 else i + 1) (a ++ [byN s i]) else a
theorem inQ_sz {s : ByteArray} {i : Nat} (hs : s.size ≤ 140737488351232) (h : inQ s i = true) : i + 1 < s.size + 0 := by
  unfold inQ at h
  have := of_decide_eq_true h
  rw [wrap64 (by omega) (by omega)] at this
  omega
theorem inQ_no {s : ByteArray} {i : Nat} (hs : s.size ≤ 140737488351232) (h : s.size ≤ i + 1) : inQ s i = false := by
  unfold inQ
  rw [wrap64 (by omega) (by omega)]
  exact decide_eq_false (by omega)
abbrev strQ (a : List Int) : Value := .string (List.foldl (fun r n => r.push (UInt8.ofNat n.toNat)) ByteArray.empty a)
theorem rq_loop (s : ByteArray) (hs : s.size ≤ 140737488351232) : ∀ (f i : Nat) (a : List Int), s.size ≤ i + f → i ≤ s.size + 1 → a.length ≤ i → a.length ≤ s.size → Fin cE Tryz.f47 0 (.v (strQ (quR s f i a))) [] 0 (bodyK rquK f) (rquS s i) (rquT a) 1 := by
  intro f
  induction f with
  | zero =>
    intro i a h1 h2 h3 h4
    have hn := inQ_no (s := s) (i := i) hs (by omega)
    have h := rQc_fin s a i 0 (it 0) (it 0) hs h2 h4 (fun c1 _ => absurd (hn.symm.trans c1) (by decide)) (fun c1 _ => absurd (hn.symm.trans c1) (by decide))
    have e : rQc s a i 0 (it 0) (it 0) = strQ a := by
      unfold rQc
      rw [show decide ((i : Int) < IntKind.i64.wrap ((s.size : Int) - 1)) = false from hn]
      rfl
    rw [e] at h
    exact h
  | succ f ih =>
    intro i a h1 h2 h3 h4
    have eq : quR s (f + 1) i a = bif inQ s i then quR s f (bif byN s i == 39 then i + 2 else i + 1) (a ++ [byN s i]) else a := rfl
    rw [eq]
    have h := rQc_fin s a i (f + 1) (strQ (quR s f (i + 2) (a ++ [byN s i]))) (strQ (quR s f (i + 1) (a ++ [byN s i]))) hs h2 h4 (fun c1 c2 => by
      have hb := inQ_sz hs c1
      have e2 : IntKind.i64.wrap (IntKind.i64.wrap ((i : Int) + 1) + 1) = ((i + 2 : Nat) : Int) := by
        rw [wrap64 (n := (i : Int) + 1) (by omega) (by omega), wrap64 (by omega) (by omega)]
        omega
      have h5 := ih (i + 2) (a ++ [byN s i]) (by omega) (by omega) (by simp; omega) (by simp; omega)
      rw [e2]
      exact fin_round h5) (fun c1 c2 => by
      have hb := inQ_sz hs c1
      have e2 : IntKind.i64.wrap ((i : Int) + 1) = ((i + 1 : Nat) : Int) := by
        rw [wrap64 (by omega) (by omega)]
        omega
      have h5 := ih (i + 1) (a ++ [byN s i]) (by omega) (by omega) (by simp; omega) (by simp; omega)
      rw [e2]
      exact fin_round h5)
    have e : rQc s a i (f + 1) (strQ (quR s f (i + 2) (a ++ [byN s i]))) (strQ (quR s f (i + 1) (a ++ [byN s i]))) = strQ (bif inQ s i then quR s f (bif byN s i == 39 then i + 2 else i + 1) (a ++ [byN s i]) else a) := by
      unfold rQc
      show (bif inQ s i then (bif byN s i == 39 then _ else _) else _) = _
      cases inQ s i with
      | false => rfl
      | true => cases (byN s i == 39) <;> rfl
    rw [e] at h
    exact h
end Go.Proofs.YtpfignfgfhbblaaGreatDoorC
/- The reference's quoted, whole. -/
namespace Go.Proofs.YtpfignfgfhbblaaGreatDoorC
open Go.Proofs Go.Proofs.YtpfignfgfhbblaaGreatDoorSx Go.Lib
set_option maxRecDepth 100000
set_option linter.unusedVariables false
theorem rq_first (s : ByteArray) (hs : s.size ≤ 140737488351232) : Fin cE Tryz.f47 0 (.v (strQ (quR s (s.size + 1) 1 []))) [] 0 (bodyK rquK (s.size + 1)) (rquS0 s 1) [] 0 := by
  have eq : quR s (s.size + 1) 1 [] = bif inQ s 1 then quR s s.size (bif byN s 1 == 39 then 3 else 2) [byN s 1] else [] := rfl
  rw [eq]
  have h := rQb_fin s 1 (s.size + 1) (strQ (quR s s.size 3 [byN s 1])) (strQ (quR s s.size 2 [byN s 1])) hs (by omega) (fun c1 c2 => by
    have hb := inQ_sz (i := 1) hs c1
    exact fin_round (rq_loop s hs s.size 3 [byN s 1] (by omega) (by omega) (by simp) (by simp; omega))) (fun c1 c2 => by
    have hb := inQ_sz (i := 1) hs c1
    exact fin_round (rq_loop s hs s.size 2 [byN s 1] (by omega) (by omega) (by simp) (by simp; omega)))
  have e : rQb s 1 (s.size + 1) (strQ (quR s s.size 3 [byN s 1])) (strQ (quR s s.size 2 [byN s 1])) = strQ (bif inQ s 1 then quR s s.size (bif byN s 1 == 39 then 3 else 2) [byN s 1] else []) := by
    unfold rQb
    show (bif inQ s 1 then (bif byN s 1 == 39 then _ else _) else _) = _
    cases inQ s 1 with
    | false => rfl
    | true => cases (byN s 1 == 39) <;> rfl
  rw [e] at h
  exact h
theorem rquoted_does (s : ByteArray) (hs : s.size ≤ 140737488351232) : Does cE 47 [] 0 [.v (st s)] (.v (strQ (quR s (s.size + 1) 1 []))) [] 0 := by
  refine does_of_fin (fn := Tryz.f47) (c := bd Tryz.f47) rfl (by kernel_rfl) rfl ?_
  have h := rQa_fin s (.v (strQ (quR s (s.size + 1) 1 [])), [], 0) hs (fin_loop (s.size + 1 + 1) (fin_round (rq_first s hs)))
  exact h
end Go.Proofs.YtpfignfgfhbblaaGreatDoorC
/- The reference's quoted gives what stands within quotes. Plain law. -/
namespace Go.Proofs.YtpfignfgfhbblaaGreatDoorC
open Go.Proofs Go.Proofs.YtpfignfgfhbblaaGreatDoorSx Go.Lib
set_option maxRecDepth 100000
set_option linter.unusedVariables false
abbrev nums (l : List UInt8) : List Int := l.map fun b => ((b.toNat : Nat) : Int)
theorem push_of (a : List UInt8) (c : UInt8) : (oL a).push c = oL (a ++ [c]) := by
  show ByteArray.mk (a.toArray.push c) = ByteArray.mk (a ++ [c]).toArray
  simp
theorem pushes : ∀ (l a : List UInt8), List.foldl (fun (r : ByteArray) (n : Int) => r.push (UInt8.ofNat n.toNat)) (oL a) (nums l) = oL (a ++ l)
  | [], a => by simp
  | c :: l, a => by
    have e : UInt8.ofNat (((c.toNat : Nat) : Int)).toNat = c := by
      rw [Int.toNat_natCast]
      exact UInt8.ofNat_toNat
    show List.foldl _ ((oL a).push (UInt8.ofNat (((c.toNat : Nat) : Int)).toNat)) (nums l) = _
    rw [e, push_of, pushes l (a ++ [c])]
    simp
theorem bytes_nums (l : List UInt8) : bytesOf (nums l) = oL l := pushes l []
theorem strQ_of (l : List UInt8) : strQ (nums l) = st (oL l) := congrArg Go.Value.string (bytes_nums l)
theorem byN_at (p r : List UInt8) (c : UInt8) : byN (oL (p ++ c :: r)) p.length = ((c.toNat : Nat) : Int) := by
  unfold byN
  rw [oL_data]
  simp
theorem b39 (c : UInt8) : (((c.toNat : Nat) : Int) == 39) = (c == 39) := by
  by_cases h : c = 39
  · subst h
    decide
  · rw [beq_eq_false_iff_ne.2 h]
    refine beq_eq_false_iff_ne.2 (fun e => h ?_)
    have e2 : c.toNat = 39 := by omega
    exact UInt8.toNat_inj.1 e2
theorem inQ_yes {s : ByteArray} {i : Nat} (hs : s.size ≤ 140737488351232) (h : i + 1 < s.size) : inQ s i = true := by
  unfold inQ
  rw [wrap64 (by omega) (by omega)]
  exact decide_eq_true (by omega)
theorem quR_un : ∀ (n : Nat) (rest : List UInt8), rest.length ≤ n → ∀ (f : Nat) (p : List UInt8) (a : List Int) (q : UInt8), rest.length ≤ f → p.length + rest.length + 1 ≤ 140737488351232 →
    quR (oL (p ++ (rest ++ [q]))) f p.length a = a ++ nums (undbl rest)
  | _, [], _, f, p, a, q, _, hs => by
    have hz : (oL (p ++ ([] ++ [q]))).size = p.length + 1 := by rw [oL_size]; simp
    cases f with
    | zero => simp [quR, undbl]
    | succ f =>
      have hn := inQ_no (s := oL (p ++ ([] ++ [q]))) (i := p.length) (by rw [hz]; simp at hs; omega) (by rw [hz]; omega)
      show (bif inQ _ _ then _ else a) = _
      rw [hn]
      simp [undbl]
  | 0, _ :: _, h, _, _, _, _, _, _ => by simp at h
  | n + 1, c :: r, h, 0, p, a, q, hf, hs => by simp at hf
  | n + 1, c :: r, h, f + 1, p, a, q, hf, hs => by
    simp only [List.length_cons] at h hf hs
    have hz : (oL (p ++ (c :: r ++ [q]))).size = p.length + r.length + 2 := by rw [oL_size]; simp; omega
    have hy := inQ_yes (s := oL (p ++ (c :: r ++ [q]))) (i := p.length) (by rw [hz]; omega) (by rw [hz]; omega)
    show (bif inQ _ _ then quR _ f (bif byN _ _ == 39 then _ else _) _ else a) = _
    rw [hy, List.cons_append, byN_at, b39]
    show quR _ f (bif c == 39 then _ else _) _ = _
    cases hc : (c == 39) with
    | true =>
      have e : c = 39 := eq_of_beq hc
      subst e
      cases r with
      | nil =>
        have eu : undbl [39] = [39] := rfl
        rw [eu]
        show quR _ f (p.length + 2) _ = _
        cases f with
        | zero => rfl
        | succ f =>
          have hn := inQ_no (s := oL (p ++ 39 :: ([] ++ [q]))) (i := p.length + 2) (by rw [oL_size]; simp; simp at hs; omega) (by rw [oL_size]; simp)
          show (bif inQ _ _ then _ else _) = _
          rw [hn]
          rfl
      | cons d r =>
        have eu : undbl (39 :: d :: r) = 39 :: undbl r := rfl
        simp only [List.length_cons] at h hf hs
        have ih := quR_un n r (by omega) f (p ++ [39, d]) (a ++ [((39 : UInt8).toNat : Int)]) q (by omega) (by simp; omega)
        rw [eu]
        have e1 : p ++ 39 :: (d :: r ++ [q]) = p ++ [39, d] ++ (r ++ [q]) := by simp
        have e2 : (p ++ [39, d]).length = p.length + 2 := by simp
        rw [e2] at ih
        rw [e1]
        refine ih.trans ?_
        simp
    | false =>
      have eu : undbl (c :: r) = c :: undbl r := by
        rw [undbl.eq_def]
        show (bif c == 39 then _ else _) = _
        rw [hc]
        rfl
      have ih := quR_un n r (by omega) f (p ++ [c]) (a ++ [((c.toNat : Nat) : Int)]) q (by omega) (by simp; omega)
      have e1 : p ++ c :: (r ++ [q]) = p ++ [c] ++ (r ++ [q]) := by simp
      have e2 : (p ++ [c]).length = p.length + 1 := by simp
      rw [e2] at ih
      rw [eu, e1]
      refine ih.trans ?_
      simp
theorem quR_text (l : List UInt8) (hl : l.length ≤ 70368744175000) : strQ (quR (oL (39 :: (dbl l ++ [39]))) ((oL (39 :: (dbl l ++ [39]))).size + 1) 1 []) = st (oL l) := by
  have hd := dbl_len l
  have h := quR_un (dbl l).length (dbl l) (Nat.le_refl _) ((oL (39 :: (dbl l ++ [39]))).size + 1) [39] [] 39 (by rw [oL_size]; simp; omega) (by simp; omega)
  rw [undbl_dbl, List.nil_append] at h
  rw [show quR (oL (39 :: (dbl l ++ [39]))) ((oL (39 :: (dbl l ++ [39]))).size + 1) 1 [] = nums l from h]
  exact strQ_of l
end Go.Proofs.YtpfignfgfhbblaaGreatDoorC
/- datum.quoted: what it comes to. -/
namespace Go.Proofs.YtpfignfgfhbblaaGreatDoorC
open Go.Proofs Go.Proofs.YtpfignfgfhbblaaGreatDoorSx Go.Lib
set_option maxRecDepth 100000
set_option linter.unusedVariables false
/-- What stands behind the first quote: the text, does it end just at the last quote? -/
def qsP : List UInt8 → List UInt8 → List UInt8 × Bool
  | [], _ => ([], false)
  | c :: r, a => bif c == 39 then (match r with
    | [] => (a, true)
    | d :: r' => bif d == 39 then qsP r' (a ++ [39]) else (a, false)) else qsP r (a ++ [c])
theorem qsP_no {c : UInt8} (r a : List UInt8) (h : (c == 39) = false) : qsP (c :: r) a = qsP r (a ++ [c]) := by
  rw [qsP.eq_def]
  show (bif c == 39 then _ else _) = _
  rw [h]
  rfl
theorem getD_at (p r : List UInt8) (c : UInt8) : (oL (p ++ c :: r)).data.toList.getD (p.length : Int).toNat 0 = c := by
  rw [oL_data]
  simp
theorem getD_at1 (p r : List UInt8) (c d : UInt8) : (oL (p ++ c :: d :: r)).data.toList.getD ((p.length : Int) + 1).toNat 0 = d := by
  rw [oL_data]
  have e : ((p.length : Int) + 1).toNat = p.length + 1 := by omega
  rw [e, List.getD_eq_getElem?_getD, List.getElem?_append_right (by omega)]
  simp
theorem nums_snoc (a : List UInt8) (c : UInt8) : nums a ++ [((c.toNat : Nat) : Int)] = nums (a ++ [c]) := by simp
theorem quP_loop : ∀ (n : Nat) (rest : List UInt8), rest.length ≤ n → ∀ (f : Nat) (p a : List UInt8), rest.length + 1 ≤ f → p.length + rest.length ≤ 140737488351232 → a.length ≤ p.length →
    quP (oL (p ++ rest)) f (.l1 (p.length : Int) (nums a)) = some (.v (.tuple #[st (oL (qsP rest a).1), .bool (qsP rest a).2]), [], 0) := by
  intro n
  induction n with
  | zero =>
    intro rest hn f p a hf hs ha
    have e := List.eq_nil_of_length_eq_zero (Nat.le_zero.1 hn)
    subst e
    obtain ⟨f, rfl⟩ : ∃ k, f = k + 1 := ⟨f - 1, by omega⟩
    show quP_l1 _ _ _ _ = _
    unfold quP_l1
    exact bt (decide_eq_true (by rw [oL_size]; simp)) rfl
  | succ n ih =>
    intro rest hn f p a hf hs ha
    obtain ⟨f, rfl⟩ : ∃ k, f = k + 1 := ⟨f - 1, by omega⟩
    show quP_l1 _ _ _ _ = _
    unfold quP_l1
    cases rest with
    | nil => exact bt (decide_eq_true (by rw [oL_size]; simp)) rfl
    | cons c r =>
      simp only [List.length_cons] at hn hf hs
      have hz : ((oL (p ++ c :: r)).size : Int) = p.length + r.length + 1 := by rw [oL_size]; simp; omega
      have hw : IntKind.i64.wrap ((p.length : Int) + 1) = (p.length : Int) + 1 := wrap64 (by omega) (by omega)
      refine bf (decide_eq_false (by omega)) (gp (by omega) ?_)
      rw [getD_at, hw]
      cases hc : (c == 39) with
      | false =>
        have h1 : (((c.toNat : Nat) : Int) != 39) = true := by rw [bne, b39, hc]; rfl
        refine bt h1 (gp (room1 (by simp; omega)) ?_)
        have h := ih r (by omega) f (p ++ [c]) (a ++ [c]) (by omega) (by simp; omega) (by simp; omega)
        have e1 : p ++ [c] ++ r = p ++ c :: r := by simp
        have e2 : ((p ++ [c]).length : Int) = (p.length : Int) + 1 := by simp
        rw [e1, e2] at h
        show quP _ f (.l1 _ (nums a ++ _)) = _
        rw [nums_snoc, h]
        have e3 := qsP_no r a hc
        rw [e3]
      | true =>
        have ec : c = 39 := eq_of_beq hc
        subst ec
        have h1 : ((((39 : UInt8).toNat : Nat) : Int) != 39) = false := rfl
        refine bf h1 ?_
        cases r with
        | nil =>
          refine bf (decide_eq_false (by simp at hz; omega)) ?_
          have e3 : qsP [39] a = (a, true) := by rw [qsP]; rfl
          have e4 : (((p.length : Int) + 1) == ((oL (p ++ [39])).size : Int)) = true := beq_iff_eq.2 (by rw [hz]; simp)
          rw [e3, e4, bytes_nums]
        | cons d r =>
          simp only [List.length_cons] at hn hf hs hz
          refine bt (decide_eq_true (by omega)) (gp (by omega) ?_)
          rw [getD_at1]
          cases hd : (d == 39) with
          | true =>
            have ed : d = 39 := eq_of_beq hd
            subst ed
            refine bt rfl (gp (room1 (by simp; omega)) ?_)
            have hw2 : IntKind.i64.wrap ((p.length : Int) + 1 + 1) = (p.length : Int) + 2 := (wrap64 (by omega) (by omega)).trans (by omega)
            have h := ih r (by omega) f (p ++ [39, 39]) (a ++ [39]) (by omega) (by simp; omega) (by simp; omega)
            have e1 : p ++ [39, 39] ++ r = p ++ 39 :: 39 :: r := by simp
            have e2 : ((p ++ [39, 39]).length : Int) = (p.length : Int) + 2 := by simp
            rw [e1, e2] at h
            show quP _ f (.l1 (IntKind.i64.wrap _) (nums a ++ _)) = _
            rw [hw2, nums_snoc, h]
            have e3 : qsP (39 :: 39 :: r) a = qsP r (a ++ [39]) := by rw [qsP]; rfl
            rw [e3]
          | false =>
            refine bf (by rw [b39, hd]) ?_
            have e3 : qsP (39 :: d :: r) a = (a, false) := by
              rw [qsP.eq_def]
              show (bif d == 39 then _ else _) = _
              rw [hd]
              rfl
            have e4 : (((p.length : Int) + 1) == ((oL (p ++ 39 :: d :: r)).size : Int)) = false := beq_eq_false_iff_ne.2 (by omega)
            rw [e3, e4, bytes_nums]
/-- The step into the loop is as a round, with nothing gathered. -/
theorem quP_start (s : ByteArray) (rec : quP_S → Option Rs) : quP_st s rec = quP_l1 s rec 1 [] := rfl
theorem quP_enter (s : ByteArray) (f : Nat) : quP s (f + 1) .st = quP s (f + 1) (.l1 1 []) := quP_start s _
theorem quoted_does (s : ByteArray) (hs : s.size ≤ 140737488351232) (h0 : 1 ≤ s.size) : Does cE 92 [] 0 [.v (st s)] (.v (.tuple #[st (oL (qsP (s.data.toList.drop 1) []).1), .bool (qsP (s.data.toList.drop 1) []).2])) [] 0 := by
  refine Does.of (quP_does s (s.size + 2) (r := (_, _, _)) ?_) rfl
  obtain ⟨l, rfl⟩ : ∃ l, s = oL l := ⟨_, oL_of s⟩
  rw [oL_size] at hs h0
  cases l with
  | nil => simp at h0
  | cons c r =>
    simp only [List.length_cons] at hs
    have h := quP_loop r.length r (Nat.le_refl _) ((oL (c :: r)).size + 2) [c] [] (by rw [oL_size, List.length_cons]; omega) (by simp; omega) (by simp)
    rw [oL_data, quP_enter]
    exact h
end Go.Proofs.YtpfignfgfhbblaaGreatDoorC
/- datum.read, walked. Printed by a program (wip/tools); Lean checks each. -/
namespace Go.Proofs.YtpfignfgfhbblaaGreatDoorC
open Go.Proofs Go.Proofs.YtpfignfgfhbblaaGreatDoorSx Go.Lib
set_option maxRecDepth 100000
set_option linter.unusedVariables false
noncomputable def reP (s : ByteArray) : Option Rs :=
  bif (s.toList == (ByteArray.mk #[]).toList) then some ((.v (.tuple #[(.agg #[(.int .i64 ((0 : Int))), (.int .i64 ((0 : Int))), (.int .i64 ((0 : Int))), (.string ((ByteArray.mk #[])))]), (.bool (false))]) : SV), ([] : Tab cE), 0)
  else bif (s.toList == (ByteArray.mk #[(110 : UInt8), (117 : UInt8), (108 : UInt8), (108 : UInt8)]).toList) then some ((.v (.tuple #[(.agg #[(.int .i64 ((0 : Int))), (.int .i64 ((0 : Int))), (.int .i64 ((0 : Int))), (.string ((ByteArray.mk #[])))]), (.bool (true))]) : SV), ([] : Tab cE), 0)
    else bif (s.toList == (ByteArray.mk #[(116 : UInt8), (114 : UInt8), (117 : UInt8), (101 : UInt8)]).toList) then some ((.v (.tuple #[(.agg #[(.int .i64 (ofK (IntKind.i64.wrap ((5 : Int) - (s.size : Int))))), (.int .i64 (ofN (IntKind.i64.wrap ((5 : Int) - (s.size : Int))))), (.int .i64 ((0 : Int))), (.string (bE))]), (.bool (true))]) : SV), ([] : Tab cE), 0)
      else bif (s.toList == (ByteArray.mk #[(102 : UInt8), (97 : UInt8), (108 : UInt8), (115 : UInt8), (101 : UInt8)]).toList) then some ((.v (.tuple #[(.agg #[(.int .i64 (ofK (IntKind.i64.wrap ((5 : Int) - (s.size : Int))))), (.int .i64 (ofN (IntKind.i64.wrap ((5 : Int) - (s.size : Int))))), (.int .i64 ((0 : Int))), (.string (bE))]), (.bool (true))]) : SV), ([] : Tab cE), 0)
        else grd ((0 : Int) ≤ (0 : Int) ∧ (0 : Int) < (s.size : Int)) (bif ((((s.data.toList.getD (Int.toNat (0 : Int)) (0 : UInt8)).toNat : Nat) : Int) == (39 : Int)) then grd ((s).size ≤ 140737488351232) (grd (1 ≤ (s).size) (some ((.v (.tuple #[(.agg #[(.int .i64 ((3 : Int))), (.int .i64 ((0 : Int))), (.int .i64 ((0 : Int))), (.string (oL (qsP (List.drop (1 : Nat) s.data.toList) []).fst))]), (.bool ((qsP (List.drop (1 : Nat) s.data.toList) []).snd))]) : SV), ([] : Tab cE), 0)))
            else bif ((((s.data.toList.getD (Int.toNat (0 : Int)) (0 : UInt8)).toNat : Nat) : Int) == (60 : Int)) then grd ((s).data.toList.length ≤ 140737488355328) (some ((.v (.tuple #[(.agg #[(.int .i64 ((5 : Int))), (.int .i64 ((gpL s.data.toList).fst)), (.int .i64 ((gpL s.data.toList).snd.fst)), (.string ((ByteArray.mk #[])))]), (.bool ((gpL s.data.toList).snd.snd == (0 : Int)))]) : SV), ([] : Tab cE), 0))
              else grd ((s).data.toList.length ≤ 140737488355328) (grd ((oL (Go.Lib.trimSuffix s.data.toList [46])).data.toList.length ≤ 9223372036854775807) (bif (!decide ((0 : Int) ≤ Go.Lib.indexByte s.data.toList (46 : UInt8))) then some ((.v (.tuple #[(.agg #[(.int .i64 ((1 : Int))), (.int .i64 ((parseL (Go.Lib.trimSuffix s.data.toList [(46 : UInt8)])).fst)), (.int .i64 ((parseL (Go.Lib.trimSuffix s.data.toList [(46 : UInt8)])).snd.fst)), (.string ((ByteArray.mk #[])))]), (.bool ((parseL (Go.Lib.trimSuffix s.data.toList [(46 : UInt8)])).snd.snd == (0 : Int)))]) : SV), ([] : Tab cE), 0)
                    else some ((.v (.tuple #[(.agg #[(.int .i64 ((2 : Int))), (.int .i64 ((parseL (Go.Lib.trimSuffix s.data.toList [(46 : UInt8)])).fst)), (.int .i64 ((parseL (Go.Lib.trimSuffix s.data.toList [(46 : UInt8)])).snd.fst)), (.string ((ByteArray.mk #[])))]), (.bool ((parseL (Go.Lib.trimSuffix s.data.toList [(46 : UInt8)])).snd.snd == (0 : Int)))]) : SV), ([] : Tab cE), 0))))
theorem reP_does (s : ByteArray) {r : Rs} (h : reP s = some r) : Does cE 45 [] 0 [.v (st s)] r.1 r.2.1 r.2.2 := by
  unfold reP at h
  refine does_of_fin (fn := Tryz.f45) (c := bd Tryz.f45) rfl (by kernel_rfl) rfl ?_
  refine obif h (fun c1 h => ?_) (fun c1 h => ?_)
  · exact osome h (sfin (keep := []) (by decide) [.t] (by kernel_rfl) (cj c1 cj0))
  · refine obif h (fun c2 h => ?_) (fun c2 h => ?_)
    · exact osome h (sfin (keep := []) (by decide) [.f, .t] (by kernel_rfl) (cj c1 (cj c2 cj0)))
    · refine obif h (fun c3 h => ?_) (fun c3 h => ?_)
      · exact osome h (sfin (keep := []) (by decide) [.f, .f, .t, .t, .t, .l, .c (.v (.agg #[(.int .i64 (ofK (IntKind.i64.wrap (5 - (s.size : Int))))), (.int .i64 (ofN (IntKind.i64.wrap (5 - (s.size : Int))))), (.int .i64 (0)), (.string (bE))])) [] 0] (by kernel_rfl) (cj c1 (cj c2 (cj c3 (cj c3 (cj c3 (cj (of_does (IntKind.i64.wrap ((5 : Int) - (s.size : Int)))) cj0)))))))
      · refine obif h (fun c4 h => ?_) (fun c4 h => ?_)
        · exact osome h (sfin (keep := []) (by decide) [.f, .f, .f, .f, .f, .t, .c (.v (.agg #[(.int .i64 (ofK (IntKind.i64.wrap (5 - (s.size : Int))))), (.int .i64 (ofN (IntKind.i64.wrap (5 - (s.size : Int))))), (.int .i64 (0)), (.string (bE))])) [] 0] (by kernel_rfl) (cj c1 (cj c2 (cj c3 (cj c3 (cj c3 (cj c4 (cj (of_does (IntKind.i64.wrap ((5 : Int) - (s.size : Int)))) cj0))))))))
        · refine ogrd h (fun c5 h => ?_)
          refine obif h (fun c6 h => ?_) (fun c6 h => ?_)
          · refine ogrd h (fun c7 h => ?_)
            refine ogrd h (fun c8 h => ?_)
            exact osome h (sfin (keep := []) (by decide) [.f, .f, .f, .f, .f, .f, .t, .c (.v (.tuple #[(.string (oL (qsP (List.drop 1 s.data.toList) []).fst)), (.bool ((qsP (List.drop 1 s.data.toList) []).snd))])) [] 0] (by kernel_rfl) (cj c1 (cj c2 (cj c3 (cj c3 (cj c3 (cj c4 (cj c5 (cj c6 (cj (quoted_does (s) (by assumption) (by assumption)) cj0))))))))))
          · refine obif h (fun c9 h => ?_) (fun c9 h => ?_)
            · refine ogrd h (fun c10 h => ?_)
              exact osome h (sfin (keep := []) (by decide) [.f, .f, .f, .f, .f, .f, .f, .t, .c (.v (.tuple #[(.agg #[(.int .i64 ((gpL s.data.toList).fst)), (.int .i64 ((gpL s.data.toList).snd.fst))]), (.int .i64 ((gpL s.data.toList).snd.snd))])) [] 0] (by kernel_rfl) (cj c1 (cj c2 (cj c3 (cj c3 (cj c3 (cj c4 (cj c5 (cj c6 (cj c5 (cj c9 (cj (gparse_does (s).data.toList (by assumption)) cj0))))))))))))
            · refine ogrd h (fun c11 h => ?_)
              refine ogrd h (fun c12 h => ?_)
              refine obif h (fun c13 h => ?_) (fun c13 h => ?_)
              · exact osome h (sfin (keep := []) (by decide) [.f, .f, .f, .f, .f, .f, .f, .f, .c (.v (.string (oL (Go.Lib.trimSuffix s.data.toList [46])))) [] 0, .c (.v (.tuple #[(.agg #[(.int .i64 ((parseL (Go.Lib.trimSuffix s.data.toList [46])).fst)), (.int .i64 ((parseL (Go.Lib.trimSuffix s.data.toList [46])).snd.fst))]), (.int .i64 ((parseL (Go.Lib.trimSuffix s.data.toList [46])).snd.snd))])) [] 0, .c (.v (.bool (decide (0 ≤ Go.Lib.indexByte s.data.toList 46)))) [] 0, .t] (by kernel_rfl) (cj c1 (cj c2 (cj c3 (cj c3 (cj c3 (cj c4 (cj c5 (cj c6 (cj c5 (cj c9 (cj (trims_does (s).data.toList (by assumption)) (cj (parse_does (oL (Go.Lib.trimSuffix s.data.toList [(46 : UInt8)])).data.toList (by assumption)) (cj (cont46_does (s).data.toList) (cj c13 cj0)))))))))))))))
              · exact osome h (sfin (keep := []) (by decide) [.f, .f, .f, .f, .f, .f, .f, .f, .c (.v (.string (oL (Go.Lib.trimSuffix s.data.toList [46])))) [] 0, .c (.v (.tuple #[(.agg #[(.int .i64 ((parseL (Go.Lib.trimSuffix s.data.toList [46])).fst)), (.int .i64 ((parseL (Go.Lib.trimSuffix s.data.toList [46])).snd.fst))]), (.int .i64 ((parseL (Go.Lib.trimSuffix s.data.toList [46])).snd.snd))])) [] 0, .c (.v (.bool (decide (0 ≤ Go.Lib.indexByte s.data.toList 46)))) [] 0, .f] (by kernel_rfl) (cj c1 (cj c2 (cj c3 (cj c3 (cj c3 (cj c4 (cj c5 (cj c6 (cj c5 (cj c9 (cj (trims_does (s).data.toList (by assumption)) (cj (parse_does (oL (Go.Lib.trimSuffix s.data.toList [(46 : UInt8)])).data.toList (by assumption)) (cj (cont46_does (s).data.toList) (cj c13 cj0)))))))))))))))
end Go.Proofs.YtpfignfgfhbblaaGreatDoorC
/- datum.read: what it comes to. -/
namespace Go.Proofs.YtpfignfgfhbblaaGreatDoorC
open Go.Proofs Go.Proofs.YtpfignfgfhbblaaGreatDoorSx Go.Lib
set_option maxRecDepth 100000
set_option linter.unusedVariables false
abbrev nulL : List UInt8 := [110, 117, 108, 108]
abbrev truL : List UInt8 := [116, 114, 117, 101]
abbrev falL : List UInt8 := [102, 97, 108, 115, 101]
/-- A value's kind, numbers, bytes; was it read? -/
def rdL (l : List UInt8) : Int × Int × Int × ByteArray × Bool :=
  bif l == [] then (0, 0, 0, bE, false)
  else bif l == nulL then (0, 0, 0, bE, true)
  else bif l == truL then (4, 1, 0, bE, true)
  else bif l == falL then (4, 0, 0, bE, true)
  else bif l.headD 0 == 39 then (3, 0, 0, oL (qsP (l.drop 1) []).1, (qsP (l.drop 1) []).2)
  else bif l.headD 0 == 60 then (5, (gpL l).1, (gpL l).2.1, bE, (gpL l).2.2 == 0)
  else bif !decide (0 ≤ Lib.indexByte l 46) then (1, (parseL (Lib.trimSuffix l [46])).1, (parseL (Lib.trimSuffix l [46])).2.1, bE, (parseL (Lib.trimSuffix l [46])).2.2 == 0)
  else (2, (parseL (Lib.trimSuffix l [46])).1, (parseL (Lib.trimSuffix l [46])).2.1, bE, (parseL (Lib.trimSuffix l [46])).2.2 == 0)
theorem head_at (c : UInt8) (r : List UInt8) : (oL (c :: r)).data.toList.getD (Int.toNat 0) 0 = c := by
  rw [oL_data]
  rfl
theorem b60 (c : UInt8) : (((c.toNat : Nat) : Int) == 60) = (c == 60) := by
  by_cases h : c = 60
  · subst h
    decide
  · rw [beq_eq_false_iff_ne.2 h]
    refine beq_eq_false_iff_ne.2 (fun e => h ?_)
    have e2 : c.toNat = 60 := by omega
    exact UInt8.toNat_inj.1 e2
theorem trimSuf_le (l p : List UInt8) : (Lib.trimSuffix l p).length ≤ l.length := by
  unfold Lib.trimSuffix
  split
  · rw [List.length_take]; omega
  · exact Nat.le_refl _
theorem reP_eq (l : List UInt8) (hl : l.length ≤ 140737488351232) : reP (oL l) = some (.v (.tuple #[vl (rdL l).1 (rdL l).2.1 (rdL l).2.2.1 (rdL l).2.2.2.1, .bool (rdL l).2.2.2.2]), [], 0) := by
  have e0 : (ByteArray.mk #[]).toList = [] := oL_toList []
  have e1 : (ByteArray.mk #[110, 117, 108, 108]).toList = nulL := oL_toList nulL
  have e2 : (ByteArray.mk #[116, 114, 117, 101]).toList = truL := oL_toList truL
  have e3 : (ByteArray.mk #[102, 97, 108, 115, 101]).toList = falL := oL_toList falL
  unfold reP rdL
  rw [oL_toList, e0, e1, e2, e3]
  cases c1 : (l == []) with
  | true => rfl
  | false =>
  cases c2 : (l == nulL) with
  | true => rfl
  | false =>
  cases c3 : (l == truL) with
  | true =>
    have e := eq_of_beq c3
    subst e
    rfl
  | false =>
  cases c4 : (l == falL) with
  | true =>
    have e := eq_of_beq c4
    subst e
    rfl
  | false =>
  cases l with
  | nil => cases c1
  | cons c r =>
  have hz : ((oL (c :: r)).size : Int) = r.length + 1 := by rw [oL_size]; simp
  simp only [List.length_cons] at hl
  refine bf rfl (bf rfl (bf rfl (bf rfl (gp (by omega) ?_))))
  rw [head_at, b39, b60]
  show _ = some ((SV.v (.tuple #[vl (bif c == 39 then _ else _ : Int × Int × Int × ByteArray × Bool).1 _ _ _, _])), _, _)
  cases c5 : (c == 39) with
  | true =>
    have e5 : ((c :: r).headD 0 == 39) = true := c5
    refine bt rfl (gp (by omega) (gp (by omega) ?_))
    rw [e5, oL_data]
    rfl
  | false =>
  have e5 : ((c :: r).headD 0 == 39) = false := c5
  rw [e5]
  cases c6 : (c == 60) with
  | true =>
    have e6 : ((c :: r).headD 0 == 60) = true := c6
    refine bf rfl (bt rfl (gp (by rw [oL_data, List.length_cons]; omega) ?_))
    rw [e6, oL_data]
    rfl
  | false =>
  have e6 : ((c :: r).headD 0 == 60) = false := c6
  rw [e6]
  have ht := trimSuf_le (c :: r) [46]
  simp only [List.length_cons] at ht
  refine bf rfl (bf rfl (gp (by rw [oL_data, List.length_cons]; omega) (gp (by rw [oL_data, oL_data]; omega) ?_)))
  rw [oL_data]
  cases c7 : (!decide (0 ≤ Lib.indexByte (c :: r) 46)) <;> rfl
theorem read_does (l : List UInt8) (hl : l.length ≤ 140737488351232) : Does cE 45 [] 0 [.v (st (oL l))] (.v (.tuple #[vl (rdL l).1 (rdL l).2.1 (rdL l).2.2.1 (rdL l).2.2.2.1, .bool (rdL l).2.2.2.2])) [] 0 :=
  Does.of (reP_does (oL l) (r := (_, _, _)) (reP_eq l hl)) rfl
end Go.Proofs.YtpfignfgfhbblaaGreatDoorC
/- datum.Parse, walked. Printed by a program (wip/tools); Lean checks each. -/
namespace Go.Proofs.YtpfignfgfhbblaaGreatDoorC
open Go.Proofs Go.Proofs.YtpfignfgfhbblaaGreatDoorSx Go.Lib
set_option maxRecDepth 100000
set_option maxHeartbeats 4000000
set_option linter.unusedVariables false
noncomputable def paP (s : ByteArray) : Option Rs :=
  grd ((s).data.toList.length ≤ 140737488351232) (bif ((rdL s.data.toList).snd.snd.snd.snd) then grd (((rdL s.data.toList).snd.snd.snd.fst).size ≤ 140737488351232) (bif (okV (rdL s.data.toList).fst (rdL s.data.toList).snd.fst (rdL s.data.toList).snd.snd.fst (rdL s.data.toList).snd.snd.snd.fst) then grd (I64 ((rdL s.data.toList).snd.fst)) (grd (I64 ((rdL s.data.toList).snd.snd.fst)) (bif ((oL (prV (rdL s.data.toList).fst (rdL s.data.toList).snd.fst (rdL s.data.toList).snd.snd.fst (rdL s.data.toList).snd.snd.snd.fst)).toList == s.toList) then some ((.v (.tuple #[(.agg #[(.int .i64 ((rdL s.data.toList).fst)), (.int .i64 ((rdL s.data.toList).snd.fst)), (.int .i64 ((rdL s.data.toList).snd.snd.fst)), (.string ((rdL s.data.toList).snd.snd.snd.fst))]), (.int .i64 ((0 : Int)))]) : SV), ([] : Tab cE), 0)
              else some ((.v (.tuple #[(.agg #[(.int .i64 ((0 : Int))), (.int .i64 ((0 : Int))), (.int .i64 ((0 : Int))), (.string ((ByteArray.mk #[])))]), (.int .i64 ((21 : Int)))]) : SV), ([] : Tab cE), 0)))
        else some ((.v (.tuple #[(.agg #[(.int .i64 ((0 : Int))), (.int .i64 ((0 : Int))), (.int .i64 ((0 : Int))), (.string ((ByteArray.mk #[])))]), (.int .i64 ((21 : Int)))]) : SV), ([] : Tab cE), 0))
    else some ((.v (.tuple #[(.agg #[(.int .i64 ((0 : Int))), (.int .i64 ((0 : Int))), (.int .i64 ((0 : Int))), (.string ((ByteArray.mk #[])))]), (.int .i64 ((21 : Int)))]) : SV), ([] : Tab cE), 0))
theorem paP_does (s : ByteArray) {r : Rs} (h : paP s = some r) : Does cE 13 [] 0 [.v (st s)] r.1 r.2.1 r.2.2 := by
  unfold paP at h
  refine does_of_fin (fn := Tryz.f13) (c := bd Tryz.f13) rfl (by kernel_rfl) rfl ?_
  refine ogrd h (fun c1 h => ?_)
  refine obif h (fun c2 h => ?_) (fun c2 h => ?_)
  · refine ogrd h (fun c3 h => ?_)
    refine obif h (fun c4 h => ?_) (fun c4 h => ?_)
    · refine ogrd h (fun c5 h => ?_)
      refine ogrd h (fun c6 h => ?_)
      refine obif h (fun c7 h => ?_) (fun c7 h => ?_)
      · exact osome h (sfin (keep := []) (by decide) [.c (.v (.tuple #[(.agg #[(.int .i64 ((rdL s.data.toList).fst)), (.int .i64 ((rdL s.data.toList).snd.fst)), (.int .i64 ((rdL s.data.toList).snd.snd.fst)), (.string ((rdL s.data.toList).snd.snd.snd.fst))]), (.bool ((rdL s.data.toList).snd.snd.snd.snd))])) [] 0, .t, .t, .c (.v (.bool (okV (rdL s.data.toList).fst (rdL s.data.toList).snd.fst (rdL s.data.toList).snd.snd.fst (rdL s.data.toList).snd.snd.snd.fst))) [] 0, .t, .t, .t, .c (.v (.string (oL (prV (rdL s.data.toList).fst (rdL s.data.toList).snd.fst (rdL s.data.toList).snd.snd.fst (rdL s.data.toList).snd.snd.snd.fst)))) [] 0, .t, .t, .t, .t] (by kernel_rfl) (cj (read_does (s).data.toList (by assumption)) (cj c2 (cj c2 (cj (right_does ((rdL s.data.toList).fst) ((rdL s.data.toList).snd.fst) ((rdL s.data.toList).snd.snd.fst) ((rdL s.data.toList).snd.snd.snd.fst) (by first | assumption | decide)) (cj c2 (cj c4 (cj c4 (cj (vprint_does ((rdL s.data.toList).fst) ((rdL s.data.toList).snd.fst) ((rdL s.data.toList).snd.snd.fst) ((rdL s.data.toList).snd.snd.snd.fst) (by assumption) (by assumption) (by assumption)) (cj c4 (cj c4 (cj c4 (cj c7 cj0)))))))))))))
      · exact osome h (sfin (keep := []) (by decide) [.c (.v (.tuple #[(.agg #[(.int .i64 ((rdL s.data.toList).fst)), (.int .i64 ((rdL s.data.toList).snd.fst)), (.int .i64 ((rdL s.data.toList).snd.snd.fst)), (.string ((rdL s.data.toList).snd.snd.snd.fst))]), (.bool ((rdL s.data.toList).snd.snd.snd.snd))])) [] 0, .t, .t, .c (.v (.bool (okV (rdL s.data.toList).fst (rdL s.data.toList).snd.fst (rdL s.data.toList).snd.snd.fst (rdL s.data.toList).snd.snd.snd.fst))) [] 0, .t, .t, .t, .c (.v (.string (oL (prV (rdL s.data.toList).fst (rdL s.data.toList).snd.fst (rdL s.data.toList).snd.snd.fst (rdL s.data.toList).snd.snd.snd.fst)))) [] 0, .t, .t, .t, .f] (by kernel_rfl) (cj (read_does (s).data.toList (by assumption)) (cj c2 (cj c2 (cj (right_does ((rdL s.data.toList).fst) ((rdL s.data.toList).snd.fst) ((rdL s.data.toList).snd.snd.fst) ((rdL s.data.toList).snd.snd.snd.fst) (by first | assumption | decide)) (cj c2 (cj c4 (cj c4 (cj (vprint_does ((rdL s.data.toList).fst) ((rdL s.data.toList).snd.fst) ((rdL s.data.toList).snd.snd.fst) ((rdL s.data.toList).snd.snd.snd.fst) (by assumption) (by assumption) (by assumption)) (cj c4 (cj c4 (cj c4 (cj c7 cj0)))))))))))))
    · exact osome h (sfin (keep := []) (by decide) [.c (.v (.tuple #[(.agg #[(.int .i64 ((rdL s.data.toList).fst)), (.int .i64 ((rdL s.data.toList).snd.fst)), (.int .i64 ((rdL s.data.toList).snd.snd.fst)), (.string ((rdL s.data.toList).snd.snd.snd.fst))]), (.bool ((rdL s.data.toList).snd.snd.snd.snd))])) [] 0, .t, .t, .c (.v (.bool (okV (rdL s.data.toList).fst (rdL s.data.toList).snd.fst (rdL s.data.toList).snd.snd.fst (rdL s.data.toList).snd.snd.snd.fst))) [] 0, .t, .f, .f, .f, .f, .f, .l] (by kernel_rfl) (cj (read_does (s).data.toList (by assumption)) (cj c2 (cj c2 (cj (right_does ((rdL s.data.toList).fst) ((rdL s.data.toList).snd.fst) ((rdL s.data.toList).snd.snd.fst) ((rdL s.data.toList).snd.snd.snd.fst) (by first | assumption | decide)) (cj c2 (cj c4 (cj c4 (cj c4 (cj c4 (cj c4 cj0)))))))))))
  · exact osome h (sfin (keep := []) (by decide) [.c (.v (.tuple #[(.agg #[(.int .i64 ((rdL s.data.toList).fst)), (.int .i64 ((rdL s.data.toList).snd.fst)), (.int .i64 ((rdL s.data.toList).snd.snd.fst)), (.string ((rdL s.data.toList).snd.snd.snd.fst))]), (.bool ((rdL s.data.toList).snd.snd.snd.snd))])) [] 0, .f, .f, .f, .l, .l, .l, .l, .l, .l] (by kernel_rfl) (cj (read_does (s).data.toList (by assumption)) (cj c2 (cj c2 (cj c2 cj0)))))
end Go.Proofs.YtpfignfgfhbblaaGreatDoorC
/- What Print wrote is read back by datum.read: plain law. What datum.Parse comes to. -/
namespace Go.Proofs.YtpfignfgfhbblaaGreatDoorC
open Go.Proofs Go.Proofs.YtpfignfgfhbblaaGreatDoorSx Go.Lib
set_option maxRecDepth 100000
set_option linter.unusedVariables false
theorem parseL_rng (s : List UInt8) : I64 (parseL s).1 ∧ 0 ≤ (parseL s).2.1 ∧ (parseL s).2.1 ≤ 6 := by
  unfold parseL parseB
  generalize (spD (bodyL s)).1 = w
  generalize (spD (bodyL s)).2 = p
  generalize valD 0 (w ++ p.getD []) = v
  split
  · exact ⟨⟨by decide, by decide⟩, by decide, by decide⟩
  · rename_i h
    have h6 : (p.getD []).length ≤ 6 := by
      apply Nat.le_of_not_lt
      exact fun h' => h (.inr (.inr (.inl h')))
    split
    · exact ⟨⟨by decide, by decide⟩, by decide, by decide⟩
    · split
      · split
        · refine ⟨⟨?_, ?_⟩, ?_, ?_⟩ <;> (dsimp only; omega)
        · exact ⟨⟨by decide, by decide⟩, by decide, by decide⟩
      · split
        · refine ⟨⟨?_, ?_⟩, ?_, ?_⟩ <;> (dsimp only; omega)
        · exact ⟨⟨by decide, by decide⟩, by decide, by decide⟩
theorem gpL_rng (l : List UInt8) : I64 (gpL l).1 ∧ I64 (gpL l).2.1 := by
  rcases gp_some l with e | ⟨x, y, h, _, e⟩
  · rw [e]
    exact ⟨⟨by decide, by decide⟩, by decide, by decide⟩
  · rw [e]
    have hb := rt_b (x := x) (y := y) (by rw [h]; rfl)
    refine ⟨⟨?_, ?_⟩, ?_, ?_⟩ <;> (dsimp only; omega)
theorem qsP_len : ∀ (n : Nat) (l : List UInt8), l.length ≤ n → ∀ a : List UInt8, (qsP l a).1.length ≤ a.length + l.length := by
  intro n
  induction n with
  | zero =>
    intro l hl a
    have e := List.eq_nil_of_length_eq_zero (Nat.le_zero.1 hl)
    subst e
    simp [qsP]
  | succ n ih =>
    intro l hl a
    cases l with
    | nil => simp [qsP]
    | cons c r =>
      simp only [List.length_cons] at hl ⊢
      cases hc : (c == 39) with
      | false =>
        rw [qsP_no r a hc]
        have := ih r (by omega) (a ++ [c])
        simp at this
        omega
      | true =>
        have ec : c = 39 := eq_of_beq hc
        subst ec
        cases r with
        | nil =>
          have e : qsP [39] a = (a, true) := by rw [qsP]; rfl
          rw [e]
          simp
        | cons d r =>
          simp only [List.length_cons] at hl ⊢
          cases hd : (d == 39) with
          | true =>
            have ed : d = 39 := eq_of_beq hd
            subst ed
            have e : qsP (39 :: 39 :: r) a = qsP r (a ++ [39]) := by rw [qsP]; rfl
            rw [e]
            have := ih r (by omega) (a ++ [39])
            simp at this
            omega
          | false =>
            have e : qsP (39 :: d :: r) a = (a, false) := by
              rw [qsP.eq_def]
              show (bif d == 39 then _ else _) = _
              rw [hd]
              rfl
            rw [e]
            simp only
            omega
theorem qsP_dbl : ∀ (l a : List UInt8), qsP (dbl l ++ [39]) a = (a ++ l, true)
  | [], a => by
    rw [List.append_nil]
    show qsP [39] a = _
    rw [qsP]
    rfl
  | c :: l, a => by
    cases hc : (c == 39) with
    | true =>
      have ec : c = 39 := eq_of_beq hc
      subst ec
      have e : dbl (39 :: l) = 39 :: 39 :: dbl l := rfl
      rw [e]
      have e2 : qsP (39 :: 39 :: (dbl l ++ [39])) a = qsP (dbl l ++ [39]) (a ++ [39]) := by rw [qsP]; rfl
      show qsP (39 :: 39 :: (dbl l ++ [39])) a = _
      rw [e2, qsP_dbl l (a ++ [39])]
      simp
    | false =>
      have e : dbl (c :: l) = c :: dbl l := by
        show (bif c == 39 then _ else _) = _
        rw [hc]
        rfl
      rw [e]
      show qsP (c :: (dbl l ++ [39])) a = _
      rw [qsP_no _ _ hc, qsP_dbl l (a ++ [c])]
      simp
theorem index_no {l : List UInt8} {c : UInt8} (h : c ∉ l) : Lib.indexByte l c = -1 := by
  have hg := Lib.indexByte_ge l c
  rcases Int.lt_or_le (Lib.indexByte l c) 0 with h1 | h1
  · omega
  · obtain ⟨o, ho⟩ : ∃ o : Nat, Lib.indexByte l c = o := ⟨(Lib.indexByte l c).toNat, by omega⟩
    exact absurd (List.mem_of_getElem? (Lib.indexByte_some ho).1) h
theorem index_yes {l : List UInt8} {c : UInt8} (h : c ∈ l) : 0 ≤ Lib.indexByte l c := by
  have hg := Lib.indexByte_ge l c
  rcases Int.lt_or_le (Lib.indexByte l c) 0 with h1 | h1
  · have e : Lib.indexByte l c = -1 := by omega
    obtain ⟨k, hk, hk2⟩ := List.getElem_of_mem h
    exact absurd (by rw [List.getElem?_eq_getElem hk, hk2]) (Lib.indexByte_none e k)
  · exact h1
theorem suf_no {r : List UInt8} {c d : UInt8} (h : c ≠ d) : Lib.trimSuffix (r ++ [c]) [d] = r ++ [c] := by
  unfold Lib.trimSuffix
  refine if_neg (fun e => h ?_)
  unfold Lib.hasSuffix at e
  rw [List.isSuffixOf_iff_suffix] at e
  obtain ⟨t, ht⟩ := e
  have := congrArg List.getLast? ht
  simp at this
  exact this.symm
theorem suf_yes (r : List UInt8) (d : UInt8) : Lib.trimSuffix (r ++ [d]) [d] = r := by
  unfold Lib.trimSuffix
  rw [if_pos]
  · simp
  · unfold Lib.hasSuffix
    rw [List.isSuffixOf_iff_suffix]
    exact ⟨r, rfl⟩
/-- A text that begins as a number's does. -/
theorem rdL_num {c : UInt8} {r : List UInt8} (hc : c = 45 ∨ dgC c) : rdL (c :: r) =
    bif !decide (0 ≤ Lib.indexByte (c :: r) 46) then (1, (parseL (Lib.trimSuffix (c :: r) [46])).1, (parseL (Lib.trimSuffix (c :: r) [46])).2.1, bE, (parseL (Lib.trimSuffix (c :: r) [46])).2.2 == 0)
    else (2, (parseL (Lib.trimSuffix (c :: r) [46])).1, (parseL (Lib.trimSuffix (c :: r) [46])).2.1, bE, (parseL (Lib.trimSuffix (c :: r) [46])).2.2 == 0) := by
  have ne : ∀ (d : UInt8) (q : List UInt8), d ≠ 45 → ¬ dgC d → ((c :: r) == d :: q) = false := by
    intro d q h1 h2
    refine beq_eq_false_iff_ne.2 (fun e => ?_)
    injection e with e1 _
    subst e1
    exact hc.elim h1 h2
  have nh : ∀ d : UInt8, d ≠ 45 → ¬ dgC d → ((c :: r).headD 0 == d) = false := by
    intro d h1 h2
    refine beq_eq_false_iff_ne.2 (fun e => ?_)
    have e1 : c = d := e
    subst e1
    exact hc.elim h1 h2
  unfold rdL
  rw [ne 110 _ (by decide) (by decide), ne 116 _ (by decide) (by decide), ne 102 _ (by decide) (by decide), nh 39 (by decide) (by decide), nh 60 (by decide) (by decide)]
  rfl
theorem eqE_of {s : ByteArray} (h : eqE s = true) : s = bE := by
  unfold eqE at h
  have e : s.toList = [] := by
    have := eq_of_beq h
    rw [this]
    exact oL_toList []
  rw [ByteArray.toList_eq] at e
  rw [oL_of s, e]
  rfl
theorem okk {k n m : Int} {s : ByteArray} (h : okV k n m s = true) : k = 0 ∨ k = 1 ∨ k = 2 ∨ k = 3 ∨ k = 4 ∨ k = 5 := by
  by_cases h0 : k = 0
  · exact .inl h0
  by_cases h1 : k = 1
  · exact .inr (.inl h1)
  by_cases h2 : k = 2
  · exact .inr (.inr (.inl h2))
  by_cases h3 : k = 3
  · exact .inr (.inr (.inr (.inl h3)))
  by_cases h4 : k = 4
  · exact .inr (.inr (.inr (.inr (.inl h4))))
  by_cases h5 : k = 5
  · exact .inr (.inr (.inr (.inr (.inr h5))))
  unfold okV at h
  rw [beq_eq_false_iff_ne.mpr h0, beq_eq_false_iff_ne.mpr h1, beq_eq_false_iff_ne.mpr h2, beq_eq_false_iff_ne.mpr h3, beq_eq_false_iff_ne.mpr h4, beq_eq_false_iff_ne.mpr h5] at h
  cases (show false = true from h)
theorem okn {n m : Int} {s : ByteArray} (h : okV 0 n m s = true) : n = 0 ∧ m = 0 ∧ s = bE := by
  change (n == 0 && m == 0 && eqE s) = true at h
  simp only [Bool.and_eq_true, beq_iff_eq] at h
  exact ⟨h.1.1, h.1.2, eqE_of h.2⟩
theorem rd_back {k n m : Int} {s : ByteArray} (h : okV k n m s = true) (hn : I64 n) : rdL (prV k n m s) = (k, n, m, s, true) := by
  have hp : prV k n m s = (bif k == 1 then printL n m
  else bif k == 2 then (bif m == 0 then printL n m ++ [46] else printL n m)
  else bif k == 3 then 39 :: (dbl s.data.toList ++ [39])
  else bif k == 4 then (bif n == 1 then [116, 114, 117, 101] else [102, 97, 108, 115, 101])
  else bif k == 5 then prG n m
  else [110, 117, 108, 108]) := by
    unfold prV
    rw [h]
    rfl
  rw [hp]
  rcases okk h with rfl | rfl | rfl | rfl | rfl | rfl
  · obtain ⟨rfl, rfl, rfl⟩ := okn h
    rfl
  · have h' : (m == 0 && eqE s) = true := h
    simp only [Bool.and_eq_true, beq_iff_eq] at h'
    obtain ⟨rfl, hs⟩ := h'
    have es := eqE_of hs
    subst es
    show rdL (printL n 0) = _
    obtain ⟨c, r, e, hc⟩ := pl_head (u := n) (sc := 0) ⟨by decide, by decide⟩
    obtain ⟨r2, c2, e2, hc2⟩ := pl_last (u := n) (sc := 0) ⟨by decide, by decide⟩
    have ht : Lib.trimSuffix (printL n 0) [46] = printL n 0 := by
      rw [e2]
      refine suf_no (fun e => ?_)
      rw [e] at hc2
      exact absurd hc2 (by decide)
    have hpp := parse_print n 0 (by decide) (by decide) hn.1 (by have := hn.2; omega)
    have hi := index_no (pl_nodot (u := n))
    have hr := rdL_num (r := r) hc
    rw [← e, ht, hpp, hi] at hr
    exact hr
  · have h' : (decide (0 ≤ m) && decide (m ≤ 6) && eqE s) = true := h
    simp only [Bool.and_eq_true, decide_eq_true_eq] at h'
    obtain ⟨⟨h0, h6⟩, hs⟩ := h'
    have es := eqE_of hs
    subst es
    show rdL (bif m == 0 then printL n m ++ [46] else printL n m) = _
    obtain ⟨c, r, e, hc⟩ := pl_head (u := n) (sc := m) ⟨h0, h6⟩
    have hpp := parse_print n m h0 h6 hn.1 (by have := hn.2; omega)
    by_cases hm : m = 0
    · subst hm
      show rdL (printL n 0 ++ [46]) = _
      have hi : 0 ≤ Lib.indexByte (printL n 0 ++ [46]) 46 := index_yes (by simp)
      have hr := rdL_num (r := r ++ [46]) hc
      rw [← List.cons_append, ← e, suf_yes, hpp, decide_eq_true hi] at hr
      exact hr
    · have e1 : (m == 0) = false := beq_eq_false_iff_ne.2 hm
      rw [e1]
      show rdL (printL n m) = _
      obtain ⟨r2, c2, e2, hc2⟩ := pl_last (u := n) (sc := m) ⟨h0, h6⟩
      have ht : Lib.trimSuffix (printL n m) [46] = printL n m := by
        rw [e2]
        refine suf_no (fun e => ?_)
        rw [e] at hc2
        exact absurd hc2 (by decide)
      have hi : 0 ≤ Lib.indexByte (printL n m) 46 := index_yes (pl_dot (u := n) ⟨by omega, h6⟩)
      have hr := rdL_num (r := r) hc
      rw [← e, ht, hpp, decide_eq_true hi] at hr
      exact hr
  · have h' : (n == 0 && m == 0 && decide ((s.size : Int) ≤ 256) && validD s.data.toList) = true := h
    simp only [Bool.and_eq_true, beq_iff_eq] at h'
    obtain ⟨⟨⟨rfl, rfl⟩, _⟩, _⟩ := h'
    show rdL (39 :: (dbl s.data.toList ++ [39])) = _
    have ne : ∀ (d : UInt8) (q : List UInt8), d ≠ 39 → ((39 :: (dbl s.data.toList ++ [39])) == d :: q) = false := by
      intro d q h1
      refine beq_eq_false_iff_ne.2 (fun e => ?_)
      injection e with e1 _
      exact h1 e1.symm
    unfold rdL
    rw [ne 110 _ (by decide), ne 116 _ (by decide), ne 102 _ (by decide)]
    show ((3 : Int), (0 : Int), (0 : Int), oL (qsP (dbl s.data.toList ++ [39]) []).1, (qsP (dbl s.data.toList ++ [39]) []).2) = _
    rw [qsP_dbl, List.nil_append, ← oL_of]
  · have h' : ((n == 0 || n == 1) && m == 0 && eqE s) = true := h
    simp only [Bool.and_eq_true, Bool.or_eq_true, beq_iff_eq] at h'
    obtain ⟨⟨hn', rfl⟩, hs⟩ := h'
    have es := eqE_of hs
    subst es
    rcases hn' with rfl | rfl <;> rfl
  · have h' : (rt n m && eqE s) = true := h
    simp only [Bool.and_eq_true] at h'
    obtain ⟨hr, hs⟩ := h'
    have es := eqE_of hs
    subst es
    show rdL (prG n m) = _
    have hb := gp_back hr
    have ep : prG n m = 60 :: ((Lib.itoa n ++ 44 :: Lib.itoa m) ++ [62]) := by
      unfold prG
      rw [hr]
      simp
    rw [ep] at hb ⊢
    generalize ((Lib.itoa n ++ 44 :: Lib.itoa m) ++ [62]) = q at *
    have ne : ∀ (d : UInt8) (r : List UInt8), d ≠ 60 → ((60 :: q) == d :: r) = false := by
      intro d r h1
      refine beq_eq_false_iff_ne.2 (fun e => ?_)
      injection e with e1 _
      exact h1 e1.symm
    unfold rdL
    rw [ne 110 _ (by decide), ne 116 _ (by decide), ne 102 _ (by decide), hb]
    rfl
end Go.Proofs.YtpfignfgfhbblaaGreatDoorC
