import Derived.Test.YtnchjdhepakokaaGreatDoorOs09
import Derived.Shelf.Small.Strs
import Derived.Ground.NamesProg
import Derived.KernelRfl
import Derived.Test.YtnchjdhepakokaaGreatDoorProg
import Derived.Test.YtnchjdhepakokaaGreatDoorOs07
import Derived.Test.YtnchjdhepakokaaGreatDoorOs06
/- Right, Truth and Same of program and reference, told by one word each. -/
namespace Go.Proofs.YtnchjdhepakokaaGreatDoorC
open Go.Proofs Go.Proofs.YtnchjdhepakokaaGreatDoorSx Go.Lib
set_option maxRecDepth 100000
set_option linter.unusedVariables false
set_option linter.unusedSimpArgs false
theorem cond_bool (c a b : Bool) : (bif c then Value.bool a else Value.bool b) = Value.bool (bif c then a else b) := by cases c <;> rfl
def eqE (s : ByteArray) : Bool := s.toList == (ByteArray.mk #[]).toList
theorem bytes_beq (s t : ByteArray) : (s == t) = (s.toList == t.toList) := by
  rw [Go.ByteArray.toList_eq, Go.ByteArray.toList_eq]
  change (s.data == t.data) = _
  rw [Bool.eq_iff_iff]
  simp
theorem beq_bE (s : ByteArray) : (s == ByteArray.mk #[]) = eqE s := bytes_beq s _
theorem bytes_refl (s : ByteArray) : (s == s) = true := by rw [bytes_beq]; simp
def okV (k n m : Int) (s : ByteArray) : Bool :=
  bif (k == 0) then (n == 0 && m == 0 && eqE s)
  else bif (k == 1) then (m == 0 && eqE s)
  else bif (k == 2) then (decide (0 ≤ m) && decide (m ≤ 6) && eqE s)
  else bif (k == 3) then (n == 0 && m == 0 && decide ((s.size : Int) ≤ 256) && validD s.data.toList)
  else bif (k == 4) then ((n == 0 || n == 1) && m == 0 && eqE s)
  else bif (k == 5) then (rt n m && eqE s)
  else false
theorem rRt_said (k n m : Int) (s : ByteArray) : rRt_v k n m s = .bool (okV k n m s) := by
  unfold rRt_v okV
  simp only [cond_bool]
  change _ = Value.bool _
  congr 1
  change (bif k == 0 then bif n == 0 then bif m == 0 then eqE s else false else false else _) = _
  · by_cases h0 : k = 0
    · subst h0; cases (n == 0) <;> cases (m == 0) <;> rfl
    · by_cases h1 : k = 1
      · subst h1; change (bif m == 0 then eqE s else false) = (m == 0 && eqE s); cases (m == 0) <;> rfl
      · by_cases h2 : k = 2
        · subst h2
          change (bif decide (m ≥ 0) then bif decide (m ≤ 6) then eqE s else false else false) = (decide (0 ≤ m) && decide (m ≤ 6) && eqE s)
          change (bif decide (0 ≤ m) then bif decide (m ≤ 6) then eqE s else false else false) = (decide (0 ≤ m) && decide (m ≤ 6) && eqE s)
          cases decide (0 ≤ m) <;> cases decide (m ≤ 6) <;> rfl
        · by_cases h3 : k = 3
          · subst h3
            change (bif n == 0 then bif m == 0 then bif decide ((s.size : Int) ≤ 256) then validD s.data.toList else false else false else false) = _
            cases (n == 0) <;> cases (m == 0) <;> cases decide ((s.size : Int) ≤ 256) <;> rfl
          · by_cases h4 : k = 4
            · subst h4
              change (bif n == 0 then bif m == 0 then eqE s else false else bif n == 1 then bif m == 0 then eqE s else false else false) = ((n == 0 || n == 1) && m == 0 && eqE s)
              cases (n == 0) <;> cases (n == 1) <;> cases (m == 0) <;> rfl
            · by_cases h5 : k = 5
              · subst h5
                change (bif rt n m then eqE s else false) = (rt n m && eqE s)
                cases rt n m <;> rfl
              · simp [beq_eq_false_iff_ne.mpr h0, beq_eq_false_iff_ne.mpr h1, beq_eq_false_iff_ne.mpr h2, beq_eq_false_iff_ne.mpr h3, beq_eq_false_iff_ne.mpr h4, beq_eq_false_iff_ne.mpr h5]
theorem pRt_said (k n m : Int) (s : ByteArray) : pRt_v k n m s = .bool (okV k n m s) := by
  unfold pRt_v okV
  simp only [cond_bool, beq_bE]
  congr 1
  by_cases h0 : k = 0
  · subst h0
    change (true && (n == 0 && (m == 0 && (eqE s && true)))) = (n == 0 && m == 0 && eqE s)
    cases (n == 0) <;> cases (m == 0) <;> cases eqE s <;> rfl
  · by_cases h1 : k = 1
    · subst h1
      change (true && (n == n && (m == 0 && (eqE s && true)))) = (m == 0 && eqE s)
      rw [beq_self_eq_true]
      cases (m == 0) <;> cases eqE s <;> rfl
    · by_cases h2 : k = 2
      · subst h2
        change (bif eqE s then decide (0 ≤ m ∧ m ≤ 6) else false) = (decide (0 ≤ m) && decide (m ≤ 6) && eqE s)
        rw [← Bool.decide_and]
        cases eqE s <;> cases decide (0 ≤ m ∧ m ≤ 6) <;> rfl
      · by_cases h3 : k = 3
        · subst h3
          change (bif (true && (n == 0 && (m == 0 && (s == s && true)))) then bif decide ((s.size : Int) ≤ 256) then validD s.data.toList else false else false) = (n == 0 && m == 0 && decide ((s.size : Int) ≤ 256) && validD s.data.toList)
          rw [bytes_refl]
          cases (n == 0) <;> cases (m == 0) <;> cases decide ((s.size : Int) ≤ 256) <;> rfl
        · by_cases h4 : k = 4
          · subst h4
            have e0 : ofK 0 = 4 := rfl
            have e1 : ofN 0 = 0 := rfl
            have e2 : ofK 1 = 4 := rfl
            have e3 : ofN 1 = 1 := rfl
            simp only [e0, e1, e2, e3, show (s == bE) = eqE s from beq_bE s]
            change (bif (true && (n == 0 && (m == 0 && (eqE s && true)))) then true else (true && (n == 1 && (m == 0 && (eqE s && true))))) = ((n == 0 || n == 1) && m == 0 && eqE s)
            cases (n == 0) <;> cases (n == 1) <;> cases (m == 0) <;> cases eqE s <;> rfl
          · by_cases h5 : k = 5
            · subst h5
              change (bif eqE s then rt n m else false) = (rt n m && eqE s)
              cases rt n m <;> cases eqE s <;> rfl
            · simp [beq_eq_false_iff_ne.mpr h0, beq_eq_false_iff_ne.mpr h1, beq_eq_false_iff_ne.mpr h2, beq_eq_false_iff_ne.mpr h3, beq_eq_false_iff_ne.mpr h4, beq_eq_false_iff_ne.mpr h5]
theorem right_does (k n m : Int) (s : ByteArray) (hs : s.size ≤ 140737488351232) : Does cE 49 [] 0 [.v (vl k n m s)] (.v (.bool (okV k n m s))) [] 0 := by
  rw [← pRt_said]
  exact pRt_v_does k n m s hs
theorem right4_does (k n m : Int) (s : ByteArray) (hs : s.size ≤ 140737488351232) : Does cE 27 [] 0 [.v (vl k n m s)] (.v (.bool (okV k n m s))) [] 0 := by
  rw [← rRt_said]
  exact rRt_v_does k n m s hs
end Go.Proofs.YtnchjdhepakokaaGreatDoorC
namespace Go.Proofs.YtnchjdhepakokaaGreatDoorC
open Go.Proofs Go.Proofs.YtnchjdhepakokaaGreatDoorSx Go.Lib
set_option maxRecDepth 100000
set_option linter.unusedVariables false
set_option linter.unusedSimpArgs false
def pTr_v (k n m : Int) (s : ByteArray) : Value :=
  bif (k == 0 && (n == 0 && (m == 0 && (s == (ByteArray.mk #[]) && true)))) then (.tuple #[(.int .i64 (2)), (.bool (true))])
  else bif (k == 4) then bif (okV k n m s) then (.tuple #[(.int .i64 (n)), (.bool (true))])
    else (.tuple #[(.int .i64 (2)), (.bool (false))])
  else (.tuple #[(.int .i64 (2)), (.bool (false))])
theorem pTr_v_does (k n m : Int) (s : ByteArray) (hs : s.size ≤ 140737488351232) : Does cE 82 [] 0 [.v (vl k n m s)] (.v (pTr_v k n m s)) [] 0 := by
  unfold pTr_v
  refine dbif (fun c1 => ?_) (fun c1 => ?_)
  · exact pTr_1 (k := k) (n := n) (m := m) (s := s) (h0 := c1)
  · refine dbif (fun c2 => ?_) (fun c2 => ?_)
    · refine dbif (fun c3 => ?_) (fun c3 => ?_)
      · exact pTr_2 (k := k) (n := n) (m := m) (s := s) (h0 := c1) (h1 := c2) (h2 := right_does k n m s hs) (h3 := c3)
      · exact pTr_3 (k := k) (n := n) (m := m) (s := s) (h0 := c1) (h1 := c2) (h2 := right_does k n m s hs) (h3 := c3)
    · exact pTr_4 (k := k) (n := n) (m := m) (s := s) (h0 := c1) (h1 := c2)
def rTr_v (k n m : Int) (s : ByteArray) : Value :=
  bif (!(okV k n m s)) then (.tuple #[(.int .i64 (2)), (.bool (false))])
  else bif (k != 0) then bif (k != 4) then (.tuple #[(.int .i64 (2)), (.bool (false))])
    else bif (k == 0) then (.tuple #[(.int .i64 (2)), (.bool (true))])
    else (.tuple #[(.int .i64 (n)), (.bool (true))])
  else bif (k == 0) then (.tuple #[(.int .i64 (2)), (.bool (true))])
  else (.tuple #[(.int .i64 (n)), (.bool (true))])
theorem rTr_v_does (k n m : Int) (s : ByteArray) (hs : s.size ≤ 140737488351232) : Does cE 86 [] 0 [.v (vl k n m s)] (.v (rTr_v k n m s)) [] 0 := by
  unfold rTr_v
  refine dbif (fun c1 => ?_) (fun c1 => ?_)
  · exact rTr_1 (k := k) (n := n) (m := m) (s := s) (h0 := right4_does k n m s hs) (h1 := c1)
  · refine dbif (fun c2 => ?_) (fun c2 => ?_)
    · refine dbif (fun c3 => ?_) (fun c3 => ?_)
      · exact rTr_2 (k := k) (n := n) (m := m) (s := s) (h0 := right4_does k n m s hs) (h1 := c1) (h2 := c2) (h3 := c3)
      · refine dbif (fun c4 => ?_) (fun c4 => ?_)
        · exact rTr_3 (k := k) (n := n) (m := m) (s := s) (h0 := right4_does k n m s hs) (h1 := c1) (h2 := c2) (h3 := c3) (h4 := c4)
        · exact rTr_4 (k := k) (n := n) (m := m) (s := s) (h0 := right4_does k n m s hs) (h1 := c1) (h2 := c2) (h3 := c3) (h4 := c4)
    · refine dbif (fun c5 => ?_) (fun c5 => ?_)
      · exact rTr_5 (k := k) (n := n) (m := m) (s := s) (h0 := right4_does k n m s hs) (h1 := c1) (h2 := c2) (h3 := c5)
      · exact rTr_6 (k := k) (n := n) (m := m) (s := s) (h0 := right4_does k n m s hs) (h1 := c1) (h2 := c2) (h3 := c5)
end Go.Proofs.YtnchjdhepakokaaGreatDoorC
/- Truth and Same, told by one word each. -/
namespace Go.Proofs.YtnchjdhepakokaaGreatDoorC
open Go.Proofs Go.Proofs.YtnchjdhepakokaaGreatDoorSx Go.Lib
set_option maxRecDepth 100000
set_option linter.unusedVariables false
set_option linter.unusedSimpArgs false
def trB (k n m : Int) (s : ByteArray) : Bool := okV k n m s && (k == 0 || k == 4)
def trN (k n m : Int) (s : ByteArray) : Int := bif (k == 4 && okV k n m s) then n else 2
abbrev trV (k n m : Int) (s : ByteArray) : Value := .tuple #[(.int .i64 (trN k n m s)), (.bool (trB k n m s))]
theorem rTr_said (k n m : Int) (s : ByteArray) : rTr_v k n m s = trV k n m s := by
  unfold rTr_v trV trN trB
  by_cases h0 : k = 0
  · subst h0; cases okV 0 n m s <;> rfl
  · by_cases h4 : k = 4
    · subst h4; cases okV 4 n m s <;> rfl
    · have e0 : (k == 0) = false := beq_eq_false_iff_ne.mpr h0
      have e4 : (k == 4) = false := beq_eq_false_iff_ne.mpr h4
      have n0 : (k != 0) = true := by simp [bne, e0]
      have n4 : (k != 4) = true := by simp [bne, e4]
      rw [e0, e4, n0, n4]
      cases okV k n m s <;> rfl
theorem pTr_said (k n m : Int) (s : ByteArray) : pTr_v k n m s = trV k n m s := by
  unfold pTr_v trV trN trB
  rw [beq_bE]
  by_cases h0 : k = 0
  · subst h0
    unfold okV
    change (bif (true && (n == 0 && (m == 0 && (eqE s && true)))) then _ else Value.tuple #[.int .i64 2, .bool false]) = Value.tuple #[.int .i64 2, .bool ((n == 0 && m == 0 && eqE s) && true)]
    cases (n == 0) <;> cases (m == 0) <;> cases eqE s <;> rfl
  · by_cases h4 : k = 4
    · subst h4; cases okV 4 n m s <;> rfl
    · have e0 : (k == 0) = false := beq_eq_false_iff_ne.mpr h0
      have e4 : (k == 4) = false := beq_eq_false_iff_ne.mpr h4
      rw [e0, e4]
      cases okV k n m s <;> rfl
theorem truth_does (k n m : Int) (s : ByteArray) (hs : s.size ≤ 140737488351232) : Does cE 82 [] 0 [.v (vl k n m s)] (.v (trV k n m s)) [] 0 := by
  rw [← pTr_said]
  exact pTr_v_does k n m s hs
theorem truth4_does (k n m : Int) (s : ByteArray) (hs : s.size ≤ 140737488351232) : Does cE 86 [] 0 [.v (vl k n m s)] (.v (trV k n m s)) [] 0 := by
  rw [← rTr_said]
  exact rTr_v_does k n m s hs
def sameV (k n m : Int) (s : ByteArray) (j p q : Int) (u : ByteArray) : Bool := k == j && n == p && m == q && s.toList == u.toList
theorem rSa_said (k n m : Int) (s : ByteArray) (j p q : Int) (u : ByteArray) : rSa_v k n m j p q s u = .bool (sameV k n m s j p q u) := by
  unfold rSa_v sameV
  cases (k == j) <;> cases (n == p) <;> cases (m == q) <;> rfl
theorem same4_does (k n m : Int) (s : ByteArray) (j p q : Int) (u : ByteArray) : Does cE 19 [] 0 [.v (vl k n m s), .v (vl j p q u)] (.v (.bool (sameV k n m s j p q u))) [] 0 := by
  rw [← rSa_said]
  exact rSa_v_does k n m j p q s u
end Go.Proofs.YtnchjdhepakokaaGreatDoorC
/- Small functions of the order. Printed by a program (wip/tools); Lean checks each. -/
namespace Go.Proofs.YtnchjdhepakokaaGreatDoorC
open Go.Proofs Go.Proofs.YtnchjdhepakokaaGreatDoorSx Go.Lib
set_option maxRecDepth 100000
set_option linter.unusedVariables false
def pNan (x : Int) : Value :=
  (.bool (x != x))
theorem pNan_does (x : Int) : Does cE 199 [] 0 [.v (it x)] (.v (pNan x)) [] 0 := by
  unfold pNan
  exact pth (fn := Tryz.f199) rfl (by kernel_rfl) [] (by kernel_rfl) cj0
def pCls (k n m : Int) (s : ByteArray) : Value :=
  bif (k == 1) then (.int .i64 (2))
  else bif (k == 2) then (.int .i64 (2))
    else bif (k == 3) then (.int .i64 (3))
      else bif (k == 4) then (.int .i64 (4))
        else bif (k == 5) then (.int .i64 (5))
          else (.int .i64 (1))
theorem pCls_does (k n m : Int) (s : ByteArray) : Does cE 123 [] 0 [.v (vl k n m s)] (.v (pCls k n m s)) [] 0 := by
  unfold pCls
  refine tbif (fun c1 => ?_) (fun c1 => ?_)
  · exact pth (fn := Tryz.f123) rfl (by kernel_rfl) [.t, .t] (by kernel_rfl) (cj c1 (cj c1 cj0))
  · refine tbif (fun c2 => ?_) (fun c2 => ?_)
    · exact pth (fn := Tryz.f123) rfl (by kernel_rfl) [.f, .t] (by kernel_rfl) (cj c1 (cj c2 cj0))
    · refine tbif (fun c3 => ?_) (fun c3 => ?_)
      · exact pth (fn := Tryz.f123) rfl (by kernel_rfl) [.f, .f, .t] (by kernel_rfl) (cj c1 (cj c2 (cj c3 cj0)))
      · refine tbif (fun c4 => ?_) (fun c4 => ?_)
        · exact pth (fn := Tryz.f123) rfl (by kernel_rfl) [.f, .f, .f, .t] (by kernel_rfl) (cj c1 (cj c2 (cj c3 (cj c4 cj0))))
        · refine tbif (fun c5 => ?_) (fun c5 => ?_)
          · exact pth (fn := Tryz.f123) rfl (by kernel_rfl) [.f, .f, .f, .f, .t] (by kernel_rfl) (cj c1 (cj c2 (cj c3 (cj c4 (cj c5 cj0)))))
          · exact pth (fn := Tryz.f123) rfl (by kernel_rfl) [.f, .f, .f, .f, .f] (by kernel_rfl) (cj c1 (cj c2 (cj c3 (cj c4 (cj c5 cj0)))))
def rCls (k : Int) : Value :=
  bif (k == 1) then (.int .i64 (2))
  else bif (k == 2) then (.int .i64 (2))
    else bif (k == 3) then (.int .i64 (3))
      else bif (k == 4) then (.int .i64 (4))
        else bif (k == 5) then (.int .i64 (5))
          else (.int .i64 (1))
theorem rCls_does (k : Int) : Does cE 129 [] 0 [.v (it k)] (.v (rCls k)) [] 0 := by
  unfold rCls
  refine tbif (fun c1 => ?_) (fun c1 => ?_)
  · exact pth (fn := Tryz.f129) rfl (by kernel_rfl) [.t, .t] (by kernel_rfl) (cj c1 (cj c1 cj0))
  · refine tbif (fun c2 => ?_) (fun c2 => ?_)
    · exact pth (fn := Tryz.f129) rfl (by kernel_rfl) [.f, .t] (by kernel_rfl) (cj c1 (cj c2 cj0))
    · refine tbif (fun c3 => ?_) (fun c3 => ?_)
      · exact pth (fn := Tryz.f129) rfl (by kernel_rfl) [.f, .f, .t] (by kernel_rfl) (cj c1 (cj c2 (cj c3 cj0)))
      · refine tbif (fun c4 => ?_) (fun c4 => ?_)
        · exact pth (fn := Tryz.f129) rfl (by kernel_rfl) [.f, .f, .f, .t] (by kernel_rfl) (cj c1 (cj c2 (cj c3 (cj c4 cj0))))
        · refine tbif (fun c5 => ?_) (fun c5 => ?_)
          · exact pth (fn := Tryz.f129) rfl (by kernel_rfl) [.f, .f, .f, .f, .t] (by kernel_rfl) (cj c1 (cj c2 (cj c3 (cj c4 (cj c5 cj0)))))
          · exact pth (fn := Tryz.f129) rfl (by kernel_rfl) [.f, .f, .f, .f, .f] (by kernel_rfl) (cj c1 (cj c2 (cj c3 (cj c4 (cj c5 cj0)))))
def rCmp (x y : Int) : Value :=
  bif (decide (x < y)) then (.int .i64 (-1))
  else bif (decide (x > y)) then (.int .i64 (1))
    else (.int .i64 (0))
theorem rCmp_does (x y : Int) : Does cE 128 [] 0 [.v (it x), .v (it y)] (.v (rCmp x y)) [] 0 := by
  unfold rCmp
  refine tbif (fun c1 => ?_) (fun c1 => ?_)
  · exact pth (fn := Tryz.f128) rfl (by kernel_rfl) [.t] (by kernel_rfl) (cj c1 cj0)
  · refine tbif (fun c2 => ?_) (fun c2 => ?_)
    · exact pth (fn := Tryz.f128) rfl (by kernel_rfl) [.f, .t] (by kernel_rfl) (cj c1 (cj c2 cj0))
    · exact pth (fn := Tryz.f128) rfl (by kernel_rfl) [.f, .f] (by kernel_rfl) (cj c1 (cj c2 cj0))
end Go.Proofs.YtnchjdhepakokaaGreatDoorC
/- Loops of the order. Printed by a program (wip/tools); Lean checks each. -/
namespace Go.Proofs.YtnchjdhepakokaaGreatDoorC
open Go.Proofs Go.Proofs.YtnchjdhepakokaaGreatDoorSx Go.Lib
set_option maxRecDepth 100000
set_option linter.unusedVariables false
noncomputable def coK : List It := stackAt [1, 1, 0, 1, 0] (bd Tryz.f120) [] []
abbrev coS (l : List Int) (i : Nat) : List SV := [.o 0, .na, .na, .v (it 0), .na, .na, .o 0, .v (it l.length), .v (it i)] ++ List.replicate 9 .na
noncomputable def fiK : List It := stackAt [1, 0, 1, 0] (bd Tryz.f127) [] []
abbrev fiS (i : Nat) : List SV := [.o 0, .na, .na, .v (it i)] ++ List.replicate 15 .na
abbrev ilT (l : List Int) : Tab cE := [(0, .ro 3 l false)]
def pOra (l : List Int) (R1 : SV × Tab cE × Nat) : SV × Tab cE × Nat :=
  R1
theorem pOra_fin (l : List Int) (R1 : SV × Tab cE × Nat) (hF1 : Fin cE Tryz.f120 1 R1.1 R1.2.1 R1.2.2 coK ([.o 0, .na, .na, .v (.int .i64 (0)), .na, .na, .o 0, .v (.int .i64 ((l.length : Int))), .v (.int .i64 (0))] ++ List.replicate 9 .na) [(0, .ro 3 (l) false)] 1) : Fin cE Tryz.f120 1 (pOra l R1).1 (pOra l R1).2.1 (pOra l R1).2.2 [.code (bd Tryz.f120)] (argsS [.o 0] Tryz.f120.ntmps) (ilT l) 1 := by
  unfold pOra
  exact sat (keep := [0, 3, 6, 7, 8]) (by decide) [] (by kernel_rfl) cj0 (hF1 )
def pOrb (l : List Int) (i m : Nat) (R1 : Value) : Value :=
  bif (decide ((i : Int) < (l.length : Int))) then bif (l.getD i 0 != 0) then (.int .i64 (l.getD i 0))
    else R1
  else (.int .i64 (0))
theorem pOrb_fin (l : List Int) (i m : Nat) (R1 : Value) (hi : i ≤ l.length) (hl : l.length ≤ 1000000000) (hF1 : (decide ((i : Int) < (l.length : Int))) = true → (l.getD i 0 != 0) = false → Fin cE Tryz.f120 1 (.v R1) [(0, .ro 3 (l) false)] 1 (inK coK (m)) ([.o 0, .na, .na, .v (.int .i64 (0)), .na, .na, .o 0, .v (.int .i64 ((l.length : Int))), .v (.int .i64 (IntKind.i64.wrap ((i : Int) + 1)))] ++ List.replicate 9 .na) [(0, .ro 3 (l) false)] 1) : Fin cE Tryz.f120 1 (.v (pOrb l i m R1)) [(0, .ro 3 (l) false)] 1 (bodyK coK m) (coS l i) (ilT l) 1 := by
  unfold pOrb
  refine fbif (fun c1 => ?_) (fun c1 => ?_)
  · refine fbif (fun c2 => ?_) (fun c2 => ?_)
    · exact sfin (keep := [0, 3, 6, 7, 8]) (by decide) [.t, .t] (by kernel_rfl) (cj c1 (cj (by (have := of_decide_eq_true c1; omega) : 0 ≤ (i : Int) ∧ (i : Int) < (l.length : Int)) (cj (by (have := of_decide_eq_true c1; omega) : i < l.length) (cj c2 cj0))))
    · exact sat (keep := [0, 3, 6, 7, 8]) (by decide) [.t, .f] (by kernel_rfl) (cj c1 (cj (by (have := of_decide_eq_true c1; omega) : 0 ≤ (i : Int) ∧ (i : Int) < (l.length : Int)) (cj (by (have := of_decide_eq_true c1; omega) : i < l.length) (cj c2 cj0)))) (hF1 c1 c2)
  · exact sfin (keep := [0, 3, 6, 7, 8]) (by decide) [.f] (by kernel_rfl) (cj c1 cj0)
def rFia (l : List Int) (R1 : SV × Tab cE × Nat) : SV × Tab cE × Nat :=
  R1
theorem rFia_fin (l : List Int) (R1 : SV × Tab cE × Nat) (hF1 : Fin cE Tryz.f127 1 R1.1 R1.2.1 R1.2.2 fiK ([.o 0, .na, .na, .v (.int .i64 (0))] ++ List.replicate 15 .na) [(0, .ro 3 (l) false)] 1) : Fin cE Tryz.f127 1 (rFia l R1).1 (rFia l R1).2.1 (rFia l R1).2.2 [.code (bd Tryz.f127)] (argsS [.o 0] Tryz.f127.ntmps) (ilT l) 1 := by
  unfold rFia
  exact sat (keep := [0, 3]) (by decide) [] (by kernel_rfl) cj0 (hF1 )
def rFib (l : List Int) (i m : Nat) (R1 : Value) : Value :=
  bif (decide ((i : Int) < (l.length : Int))) then bif (l.getD i 0 != 0) then (.int .i64 (l.getD i 0))
    else R1
  else (.int .i64 (0))
theorem rFib_fin (l : List Int) (i m : Nat) (R1 : Value) (hi : i ≤ l.length) (hl : l.length ≤ 1000000000) (hF1 : (decide ((i : Int) < (l.length : Int))) = true → (l.getD i 0 != 0) = false → Fin cE Tryz.f127 1 (.v R1) [(0, .ro 3 (l) false)] 1 (inK fiK (m)) ([.o 0, .na, .na, .v (.int .i64 (IntKind.i64.wrap ((i : Int) + 1)))] ++ List.replicate 15 .na) [(0, .ro 3 (l) false)] 1) : Fin cE Tryz.f127 1 (.v (rFib l i m R1)) [(0, .ro 3 (l) false)] 1 (bodyK fiK m) (fiS i) (ilT l) 1 := by
  unfold rFib
  refine fbif (fun c1 => ?_) (fun c1 => ?_)
  · refine fbif (fun c2 => ?_) (fun c2 => ?_)
    · exact sfin (keep := [0, 3]) (by decide) [.t, .t] (by kernel_rfl) (cj c1 (cj (by (have := of_decide_eq_true c1; omega) : 0 ≤ (i : Int) ∧ (i : Int) < (l.length : Int)) (cj (by (have := of_decide_eq_true c1; omega) : i < l.length) (cj c2 (cj (by (have := of_decide_eq_true c1; omega) : 0 ≤ (i : Int) ∧ (i : Int) < (l.length : Int)) (cj (by (have := of_decide_eq_true c1; omega) : i < l.length) cj0))))))
    · exact sat (keep := [0, 3]) (by decide) [.t, .f] (by kernel_rfl) (cj c1 (cj (by (have := of_decide_eq_true c1; omega) : 0 ≤ (i : Int) ∧ (i : Int) < (l.length : Int)) (cj (by (have := of_decide_eq_true c1; omega) : i < l.length) (cj c2 cj0)))) (hF1 c1 c2)
  · exact sfin (keep := [0, 3]) (by decide) [.f] (by kernel_rfl) (cj c1 cj0)
end Go.Proofs.YtnchjdhepakokaaGreatDoorC
/-
  DERIVED: THE SHELF's CONTRACTS AT THIS DUMP, IN PLAIN WORDS (tools/lay-plain.mjs out of 'YtnchjdhepakokaaGreatDoorSMx.lean', which tools/lay-shelf.mjs wrote): THE SAME DECLARATIONS UNDER THE SAME NAMES: 'import', 'namespace', 'open', 'def', 'theorem' AND NOTHING ELSE: no command of the shelf's: FOR A HAND-IN. Each laying: the table of numbers ('.._ren') and one theorem, a field a fact of the dump's own or the kernel's comparison; each contract: ONE APPLICATION.
-/
namespace Go.Proofs
open Go.Shelf
def Tryz.laysCompare_ren : Go.Shelf.Ren := ⟨fun | 106 => 122 | 213 => 200 | 265 => 262 | n => n, fun | 9 => 9 | 3 => 3 | n => n, fun | n => n⟩
theorem Tryz.laysCompare : Go.Proofs.Lays.n106 Tryz.prog Tryz.laysCompare_ren := {
  mixed := by kernel_rfl
  f106 := Tryz.func122.trans (congrArg some (by kernel_rfl))
  f213 := Tryz.func200.trans (congrArg some (by kernel_rfl))
  f265 := Tryz.func262.trans (congrArg some (by kernel_rfl))
  t3 := Tryz.underlying3
  a3 := Tryz.isAgg3
  z3 := Tryz.sizeOf3
  v3 := Tryz.zeroValue3
  t9 := Tryz.underlying9
  a9 := Tryz.isAgg9
  z9 := Tryz.sizeOf9
  v9 := Tryz.zeroValue9 }
end Go.Proofs
/- How whole numbers and texts stand; the first number that is not 0: told. -/
namespace Go.Proofs.YtnchjdhepakokaaGreatDoorC
open Go.Proofs Go.Proofs.YtnchjdhepakokaaGreatDoorSx Go.Lib
set_option maxRecDepth 100000
set_option linter.unusedVariables false
set_option linter.unusedSimpArgs false
def cmI (x y : Int) : Int := bif decide (x < y) then -1 else bif decide (x > y) then 1 else 0
def clsV (k : Int) : Int := bif k == 1 then 2 else bif k == 2 then 2 else bif k == 3 then 3 else bif k == 4 then 4 else bif k == 5 then 5 else 1
def orL : List Int → Int
  | [] => 0
  | x :: r => bif x != 0 then x else orL r
theorem it_if (c : Bool) (a b : Int) : it (bif c then a else b) = bif c then it a else it b := by cases c <;> rfl
theorem nan_does (x : Int) : Does cE 199 [] 0 [.v (it x)] (.v (.bool false)) [] 0 := by
  have h := pNan_does x
  have e : pNan x = .bool false := by unfold pNan; simp
  rw [e] at h
  exact h
theorem class_does (k n m : Int) (s : ByteArray) : Does cE 123 [] 0 [.v (vl k n m s)] (.v (it (clsV k))) [] 0 := by
  have h := pCls_does k n m s
  have e : pCls k n m s = it (clsV k) := by unfold pCls clsV; simp only [it_if]
  rw [e] at h
  exact h
theorem rclass_does (k : Int) : Does cE 129 [] 0 [.v (it k)] (.v (it (clsV k))) [] 0 := by
  have h := rCls_does k
  have e : rCls k = it (clsV k) := by unfold rCls clsV; simp only [it_if]
  rw [e] at h
  exact h
theorem rcmi_does (x y : Int) : Does cE 128 [] 0 [.v (it x), .v (it y)] (.v (it (cmI x y))) [] 0 := by
  have h := rCmp_does x y
  have e : rCmp x y = it (cmI x y) := by unfold rCmp cmI; simp only [it_if]
  rw [e] at h
  exact h
theorem scmp_does (s u : ByteArray) : Does cE 122 [] 0 [.v (st s), .v (st u)] (.v (it (compareBytes s.data.toList u.data.toList))) [] 0 :=
  does_lib (l := [st s, st u]) (enters (fn := Tryz.f122) rfl (by kernel_rfl) rfl) (fun w hg => (Any.strings_Compare Tryz.laysCompare s u w).mono fun e w' h => ⟨h.1, h.2 ▸ ⟨rfl, rfl, rfl, Nat.le_refl _, fun _ _ => rfl⟩⟩)
theorem wsucc {i n : Nat} (h : i < n) (hn : n ≤ 1000000000) : IntKind.i64.wrap ((i : Int) + 1) = ((i + 1 : Nat) : Int) := by
  rw [wrap64 (by omega) (by omega)]; omega
theorem orL_drop {l : List Int} {i : Nat} (h : i < l.length) : orL (l.drop i) = bif l.getD i 0 != 0 then l.getD i 0 else orL (l.drop (i + 1)) := by
  rw [List.drop_eq_getElem_cons h, List.getD_eq_getElem?_getD, List.getElem?_eq_getElem h]
  rfl
theorem or_loop (l : List Int) (hl : l.length ≤ 1000000000) : ∀ (m i : Nat), i + m = l.length → Fin cE Tryz.f120 1 (.v (it (orL (l.drop i)))) (ilT l) 1 (inK coK (m + 1)) (coS l i) (ilT l) 1 := by
  intro m
  induction m with
  | zero =>
    intro i hi
    refine fin_round ?_
    have h := pOrb_fin l i 0 (it 0) (by omega) hl (fun c1 => absurd (of_decide_eq_true c1) (by omega))
    have e : pOrb l i 0 (it 0) = it (orL (l.drop i)) := by
      unfold pOrb
      rw [decide_eq_false (by omega), List.drop_of_length_le (by omega)]
      rfl
    rw [e] at h
    exact h
  | succ m ih =>
    intro i hi
    refine fin_round ?_
    have h := pOrb_fin l i (m + 1) (it (orL (l.drop (i + 1)))) (by omega) hl (fun c1 c2 => by
      rw [wsucc (by omega : i < l.length) hl]
      exact ih (i + 1) (by omega))
    have e : pOrb l i (m + 1) (it (orL (l.drop (i + 1)))) = it (orL (l.drop i)) := by
      unfold pOrb
      rw [decide_eq_true (by omega), orL_drop (l := l) (i := i) (by omega), it_if]
      rfl
    rw [e] at h
    exact h
theorem cor_does (l : List Int) (hl : l.length ≤ 1000000000) : Does cE 120 (ilT l) 1 [.o 0] (.v (it (orL l))) (ilT l) 1 := by
  refine does_of_fin (fn := Tryz.f120) (c := bd Tryz.f120) rfl (by kernel_rfl) rfl ?_
  exact pOra_fin l (.v (it (orL l)), ilT l, 1) (fin_loop (l.length + 1) (or_loop l hl l.length 0 (by omega)))
theorem first_loop (l : List Int) (hl : l.length ≤ 1000000000) : ∀ (m i : Nat), i + m = l.length → Fin cE Tryz.f127 1 (.v (it (orL (l.drop i)))) (ilT l) 1 (inK fiK (m + 1)) (fiS i) (ilT l) 1 := by
  intro m
  induction m with
  | zero =>
    intro i hi
    refine fin_round ?_
    have h := rFib_fin l i 0 (it 0) (by omega) hl (fun c1 => absurd (of_decide_eq_true c1) (by omega))
    have e : rFib l i 0 (it 0) = it (orL (l.drop i)) := by
      unfold rFib
      rw [decide_eq_false (by omega), List.drop_of_length_le (by omega)]
      rfl
    rw [e] at h
    exact h
  | succ m ih =>
    intro i hi
    refine fin_round ?_
    have h := rFib_fin l i (m + 1) (it (orL (l.drop (i + 1)))) (by omega) hl (fun c1 c2 => by
      rw [wsucc (by omega : i < l.length) hl]
      exact ih (i + 1) (by omega))
    have e : rFib l i (m + 1) (it (orL (l.drop (i + 1)))) = it (orL (l.drop i)) := by
      unfold rFib
      rw [decide_eq_true (by omega), orL_drop (l := l) (i := i) (by omega), it_if]
      rfl
    rw [e] at h
    exact h
theorem first_does (l : List Int) (hl : l.length ≤ 1000000000) : Does cE 127 (ilT l) 1 [.o 0] (.v (it (orL l))) (ilT l) 1 := by
  refine does_of_fin (fn := Tryz.f127) (c := bd Tryz.f127) rfl (by kernel_rfl) rfl ?_
  exact rFia_fin l (.v (it (orL l)), ilT l, 1) (fin_loop (l.length + 1) (first_loop l hl l.length 0 (by omega)))
theorem cor_nil (l : List Int) (hl : l.length ≤ 1000000000) : Does cE 120 (ilT l) 1 [.o 0] (.v (it (orL l))) [] 1 := Does.nil (cor_does l hl) rfl
theorem first_nil (l : List Int) (hl : l.length ≤ 1000000000) : Does cE 127 (ilT l) 1 [.o 0] (.v (it (orL l))) [] 1 := Does.nil (first_does l hl) rfl
theorem ddec_does (k n m : Int) (s : ByteArray) : Does cE 113 [] 0 [.v (vl k n m s)] (.v (dc n m)) [] 0 := pth (fn := Tryz.f113) rfl (by kernel_rfl) [] (by kernel_rfl) cj0
end Go.Proofs.YtnchjdhepakokaaGreatDoorC
/- How whole numbers stand. Printed by a program (wip/tools); Lean checks each. -/
namespace Go.Proofs.YtnchjdhepakokaaGreatDoorC
open Go.Proofs Go.Proofs.YtnchjdhepakokaaGreatDoorSx Go.Lib
set_option maxRecDepth 100000
set_option linter.unusedVariables false
def pCmi (x y : Int) : Value :=
  bif (decide (x < y)) then (.int .i64 (-1))
  else bif (decide (x > y)) then (.int .i64 (1))
    else (.int .i64 (0))
theorem pCmi_does (x y : Int) : Does cE 121 [] 0 [.v (it x), .v (it y)] (.v (pCmi x y)) [] 0 := by
  unfold pCmi
  refine tbif (fun c1 => ?_) (fun c1 => ?_)
  · exact pth (fn := Tryz.f121) rfl (by kernel_rfl) [.c (.v (.bool (false))) [] 0, .c (.v (.bool (false))) [] 0, .l, .l, .t] (by kernel_rfl) (cj (nan_does (x)) (cj (nan_does (y)) (cj c1 cj0)))
  · refine tbif (fun c2 => ?_) (fun c2 => ?_)
    · exact pth (fn := Tryz.f121) rfl (by kernel_rfl) [.c (.v (.bool (false))) [] 0, .c (.v (.bool (false))) [] 0, .l, .l, .f, .t] (by kernel_rfl) (cj (nan_does (x)) (cj (nan_does (y)) (cj c1 (cj c2 cj0))))
    · exact pth (fn := Tryz.f121) rfl (by kernel_rfl) [.c (.v (.bool (false))) [] 0, .c (.v (.bool (false))) [] 0, .l, .l, .f, .f] (by kernel_rfl) (cj (nan_does (x)) (cj (nan_does (y)) (cj c1 (cj c2 cj0))))
end Go.Proofs.YtnchjdhepakokaaGreatDoorC
/- The program's rounded quotient of 128 bits, bit by bit. -/
namespace Go.Proofs.YtnchjdhepakokaaGreatDoorC
open Go.Proofs Go.Proofs.YtnchjdhepakokaaGreatDoorSx
set_option maxRecDepth 100000
set_option linter.unusedVariables false
theorem orE {e b : Int} (h0 : 0 ≤ e) (h1 : e < 18446744073709551616) (he : e % 2 = 0) (hb : 0 ≤ b ∧ b ≤ 1) : IntKind.u64.wrap ↑(BitVec.ofInt 64 e ||| BitVec.ofInt 64 b).toNat = e + b := by
  rw [BitVec.toNat_or, BitVec.toNat_ofInt, BitVec.toNat_ofInt]
  have a1 : (e % ((2 ^ 64 : Nat) : Int)).toNat = (e / 2).toNat <<< 1 := by rw [Nat.shiftLeft_eq]; omega
  have a2 : (b % ((2 ^ 64 : Nat) : Int)).toNat = b.toNat := by omega
  rw [a1, a2, ← Nat.shiftLeft_add_eq_or_of_lt (by omega), Nat.shiftLeft_eq, wrapU]
  omega
theorem and1 {z : Int} (h0 : 0 ≤ z) : IntKind.u64.wrap ↑(BitVec.ofInt 64 z &&& BitVec.ofInt 64 1).toNat = z % 2 := by
  rw [BitVec.toNat_and, BitVec.toNat_ofInt, BitVec.toNat_ofInt]
  have e : ((1 : Int) % ((2 ^ 64 : Nat) : Int)).toNat = 1 := by decide
  rw [e, Nat.and_one_is_mod, wrapU]
  omega
theorem fdivp {z : Int} (k : Nat) : z.fdiv (2 ^ k) = z / 2 ^ k := Int.fdiv_eq_ediv_of_nonneg _ (Int.le_of_lt (pow2_pos k))
theorem low_bits64 (q d : Int) (r : Nat) (hr : r < 64) : (18446744073709551616 * q + d) / 2 ^ r % 2 = d / 2 ^ r % 2 := by
  have e : (18446744073709551616 : Int) = 2 ^ r * (2 * 2 ^ (63 - r)) := by
    rw [← Int.mul_assoc, Int.mul_comm (2 ^ r) 2, Int.mul_assoc, ← Int.pow_add, show r + (63 - r) = 63 by omega]
    decide
  have e2 : 18446744073709551616 * q + d = d + 2 ^ r * (2 * (2 ^ (63 - r) * q)) := by
    rw [e]
    grind
  have hp : (2 : Int) ^ r ≠ 0 := Int.ne_of_gt (pow2_pos r)
  rw [e2, Int.add_mul_ediv_left _ _ hp]
  generalize 2 ^ (63 - r) * q = z
  omega
/-- The bit that a round takes. -/
theorem bit_low {x : Int} (hx : 0 ≤ x) {i : Nat} (h1 : 64 ≤ i) (h2 : i < 128) :
    IntKind.u64.wrap ↑(BitVec.ofInt 64 ((x % 18446744073709551616).fdiv (2 ^ Min.min (IntKind.i64.wrap (127 - (i : Int))).toNat 64)) &&& BitVec.ofInt 64 1).toNat = x / 2 ^ (127 - i) % 2 := by
  have ew : (IntKind.i64.wrap (127 - (i : Int))).toNat = 127 - i := by rw [wrap64 (by omega) (by omega)]; omega
  rw [ew, min64 (by omega), fdivp, and1 (Int.ediv_nonneg (by omega) (Int.le_of_lt (pow2_pos _)))]
  have hx0 := Int.mul_ediv_add_emod x 18446744073709551616
  conv => rhs; rw [← hx0]
  exact (low_bits64 _ _ _ (by omega)).symm
theorem bit_high {x : Int} (hx : 0 ≤ x) {i : Nat} (h1 : i < 64) :
    IntKind.u64.wrap ↑(BitVec.ofInt 64 ((x / 18446744073709551616).fdiv (2 ^ Min.min (IntKind.i64.wrap (63 - (i : Int))).toNat 64)) &&& BitVec.ofInt 64 1).toNat = x / 2 ^ (127 - i) % 2 := by
  have ew : (IntKind.i64.wrap (63 - (i : Int))).toNat = 63 - i := by rw [wrap64 (by omega) (by omega)]; omega
  rw [ew, min64 (by omega), fdivp, and1 (Int.ediv_nonneg (by omega) (Int.le_of_lt (pow2_pos _))), ediv2 _ (by decide)]
  have e : (18446744073709551616 : Int) * 2 ^ (63 - i) = 2 ^ (127 - i) := by
    have h1 : (18446744073709551616 : Int) = 2 ^ 64 := by decide
    rw [h1, ← Int.pow_add]
    congr 1
    omega
  rw [e]
/-- Twice a number, and a bit more. -/
theorem dbl_hi {R : Int} (h0 : 0 ≤ R) (h1 : R < 170141183460469231731687303715884105728) :
    IntKind.u64.wrap ↑(BitVec.ofInt 64 (IntKind.u64.wrap (R / 18446744073709551616 * 2 ^ 1)) ||| BitVec.ofInt 64 ((R % 18446744073709551616).fdiv (2 ^ 63))).toNat = (2 * R) / 18446744073709551616 := by
  have e1 : (2 : Int) ^ 1 = 2 := rfl
  have e2 : (2 : Int) ^ 63 = 9223372036854775808 := by decide
  rw [fdivp, e1, e2, wrU (x := R / 18446744073709551616 * 2) (by omega) (by omega), orE (by omega) (by omega) (by omega) (by omega)]
  omega
theorem dbl_lo {R : Int} : IntKind.u64.wrap (R % 18446744073709551616 * 2 ^ 1) = (2 * R) % 18446744073709551616 := by
  have e1 : (2 : Int) ^ 1 = 2 := rfl
  rw [e1, wrapU]
  omega
theorem dbl_bit {R b : Int} (hb : 0 ≤ b ∧ b ≤ 1) :
    IntKind.u64.wrap ↑(BitVec.ofInt 64 (IntKind.u64.wrap (R % 18446744073709551616 * 2 ^ 1)) ||| BitVec.ofInt 64 b).toNat = (2 * R + b) % 18446744073709551616 := by
  rw [dbl_lo, orE (by omega) (by omega) (by omega) hb]
  omega
theorem dbl_hib {R b : Int} (hb : 0 ≤ b ∧ b ≤ 1) : (2 * R) / 18446744073709551616 = (2 * R + b) / 18446744073709551616 := by omega
abbrev byV (x y : Int) (s t : Bool) (Q R : Int) : Tab cE := byT (x / 18446744073709551616) (x % 18446744073709551616) (y / 18446744073709551616) (y % 18446744073709551616) s t (Q / 18446744073709551616) (Q % 18446744073709551616) (R / 18446744073709551616) (R % 18446744073709551616)
theorem by_end {x y Q R : Int} (hx : 0 ≤ x ∧ x < big128) (hy : 0 < y) (hy2 : y < 170141183460469231731687303715884105728) (s t : Bool) (hQ : Q = x / y) (hR : R = x % y) (m : Nat) :
    Fin cE Tryz.f216 0 (.v (Bv (rnd x y) s)) [] 0 (bodyK byK m) (byS 128) (byV x y s t Q R) 5 := by
  have h2 := Int.emod_nonneg x (Int.ne_of_gt hy)
  have h3 := Int.emod_lt_of_pos x hy
  have h5 := Int.ediv_nonneg hx.1 (Int.le_of_lt hy)
  have hr := rnd_le hx.1 hy
  have hc := pcompare_does (2 * R) y false t
  unfold Bv at hc
  rw [← dbl_hi (R := R) (by omega) (by omega), ← dbl_lo] at hc
  have hone : Does cE 175 [] 0 [.v (Bv Q false), .v (bg 0 1 false)] (.v (Bv (Q + 1) false)) [] 0 ∨ ¬ (Q + 1 < big128) := by
    by_cases h : Q + 1 < big128
    · left
      have := pplus_does (x := Q) (y := 1) (by omega) (by decide) h false false
      exact this
    · exact .inr h
  have plus1 : rnd x y = Q + 1 → Does cE 175 [] 0 [.v (Bv Q false), .v (bg 0 1 false)] (.v (Bv (Q + 1) false)) [] 0 := by
    intro e
    rcases hone with h | h
    · exact h
    · omega
  unfold cmpI at hc
  have hodd : IntKind.u64.wrap ↑(BitVec.ofInt 64 (Q % 18446744073709551616) &&& BitVec.ofInt 64 1).toNat = Q % 2 := by
    rw [and1 (by omega)]
    omega
  by_cases c1 : 2 * R > y
  · rw [if_neg (by omega), if_pos c1] at hc
    have e : rnd x y = Q + 1 := by unfold rnd; rw [if_pos (.inl (by omega)), hQ]
    have := byb_5 (h := x / 18446744073709551616) (l := x % 18446744073709551616) (g := y / 18446744073709551616) (k := y % 18446744073709551616) (s := s) (t := t) (qh := Q / 18446744073709551616) (ql := Q % 18446744073709551616) (rh := R / 18446744073709551616) (rl := R % 18446744073709551616) (i := 128) (m := m)
      (h0 := by decide) (h1 := hc) (h2 := by decide) (h3 := plus1 e)
    rw [e]
    exact this
  · by_cases c2 : 2 * R < y
    · rw [if_pos c2] at hc
      have e : rnd x y = Q := by unfold rnd; rw [if_neg (by omega), hQ]
      have := byb_8 (h := x / 18446744073709551616) (l := x % 18446744073709551616) (g := y / 18446744073709551616) (k := y % 18446744073709551616) (s := s) (t := t) (qh := Q / 18446744073709551616) (ql := Q % 18446744073709551616) (rh := R / 18446744073709551616) (rl := R % 18446744073709551616) (i := 128) (m := m)
        (h0 := by decide) (h1 := hc) (h2 := by decide) (h3 := by decide)
      rw [e]
      exact this
    · rw [if_neg c2, if_neg c1] at hc
      by_cases c3 : Q % 2 = 1
      · have e : rnd x y = Q + 1 := by unfold rnd; rw [if_pos (.inr ⟨by omega, by rw [← hQ]; exact c3⟩), hQ]
        have := byb_6 (h := x / 18446744073709551616) (l := x % 18446744073709551616) (g := y / 18446744073709551616) (k := y % 18446744073709551616) (s := s) (t := t) (qh := Q / 18446744073709551616) (ql := Q % 18446744073709551616) (rh := R / 18446744073709551616) (rl := R % 18446744073709551616) (i := 128) (m := m)
          (h0 := by decide) (h1 := hc) (h2 := by decide) (h3 := by decide) (h4 := by rw [hodd, c3]; rfl) (h5 := plus1 e)
        rw [e]
        exact this
      · have e : rnd x y = Q := by unfold rnd; rw [if_neg (by rw [← hQ]; omega), hQ]
        have := byb_7 (h := x / 18446744073709551616) (l := x % 18446744073709551616) (g := y / 18446744073709551616) (k := y % 18446744073709551616) (s := s) (t := t) (qh := Q / 18446744073709551616) (ql := Q % 18446744073709551616) (rh := R / 18446744073709551616) (rl := R % 18446744073709551616) (i := 128) (m := m)
          (h0 := by decide) (h1 := hc) (h2 := by decide) (h3 := by decide) (h4 := by rw [hodd]; exact beq_false_of_ne c3)
        rw [e]
        exact this
theorem psub_hi {X y : Int} (hy : 0 ≤ y) (hle : y ≤ X) (hX : X < big128) :
    IntKind.u64.wrap (IntKind.u64.wrap (X / 18446744073709551616 - y / 18446744073709551616) - (if X % 18446744073709551616 < y % 18446744073709551616 then 1 else 0)) = (X - y) / 18446744073709551616 := by
  unfold big128 at hX
  rw [wrU (x := X / 18446744073709551616 - y / 18446744073709551616) (by omega) (by omega)]
  by_cases h : X % 18446744073709551616 < y % 18446744073709551616
  · rw [if_pos h, wrU (by omega) (by omega)]
    omega
  · rw [if_neg h, wrU (by omega) (by omega)]
    omega
theorem by_loop {x y : Int} (hx : 0 ≤ x ∧ x < big128) (hy : 0 < y) (hy2 : y < 170141183460469231731687303715884105728) (s : Bool) : ∀ (r i : Nat) (Q R : Int) (t : Bool), i + r = 128 → 0 ≤ Q → 0 ≤ R ∧ R < y → x / 2 ^ r = Q * y + R → ∀ m,
    Fin cE Tryz.f216 0 (.v (Bv (rnd x y) s)) [] 0 (inK byK (m + r + 1)) (byS i) (byV x y s t Q R) 5
  | 0, i, Q, R, t, hi, hQ, hR, hv, m => by
    refine fin_round ?_
    have e : i = 128 := by omega
    subst e
    have e1 : (2 : Int) ^ 0 = 1 := rfl
    rw [e1, Int.ediv_one] at hv
    refine by_end hx hy hy2 s t ?_ ?_ m
    · rw [hv, Int.add_comm, Int.add_mul_ediv_right _ _ (by omega), Int.ediv_eq_zero_of_lt hR.1 hR.2]
      omega
    · rw [hv, Int.add_comm, Int.add_mul_emod_self_right, Int.emod_eq_of_lt hR.1 hR.2]
  | r + 1, i, Q, R, t, hi, hQ, hR, hv, m => by
    refine fin_round ?_
    have hbig : big128 = 340282366920938463463374607431768211456 := rfl
    have hstep := half_step x r
    have hle : x / 2 ^ (r + 1) ≤ x / 2 := by
      rw [Int.pow_succ, Int.mul_comm, ← ediv2 _ (by decide)]
      exact Int.ediv_le_self _ (by omega)
    rw [hv] at hstep hle
    have hQb : Q ≤ Q * y := by
      have := Int.mul_le_mul_of_nonneg_left (show (1 : Int) ≤ y by omega) hQ
      omega
    have er : r = 127 - i := by omega
    have hb01 : 0 ≤ x / 2 ^ r % 2 ∧ x / 2 ^ r % 2 ≤ 1 := by omega
    have hbit1 : 64 ≤ i → IntKind.u64.wrap ↑(BitVec.ofInt 64 ((x % 18446744073709551616).fdiv (2 ^ Min.min (IntKind.i64.wrap (127 - (i : Int))).toNat 64)) &&& BitVec.ofInt 64 1).toNat = x / 2 ^ r % 2 := by
      intro h
      rw [er]
      exact bit_low hx.1 h (by omega)
    have hbit2 : i < 64 → IntKind.u64.wrap ↑(BitVec.ofInt 64 ((x / 18446744073709551616).fdiv (2 ^ Min.min (IntKind.i64.wrap (63 - (i : Int))).toNat 64)) &&& BitVec.ofInt 64 1).toNat = x / 2 ^ r % 2 := by
      intro h
      rw [er]
      exact bit_high hx.1 h
    generalize x / 2 ^ r % 2 = bt at hstep hb01 hbit1 hbit2
    have hR1 := dbl_hi (R := R) (by omega) (by omega)
    have hR2 := dbl_bit (R := R) hb01
    have hQ1 := dbl_hi (R := Q) (by omega) (by omega)
    have hQ2 := dbl_bit (R := Q) (b := 1) (by omega)
    rw [dbl_hib hb01] at hR1
    have hc := pcompare_does (2 * R + bt) y false false
    unfold cmpI at hc
    have w127 : IntKind.i64.wrap (127 - (i : Int)) = 127 - (i : Int) := wrap64 (by omega) (by omega)
    have w63 : i < 64 → IntKind.i64.wrap (63 - (i : Int)) = 63 - (i : Int) := fun _ => wrap64 (by omega) (by omega)
    have hs := step64 (i := i) (by omega)
    by_cases hlt : 2 * R + bt < y
    · rw [if_pos hlt] at hc
      have ih := fun (v : Bool) => by_loop hx hy hy2 s r (i + 1) (2 * Q) (2 * R + bt) v (by omega) (by omega) ⟨by omega, hlt⟩ (by rw [hstep]; grind) m
      by_cases h64 : 64 ≤ i
      · have h := fun g3 => byb_2 (h := x / 18446744073709551616) (l := x % 18446744073709551616) (g := y / 18446744073709551616) (k := y % 18446744073709551616) (s := s) (t := t) (qh := Q / 18446744073709551616) (ql := Q % 18446744073709551616) (rh := R / 18446744073709551616) (rl := R % 18446744073709551616) (i := i) (m := m + (r + 1))
          (i0 := -1) (res := .v (Bv (rnd x y) s)) (T' := []) (n' := 0) (h0 := by simp; omega) (h1 := by simp; omega) (h2 := by rw [w127]; simp; omega) (h3 := g3) (h4 := by decide)
        rw [hbit1 h64, hR1, hR2, hQ1, dbl_lo, hs] at h
        exact h hc (ih false)
      · have h := fun g3 => byb_4 (h := x / 18446744073709551616) (l := x % 18446744073709551616) (g := y / 18446744073709551616) (k := y % 18446744073709551616) (s := s) (t := t) (qh := Q / 18446744073709551616) (ql := Q % 18446744073709551616) (rh := R / 18446744073709551616) (rl := R % 18446744073709551616) (i := i) (m := m + (r + 1))
          (i0 := -1) (res := .v (Bv (rnd x y) s)) (T' := []) (n' := 0) (h0 := by simp; omega) (h1 := by simp; omega) (h2 := by rw [w63 (by omega)]; simp; omega) (h3 := g3) (h4 := by decide)
        rw [hbit2 (by omega), hR1, hR2, hQ1, dbl_lo, hs] at h
        exact h hc (ih false)
    · rw [if_neg hlt] at hc
      have ih := fun (v : Bool) => by_loop hx hy hy2 s r (i + 1) (2 * Q + 1) (2 * R + bt - y) v (by omega) (by omega) ⟨by omega, by omega⟩ (by rw [hstep]; grind) m
      have hsub := sub64_does (x := (2 * R + bt) % 18446744073709551616) (y := y % 18446744073709551616) (by unfold U64; omega) (by unfold U64; omega)
      have hsh := psub_hi (X := 2 * R + bt) (y := y) (by omega) (by omega) (by omega)
      have hsl : ((2 * R + bt) % 18446744073709551616 - y % 18446744073709551616) % 18446744073709551616 = (2 * R + bt - y) % 18446744073709551616 := by omega
      rw [hsl] at hsub
      have hq : (2 * Q) / 18446744073709551616 = (2 * Q + 1) / 18446744073709551616 := by omega
      by_cases h64 : 64 ≤ i
      · have h := fun g3 g5 => byb_1 (h := x / 18446744073709551616) (l := x % 18446744073709551616) (g := y / 18446744073709551616) (k := y % 18446744073709551616) (s := s) (t := t) (qh := Q / 18446744073709551616) (ql := Q % 18446744073709551616) (rh := R / 18446744073709551616) (rl := R % 18446744073709551616) (i := i) (m := m + (r + 1))
          (i0 := if 2 * R + bt > y then 1 else 0) (i1 := (2 * R + bt - y) % 18446744073709551616) (i2 := if (2 * R + bt) % 18446744073709551616 < y % 18446744073709551616 then 1 else 0) (res := .v (Bv (rnd x y) s)) (T' := []) (n' := 0) (h0 := by simp; omega) (h1 := by simp; omega) (h2 := by rw [w127]; simp; omega) (h3 := g3) (h4 := by split <;> decide) (h5 := g5)
        rw [hbit1 h64, hR1, hR2, hQ1, hQ2, hs, hsh, hq] at h
        exact h hc hsub (ih false)
      · have h := fun g3 g5 => byb_3 (h := x / 18446744073709551616) (l := x % 18446744073709551616) (g := y / 18446744073709551616) (k := y % 18446744073709551616) (s := s) (t := t) (qh := Q / 18446744073709551616) (ql := Q % 18446744073709551616) (rh := R / 18446744073709551616) (rl := R % 18446744073709551616) (i := i) (m := m + (r + 1))
          (i0 := if 2 * R + bt > y then 1 else 0) (i1 := (2 * R + bt - y) % 18446744073709551616) (i2 := if (2 * R + bt) % 18446744073709551616 < y % 18446744073709551616 then 1 else 0) (res := .v (Bv (rnd x y) s)) (T' := []) (n' := 0) (h0 := by simp; omega) (h1 := by simp; omega) (h2 := by rw [w63 (by omega)]; simp; omega) (h3 := g3) (h4 := by split <;> decide) (h5 := g5)
        rw [hbit2 (by omega), hR1, hR2, hQ1, hQ2, hs, hsh, hq] at h
        exact h hc hsub (ih false)
theorem by_does {x y : Int} (hx : 0 ≤ x ∧ x < big128) (hy : 0 < y) (hy2 : y < 170141183460469231731687303715884105728) (s t : Bool) : Does cE 216 [] 0 [.v (Bv x s), .v (Bv y t)] (.v (Bv (rnd x y) s)) [] 0 := by
  refine does_of_fin (fn := Tryz.f216) (c := bd Tryz.f216) rfl (by kernel_rfl) rfl ?_
  refine bya_1 _ _ _ _ s t _ _ _ ?_
  refine fin_loop (0 + 128 + 1) ?_
  exact by_loop hx hy hy2 s 128 0 0 0 t (by omega) (by omega) (by omega) (by
    have : (2 : Int) ^ 128 = big128 := by decide
    rw [this, Int.ediv_eq_zero_of_lt hx.1 hx.2]
    omega) 0
end Go.Proofs.YtnchjdhepakokaaGreatDoorC
/- Each path of each function: on which conditions it is taken, what it gives. Printed by a program (wip/tools/sxexp2.lean); Lean checks each. -/
namespace Go.Proofs.YtnchjdhepakokaaGreatDoorC
open Go.Proofs Go.Proofs.YtnchjdhepakokaaGreatDoorSx
set_option maxRecDepth 100000
set_option linter.unusedVariables false

theorem resc_1 (u x sc : Int) (b0 : Bool) (h0 : Does cE 173 [(0, .ro 3 ([x, sc]) false)] 1 [.o 0] (.v (.bool (b0))) [] 1) (h1 : (!b0) = true) : Does cE 154 [] 0 [.v (dc u x), .v (it sc)] (.v (.tuple #[(.agg #[(.int .i64 (0)), (.int .i64 (0))]), (.int .i64 (1))])) [] 0 :=
  does_path (ct := ct) ctOk mixed (fn := Tryz.f154) rfl (by kernel_rfl) 2000 [.c (.v (.bool (b0))) [] 1, .t] (by kernel_rfl) (cj h0 (cj h1 cj0))
theorem resc_2 (u x sc : Int) (b0 : Bool) (i1 : Int) (i2 : Int) (b3 : Bool) (i4 : Int) (i5 : Int) (i6 : Int) (h0 : Does cE 173 [(0, .ro 3 ([x, sc]) false)] 1 [.o 0] (.v (.bool (b0))) [] 1) (h1 : (!b0) = false) (h2 : decide (sc ≥ x) = true) (h3 : Does cE 174 [] 0 [.v (.agg #[(.int .i64 (u)), (.int .i64 (x))]), .v (.int .i64 (sc))] (.v (.agg #[(.int .u64 (i1)), (.int .u64 (i2)), (.bool (b3))])) [] 0) (h4 : Does cE 215 [] 0 [.v (.agg #[(.int .u64 (i1)), (.int .u64 (i2)), (.bool (b3))]), .v (.int .i64 (sc))] (.v (.tuple #[(.agg #[(.int .i64 (i4)), (.int .i64 (i5))]), (.int .i64 (i6))])) [] 0) : Does cE 154 [] 0 [.v (dc u x), .v (it sc)] (.v (.tuple #[(.agg #[(.int .i64 (i4)), (.int .i64 (i5))]), (.int .i64 (i6))])) [] 0 :=
  does_path (ct := ct) ctOk mixed (fn := Tryz.f154) rfl (by kernel_rfl) 2000 [.c (.v (.bool (b0))) [] 1, .f, .t, .c (.v (.agg #[(.int .u64 (i1)), (.int .u64 (i2)), (.bool (b3))])) [] 0, .c (.v (.tuple #[(.agg #[(.int .i64 (i4)), (.int .i64 (i5))]), (.int .i64 (i6))])) [] 0] (by kernel_rfl) (cj h0 (cj h1 (cj h2 (cj h3 (cj h4 cj0)))))
theorem resc_3 (u x sc : Int) (b0 : Bool) (i1 : Int) (i2 : Int) (b3 : Bool) (i4 : Int) (i5 : Int) (b6 : Bool) (i7 : Int) (i8 : Int) (i9 : Int) (h0 : Does cE 173 [(0, .ro 3 ([x, sc]) false)] 1 [.o 0] (.v (.bool (b0))) [] 1) (h1 : (!b0) = false) (h2 : decide (sc ≥ x) = false) (h3 : Does cE 192 [] 0 [.v (.int .i64 (u))] (.v (.agg #[(.int .u64 (i1)), (.int .u64 (i2)), (.bool (b3))])) [] 0) (h4 : (0 : Int) ≤ IntKind.i64.wrap (x - sc) ∧ IntKind.i64.wrap (x - sc) < ((13 : Nat) : Int)) (h5 : (0 + (IntKind.i64.wrap (x - sc)).toNat * 1).succ.le pow10.length) (h6 : Does cE 216 [] 0 [.v (.agg #[(.int .u64 (i1)), (.int .u64 (i2)), (.bool (b3))]), .v (.agg #[(.int .u64 (0)), (.int .u64 (pow10.getD (0 + (IntKind.i64.wrap (x - sc)).toNat * 1) 0)), (.bool (false))])] (.v (.agg #[(.int .u64 (i4)), (.int .u64 (i5)), (.bool (b6))])) [] 0) (h7 : Does cE 215 [] 0 [.v (.agg #[(.int .u64 (i4)), (.int .u64 (i5)), (.bool (b6))]), .v (.int .i64 (sc))] (.v (.tuple #[(.agg #[(.int .i64 (i7)), (.int .i64 (i8))]), (.int .i64 (i9))])) [] 0) : Does cE 154 [] 0 [.v (dc u x), .v (it sc)] (.v (.tuple #[(.agg #[(.int .i64 (i7)), (.int .i64 (i8))]), (.int .i64 (i9))])) [] 0 :=
  does_path (ct := ct) ctOk mixed (fn := Tryz.f154) rfl (by kernel_rfl) 2000 [.c (.v (.bool (b0))) [] 1, .f, .f, .c (.v (.agg #[(.int .u64 (i1)), (.int .u64 (i2)), (.bool (b3))])) [] 0, .c (.v (.agg #[(.int .u64 (i4)), (.int .u64 (i5)), (.bool (b6))])) [] 0, .c (.v (.tuple #[(.agg #[(.int .i64 (i7)), (.int .i64 (i8))]), (.int .i64 (i9))])) [] 0] (by kernel_rfl) (cj h0 (cj h1 (cj h2 (cj h3 (cj h4 (cj h5 (cj h6 (cj h7 cj0))))))))
theorem psum_1 (u x v y : Int) (s : Bool) (b0 : Bool) (h0 : Does cE 173 [(0, .ro 3 ([x, y]) false)] 1 [.o 0] (.v (.bool (b0))) [] 1) (h1 : (!b0) = true) : Does cE 223 [] 0 [.v (dc u x), .v (dc v y), .v (.bool s)] (.v (.tuple #[(.agg #[(.int .i64 (0)), (.int .i64 (0))]), (.int .i64 (1))])) [] 0 :=
  does_path (ct := ct) ctOk mixed (fn := Tryz.f223) rfl (by kernel_rfl) 2000 [.c (.v (.bool (b0))) [] 1, .t] (by kernel_rfl) (cj h0 (cj h1 cj0))
theorem psum_2 (u x v y : Int) (s : Bool) (b0 : Bool) (i1 : Int) (i2 : Int) (b3 : Bool) (i4 : Int) (i5 : Int) (b6 : Bool) (i7 : Int) (i8 : Int) (b9 : Bool) (i10 : Int) (i11 : Int) (i12 : Int) (h0 : Does cE 173 [(0, .ro 3 ([x, y]) false)] 1 [.o 0] (.v (.bool (b0))) [] 1) (h1 : (!b0) = false) (h2 : Does cE 174 [] 0 [.v (.agg #[(.int .i64 (u)), (.int .i64 (x))]), .v (.int .i64 (if y > x then y else x))] (.v (.agg #[(.int .u64 (i1)), (.int .u64 (i2)), (.bool (b3))])) [] 0) (h3 : Does cE 174 [] 0 [.v (.agg #[(.int .i64 (v)), (.int .i64 (y))]), .v (.int .i64 (if y > x then y else x))] (.v (.agg #[(.int .u64 (i4)), (.int .u64 (i5)), (.bool (b6))])) [] 0) (h4 : Does cE 175 [] 0 [.v (.agg #[(.int .u64 (i1)), (.int .u64 (i2)), (.bool (b3))]), .v (.agg #[(.int .u64 (i4)), (.int .u64 (i5)), (.bool (!b6 == s))])] (.v (.agg #[(.int .u64 (i7)), (.int .u64 (i8)), (.bool (b9))])) [] 0) (h5 : Does cE 215 [] 0 [.v (.agg #[(.int .u64 (i7)), (.int .u64 (i8)), (.bool (b9))]), .v (.int .i64 (if y > x then y else x))] (.v (.tuple #[(.agg #[(.int .i64 (i10)), (.int .i64 (i11))]), (.int .i64 (i12))])) [] 0) : Does cE 223 [] 0 [.v (dc u x), .v (dc v y), .v (.bool s)] (.v (.tuple #[(.agg #[(.int .i64 (i10)), (.int .i64 (i11))]), (.int .i64 (i12))])) [] 0 :=
  does_path (ct := ct) ctOk mixed (fn := Tryz.f223) rfl (by kernel_rfl) 2000 [.c (.v (.bool (b0))) [] 1, .f, .c (.v (.agg #[(.int .u64 (i1)), (.int .u64 (i2)), (.bool (b3))])) [] 0, .c (.v (.agg #[(.int .u64 (i4)), (.int .u64 (i5)), (.bool (b6))])) [] 0, .c (.v (.agg #[(.int .u64 (i7)), (.int .u64 (i8)), (.bool (b9))])) [] 0, .c (.v (.tuple #[(.agg #[(.int .i64 (i10)), (.int .i64 (i11))]), (.int .i64 (i12))])) [] 0] (by kernel_rfl) (cj h0 (cj h1 (cj h2 (cj h3 (cj h4 (cj h5 cj0))))))
theorem padd_1 (u x v y : Int) (i0 : Int) (i1 : Int) (i2 : Int) (h0 : Does cE 223 [] 0 [.v (.agg #[(.int .i64 (u)), (.int .i64 (x))]), .v (.agg #[(.int .i64 (v)), (.int .i64 (y))]), .v (.bool (false))] (.v (.tuple #[(.agg #[(.int .i64 (i0)), (.int .i64 (i1))]), (.int .i64 (i2))])) [] 0) : Does cE 166 [] 0 [.v (dc u x), .v (dc v y)] (.v (.tuple #[(.agg #[(.int .i64 (i0)), (.int .i64 (i1))]), (.int .i64 (i2))])) [] 0 :=
  does_path (ct := ct) ctOk mixed (fn := Tryz.f166) rfl (by kernel_rfl) 2000 [.c (.v (.tuple #[(.agg #[(.int .i64 (i0)), (.int .i64 (i1))]), (.int .i64 (i2))])) [] 0] (by kernel_rfl) (cj h0 cj0)
theorem psub_1 (u x v y : Int) (i0 : Int) (i1 : Int) (i2 : Int) (h0 : Does cE 223 [] 0 [.v (.agg #[(.int .i64 (u)), (.int .i64 (x))]), .v (.agg #[(.int .i64 (v)), (.int .i64 (y))]), .v (.bool (true))] (.v (.tuple #[(.agg #[(.int .i64 (i0)), (.int .i64 (i1))]), (.int .i64 (i2))])) [] 0) : Does cE 167 [] 0 [.v (dc u x), .v (dc v y)] (.v (.tuple #[(.agg #[(.int .i64 (i0)), (.int .i64 (i1))]), (.int .i64 (i2))])) [] 0 :=
  does_path (ct := ct) ctOk mixed (fn := Tryz.f167) rfl (by kernel_rfl) 2000 [.c (.v (.tuple #[(.agg #[(.int .i64 (i0)), (.int .i64 (i1))]), (.int .i64 (i2))])) [] 0] (by kernel_rfl) (cj h0 cj0)
theorem pneg_1 (u x : Int) (i0 : Int) (i1 : Int) (i2 : Int) (h0 : Does cE 167 [] 0 [.v (.agg #[(.int .i64 (0)), (.int .i64 (x))]), .v (.agg #[(.int .i64 (u)), (.int .i64 (x))])] (.v (.tuple #[(.agg #[(.int .i64 (i0)), (.int .i64 (i1))]), (.int .i64 (i2))])) [] 0) : Does cE 160 [] 0 [.v (dc u x)] (.v (.tuple #[(.agg #[(.int .i64 (i0)), (.int .i64 (i1))]), (.int .i64 (i2))])) [] 0 :=
  does_path (ct := ct) ctOk mixed (fn := Tryz.f160) rfl (by kernel_rfl) 2000 [.c (.v (.tuple #[(.agg #[(.int .i64 (i0)), (.int .i64 (i1))]), (.int .i64 (i2))])) [] 0] (by kernel_rfl) (cj h0 cj0)
theorem pmul_1 (u x v y : Int) (b0 : Bool) (h0 : Does cE 173 [(0, .ro 3 ([x, y]) false)] 1 [.o 0] (.v (.bool (b0))) [] 1) (h1 : (!b0) = true) : Does cE 164 [] 0 [.v (dc u x), .v (dc v y)] (.v (.tuple #[(.agg #[(.int .i64 (0)), (.int .i64 (0))]), (.int .i64 (1))])) [] 0 :=
  does_path (ct := ct) ctOk mixed (fn := Tryz.f164) rfl (by kernel_rfl) 2000 [.c (.v (.bool (b0))) [] 1, .t] (by kernel_rfl) (cj h0 (cj h1 cj0))
theorem pmul_2 (u x v y : Int) (b0 : Bool) (i1 : Int) (i2 : Int) (b3 : Bool) (i4 : Int) (i5 : Int) (b6 : Bool) (i7 : Int) (i8 : Int) (b9 : Bool) (i10 : Int) (i11 : Int) (b12 : Bool) (i13 : Int) (i14 : Int) (i15 : Int) (h0 : Does cE 173 [(0, .ro 3 ([x, y]) false)] 1 [.o 0] (.v (.bool (b0))) [] 1) (h1 : (!b0) = false) (h2 : Does cE 192 [] 0 [.v (.int .i64 (u))] (.v (.agg #[(.int .u64 (i1)), (.int .u64 (i2)), (.bool (b3))])) [] 0) (h3 : Does cE 192 [] 0 [.v (.int .i64 (v))] (.v (.agg #[(.int .u64 (i4)), (.int .u64 (i5)), (.bool (b6))])) [] 0) (h4 : Does cE 222 [] 0 [.v (.agg #[(.int .u64 (i1)), (.int .u64 (i2)), (.bool (b3))]), .v (.int .u64 (i5))] (.v (.agg #[(.int .u64 (i7)), (.int .u64 (i8)), (.bool (b9))])) [] 0) (h5 : decide (IntKind.i64.wrap (x + y) > 6) = true) (h6 : (0 : Int) ≤ IntKind.i64.wrap (IntKind.i64.wrap (x + y) - 6) ∧ IntKind.i64.wrap (IntKind.i64.wrap (x + y) - 6) < ((13 : Nat) : Int)) (h7 : (0 + (IntKind.i64.wrap (IntKind.i64.wrap (x + y) - 6)).toNat * 1).succ.le pow10.length) (h8 : Does cE 216 [] 0 [.v (.agg #[(.int .u64 (i7)), (.int .u64 (i8)), (.bool (!b3 == b6))]), .v (.agg #[(.int .u64 (0)), (.int .u64 (pow10.getD (0 + (IntKind.i64.wrap (IntKind.i64.wrap (x + y) - 6)).toNat * 1) 0)), (.bool (false))])] (.v (.agg #[(.int .u64 (i10)), (.int .u64 (i11)), (.bool (b12))])) [] 0) (h9 : Does cE 215 [] 0 [.v (.agg #[(.int .u64 (i10)), (.int .u64 (i11)), (.bool (b12))]), .v (.int .i64 (6))] (.v (.tuple #[(.agg #[(.int .i64 (i13)), (.int .i64 (i14))]), (.int .i64 (i15))])) [] 0) : Does cE 164 [] 0 [.v (dc u x), .v (dc v y)] (.v (.tuple #[(.agg #[(.int .i64 (i13)), (.int .i64 (i14))]), (.int .i64 (i15))])) [] 0 :=
  does_path (ct := ct) ctOk mixed (fn := Tryz.f164) rfl (by kernel_rfl) 2000 [.c (.v (.bool (b0))) [] 1, .f, .c (.v (.agg #[(.int .u64 (i1)), (.int .u64 (i2)), (.bool (b3))])) [] 0, .c (.v (.agg #[(.int .u64 (i4)), (.int .u64 (i5)), (.bool (b6))])) [] 0, .c (.v (.agg #[(.int .u64 (i7)), (.int .u64 (i8)), (.bool (b9))])) [] 0, .t, .c (.v (.agg #[(.int .u64 (i10)), (.int .u64 (i11)), (.bool (b12))])) [] 0, .c (.v (.tuple #[(.agg #[(.int .i64 (i13)), (.int .i64 (i14))]), (.int .i64 (i15))])) [] 0] (by kernel_rfl) (cj h0 (cj h1 (cj h2 (cj h3 (cj h4 (cj h5 (cj h6 (cj h7 (cj h8 (cj h9 cj0))))))))))
theorem pmul_3 (u x v y : Int) (b0 : Bool) (i1 : Int) (i2 : Int) (b3 : Bool) (i4 : Int) (i5 : Int) (b6 : Bool) (i7 : Int) (i8 : Int) (b9 : Bool) (i10 : Int) (i11 : Int) (i12 : Int) (h0 : Does cE 173 [(0, .ro 3 ([x, y]) false)] 1 [.o 0] (.v (.bool (b0))) [] 1) (h1 : (!b0) = false) (h2 : Does cE 192 [] 0 [.v (.int .i64 (u))] (.v (.agg #[(.int .u64 (i1)), (.int .u64 (i2)), (.bool (b3))])) [] 0) (h3 : Does cE 192 [] 0 [.v (.int .i64 (v))] (.v (.agg #[(.int .u64 (i4)), (.int .u64 (i5)), (.bool (b6))])) [] 0) (h4 : Does cE 222 [] 0 [.v (.agg #[(.int .u64 (i1)), (.int .u64 (i2)), (.bool (b3))]), .v (.int .u64 (i5))] (.v (.agg #[(.int .u64 (i7)), (.int .u64 (i8)), (.bool (b9))])) [] 0) (h5 : decide (IntKind.i64.wrap (x + y) > 6) = false) (h6 : Does cE 215 [] 0 [.v (.agg #[(.int .u64 (i7)), (.int .u64 (i8)), (.bool (!b3 == b6))]), .v (.int .i64 (IntKind.i64.wrap (x + y)))] (.v (.tuple #[(.agg #[(.int .i64 (i10)), (.int .i64 (i11))]), (.int .i64 (i12))])) [] 0) : Does cE 164 [] 0 [.v (dc u x), .v (dc v y)] (.v (.tuple #[(.agg #[(.int .i64 (i10)), (.int .i64 (i11))]), (.int .i64 (i12))])) [] 0 :=
  does_path (ct := ct) ctOk mixed (fn := Tryz.f164) rfl (by kernel_rfl) 2000 [.c (.v (.bool (b0))) [] 1, .f, .c (.v (.agg #[(.int .u64 (i1)), (.int .u64 (i2)), (.bool (b3))])) [] 0, .c (.v (.agg #[(.int .u64 (i4)), (.int .u64 (i5)), (.bool (b6))])) [] 0, .c (.v (.agg #[(.int .u64 (i7)), (.int .u64 (i8)), (.bool (b9))])) [] 0, .f, .c (.v (.tuple #[(.agg #[(.int .i64 (i10)), (.int .i64 (i11))]), (.int .i64 (i12))])) [] 0] (by kernel_rfl) (cj h0 (cj h1 (cj h2 (cj h3 (cj h4 (cj h5 (cj h6 cj0)))))))
theorem pdiv_1 (u x v y sc : Int) (b0 : Bool) (h0 : Does cE 173 [(0, .ro 3 ([x, y, sc]) false)] 1 [.o 0] (.v (.bool (b0))) [] 1) (h1 : (!b0) = true) : Does cE 165 [] 0 [.v (dc u x), .v (dc v y), .v (it sc)] (.v (.tuple #[(.agg #[(.int .i64 (0)), (.int .i64 (0))]), (.int .i64 (1))])) [] 0 :=
  does_path (ct := ct) ctOk mixed (fn := Tryz.f165) rfl (by kernel_rfl) 2000 [.c (.v (.bool (b0))) [] 1, .t] (by kernel_rfl) (cj h0 (cj h1 cj0))
theorem pdiv_2 (u x v y sc : Int) (b0 : Bool) (h0 : Does cE 173 [(0, .ro 3 ([x, y, sc]) false)] 1 [.o 0] (.v (.bool (b0))) [] 1) (h1 : (!b0) = false) (h2 : (v == 0) = true) : Does cE 165 [] 0 [.v (dc u x), .v (dc v y), .v (it sc)] (.v (.tuple #[(.agg #[(.int .i64 (0)), (.int .i64 (0))]), (.int .i64 (33))])) [] 0 :=
  does_path (ct := ct) ctOk mixed (fn := Tryz.f165) rfl (by kernel_rfl) 2000 [.c (.v (.bool (b0))) [] 1, .f, .t] (by kernel_rfl) (cj h0 (cj h1 (cj h2 cj0)))
theorem pdiv_3 (u x v y sc : Int) (b0 : Bool) (i1 : Int) (i2 : Int) (b3 : Bool) (i4 : Int) (i5 : Int) (b6 : Bool) (i7 : Int) (i8 : Int) (b9 : Bool) (i10 : Int) (i11 : Int) (b12 : Bool) (i13 : Int) (i14 : Int) (b15 : Bool) (i16 : Int) (i17 : Int) (i18 : Int) (h0 : Does cE 173 [(0, .ro 3 ([x, y, sc]) false)] 1 [.o 0] (.v (.bool (b0))) [] 1) (h1 : (!b0) = false) (h2 : (v == 0) = false) (h3 : Does cE 192 [] 0 [.v (.int .i64 (u))] (.v (.agg #[(.int .u64 (i1)), (.int .u64 (i2)), (.bool (b3))])) [] 0) (h4 : (0 : Int) ≤ IntKind.i64.wrap (y + sc) ∧ IntKind.i64.wrap (y + sc) < ((13 : Nat) : Int)) (h5 : (0 + (IntKind.i64.wrap (y + sc)).toNat * 1).succ.le pow10.length) (h6 : Does cE 222 [] 0 [.v (.agg #[(.int .u64 (i1)), (.int .u64 (i2)), (.bool (b3))]), .v (.int .u64 (pow10.getD (0 + (IntKind.i64.wrap (y + sc)).toNat * 1) 0))] (.v (.agg #[(.int .u64 (i4)), (.int .u64 (i5)), (.bool (b6))])) [] 0) (h7 : Does cE 192 [] 0 [.v (.int .i64 (v))] (.v (.agg #[(.int .u64 (i7)), (.int .u64 (i8)), (.bool (b9))])) [] 0) (h8 : (0 : Int) ≤ x ∧ x < ((13 : Nat) : Int)) (h9 : (0 + x.toNat * 1).succ.le pow10.length) (h10 : Does cE 222 [] 0 [.v (.agg #[(.int .u64 (i7)), (.int .u64 (i8)), (.bool (b9))]), .v (.int .u64 (pow10.getD (0 + x.toNat * 1) 0))] (.v (.agg #[(.int .u64 (i10)), (.int .u64 (i11)), (.bool (b12))])) [] 0) (h11 : Does cE 216 [] 0 [.v (.agg #[(.int .u64 (i4)), (.int .u64 (i5)), (.bool (!b6 == b12))]), .v (.agg #[(.int .u64 (i10)), (.int .u64 (i11)), (.bool (b12))])] (.v (.agg #[(.int .u64 (i13)), (.int .u64 (i14)), (.bool (b15))])) [] 0) (h12 : Does cE 215 [] 0 [.v (.agg #[(.int .u64 (i13)), (.int .u64 (i14)), (.bool (b15))]), .v (.int .i64 (sc))] (.v (.tuple #[(.agg #[(.int .i64 (i16)), (.int .i64 (i17))]), (.int .i64 (i18))])) [] 0) : Does cE 165 [] 0 [.v (dc u x), .v (dc v y), .v (it sc)] (.v (.tuple #[(.agg #[(.int .i64 (i16)), (.int .i64 (i17))]), (.int .i64 (i18))])) [] 0 :=
  does_path (ct := ct) ctOk mixed (fn := Tryz.f165) rfl (by kernel_rfl) 2000 [.c (.v (.bool (b0))) [] 1, .f, .f, .c (.v (.agg #[(.int .u64 (i1)), (.int .u64 (i2)), (.bool (b3))])) [] 0, .c (.v (.agg #[(.int .u64 (i4)), (.int .u64 (i5)), (.bool (b6))])) [] 0, .c (.v (.agg #[(.int .u64 (i7)), (.int .u64 (i8)), (.bool (b9))])) [] 0, .c (.v (.agg #[(.int .u64 (i10)), (.int .u64 (i11)), (.bool (b12))])) [] 0, .c (.v (.agg #[(.int .u64 (i13)), (.int .u64 (i14)), (.bool (b15))])) [] 0, .c (.v (.tuple #[(.agg #[(.int .i64 (i16)), (.int .i64 (i17))]), (.int .i64 (i18))])) [] 0] (by kernel_rfl) (cj h0 (cj h1 (cj h2 (cj h3 (cj h4 (cj h5 (cj h6 (cj h7 (cj h8 (cj h9 (cj h10 (cj h11 (cj h12 cj0)))))))))))))
theorem pcmp_1 (u x v y : Int) (b0 : Bool) (h0 : Does cE 173 [(0, .ro 3 ([x, y]) false)] 1 [.o 0] (.v (.bool (b0))) [] 1) (h1 : (!b0) = true) : Does cE 93 [] 0 [.v (dc u x), .v (dc v y)] (.v (.int .i64 (0))) [] 0 :=
  does_path (ct := ct) ctOk mixed (fn := Tryz.f93) rfl (by kernel_rfl) 2000 [.c (.v (.bool (b0))) [] 1, .t] (by kernel_rfl) (cj h0 (cj h1 cj0))
theorem pcmp_2 (u x v y : Int) (b0 : Bool) (i1 : Int) (i2 : Int) (b3 : Bool) (i4 : Int) (i5 : Int) (b6 : Bool) (i7 : Int) (i8 : Int) (b9 : Bool) (h0 : Does cE 173 [(0, .ro 3 ([x, y]) false)] 1 [.o 0] (.v (.bool (b0))) [] 1) (h1 : (!b0) = false) (h2 : Does cE 174 [] 0 [.v (.agg #[(.int .i64 (u)), (.int .i64 (x))]), .v (.int .i64 (6))] (.v (.agg #[(.int .u64 (i1)), (.int .u64 (i2)), (.bool (b3))])) [] 0) (h3 : Does cE 174 [] 0 [.v (.agg #[(.int .i64 (v)), (.int .i64 (y))]), .v (.int .i64 (6))] (.v (.agg #[(.int .u64 (i4)), (.int .u64 (i5)), (.bool (b6))])) [] 0) (h4 : Does cE 175 [] 0 [.v (.agg #[(.int .u64 (i1)), (.int .u64 (i2)), (.bool (b3))]), .v (.agg #[(.int .u64 (i4)), (.int .u64 (i5)), (.bool (!b6))])] (.v (.agg #[(.int .u64 (i7)), (.int .u64 (i8)), (.bool (b9))])) [] 0) (h5 : (IntKind.u64.wrap ↑(BitVec.ofInt 64 i7 ||| BitVec.ofInt 64 i8).toNat == 0) = true) : Does cE 93 [] 0 [.v (dc u x), .v (dc v y)] (.v (.int .i64 (0))) [] 0 :=
  does_path (ct := ct) ctOk mixed (fn := Tryz.f93) rfl (by kernel_rfl) 2000 [.c (.v (.bool (b0))) [] 1, .f, .c (.v (.agg #[(.int .u64 (i1)), (.int .u64 (i2)), (.bool (b3))])) [] 0, .c (.v (.agg #[(.int .u64 (i4)), (.int .u64 (i5)), (.bool (b6))])) [] 0, .c (.v (.agg #[(.int .u64 (i7)), (.int .u64 (i8)), (.bool (b9))])) [] 0, .t] (by kernel_rfl) (cj h0 (cj h1 (cj h2 (cj h3 (cj h4 (cj h5 cj0))))))
theorem pcmp_3 (u x v y : Int) (b0 : Bool) (i1 : Int) (i2 : Int) (b3 : Bool) (i4 : Int) (i5 : Int) (b6 : Bool) (i7 : Int) (i8 : Int) (b9 : Bool) (h0 : Does cE 173 [(0, .ro 3 ([x, y]) false)] 1 [.o 0] (.v (.bool (b0))) [] 1) (h1 : (!b0) = false) (h2 : Does cE 174 [] 0 [.v (.agg #[(.int .i64 (u)), (.int .i64 (x))]), .v (.int .i64 (6))] (.v (.agg #[(.int .u64 (i1)), (.int .u64 (i2)), (.bool (b3))])) [] 0) (h3 : Does cE 174 [] 0 [.v (.agg #[(.int .i64 (v)), (.int .i64 (y))]), .v (.int .i64 (6))] (.v (.agg #[(.int .u64 (i4)), (.int .u64 (i5)), (.bool (b6))])) [] 0) (h4 : Does cE 175 [] 0 [.v (.agg #[(.int .u64 (i1)), (.int .u64 (i2)), (.bool (b3))]), .v (.agg #[(.int .u64 (i4)), (.int .u64 (i5)), (.bool (!b6))])] (.v (.agg #[(.int .u64 (i7)), (.int .u64 (i8)), (.bool (b9))])) [] 0) (h5 : (IntKind.u64.wrap ↑(BitVec.ofInt 64 i7 ||| BitVec.ofInt 64 i8).toNat == 0) = false) (h6 : b9 = true) : Does cE 93 [] 0 [.v (dc u x), .v (dc v y)] (.v (.int .i64 (-1))) [] 0 :=
  does_path (ct := ct) ctOk mixed (fn := Tryz.f93) rfl (by kernel_rfl) 2000 [.c (.v (.bool (b0))) [] 1, .f, .c (.v (.agg #[(.int .u64 (i1)), (.int .u64 (i2)), (.bool (b3))])) [] 0, .c (.v (.agg #[(.int .u64 (i4)), (.int .u64 (i5)), (.bool (b6))])) [] 0, .c (.v (.agg #[(.int .u64 (i7)), (.int .u64 (i8)), (.bool (b9))])) [] 0, .f, .t] (by kernel_rfl) (cj h0 (cj h1 (cj h2 (cj h3 (cj h4 (cj h5 (cj h6 cj0)))))))
theorem pcmp_4 (u x v y : Int) (b0 : Bool) (i1 : Int) (i2 : Int) (b3 : Bool) (i4 : Int) (i5 : Int) (b6 : Bool) (i7 : Int) (i8 : Int) (b9 : Bool) (h0 : Does cE 173 [(0, .ro 3 ([x, y]) false)] 1 [.o 0] (.v (.bool (b0))) [] 1) (h1 : (!b0) = false) (h2 : Does cE 174 [] 0 [.v (.agg #[(.int .i64 (u)), (.int .i64 (x))]), .v (.int .i64 (6))] (.v (.agg #[(.int .u64 (i1)), (.int .u64 (i2)), (.bool (b3))])) [] 0) (h3 : Does cE 174 [] 0 [.v (.agg #[(.int .i64 (v)), (.int .i64 (y))]), .v (.int .i64 (6))] (.v (.agg #[(.int .u64 (i4)), (.int .u64 (i5)), (.bool (b6))])) [] 0) (h4 : Does cE 175 [] 0 [.v (.agg #[(.int .u64 (i1)), (.int .u64 (i2)), (.bool (b3))]), .v (.agg #[(.int .u64 (i4)), (.int .u64 (i5)), (.bool (!b6))])] (.v (.agg #[(.int .u64 (i7)), (.int .u64 (i8)), (.bool (b9))])) [] 0) (h5 : (IntKind.u64.wrap ↑(BitVec.ofInt 64 i7 ||| BitVec.ofInt 64 i8).toNat == 0) = false) (h6 : b9 = false) : Does cE 93 [] 0 [.v (dc u x), .v (dc v y)] (.v (.int .i64 (1))) [] 0 :=
  does_path (ct := ct) ctOk mixed (fn := Tryz.f93) rfl (by kernel_rfl) 2000 [.c (.v (.bool (b0))) [] 1, .f, .c (.v (.agg #[(.int .u64 (i1)), (.int .u64 (i2)), (.bool (b3))])) [] 0, .c (.v (.agg #[(.int .u64 (i4)), (.int .u64 (i5)), (.bool (b6))])) [] 0, .c (.v (.agg #[(.int .u64 (i7)), (.int .u64 (i8)), (.bool (b9))])) [] 0, .f, .f] (by kernel_rfl) (cj h0 (cj h1 (cj h2 (cj h3 (cj h4 (cj h5 (cj h6 cj0)))))))
theorem paddi_1 (u v : Int) (i0 : Int) (i1 : Int) (i2 : Int) (h0 : Does cE 166 [] 0 [.v (.agg #[(.int .i64 (u)), (.int .i64 (0))]), .v (.agg #[(.int .i64 (v)), (.int .i64 (0))])] (.v (.tuple #[(.agg #[(.int .i64 (i0)), (.int .i64 (i1))]), (.int .i64 (i2))])) [] 0) : Does cE 221 [] 0 [.v (it u), .v (it v)] (.v (.tuple #[(.int .i64 (i0)), (.int .i64 (i2))])) [] 0 :=
  does_path (ct := ct) ctOk mixed (fn := Tryz.f221) rfl (by kernel_rfl) 2000 [.c (.v (.tuple #[(.agg #[(.int .i64 (i0)), (.int .i64 (i1))]), (.int .i64 (i2))])) [] 0] (by kernel_rfl) (cj h0 cj0)
theorem pmuli_1 (u v : Int) (i0 : Int) (i1 : Int) (i2 : Int) (h0 : Does cE 164 [] 0 [.v (.agg #[(.int .i64 (u)), (.int .i64 (0))]), .v (.agg #[(.int .i64 (v)), (.int .i64 (0))])] (.v (.tuple #[(.agg #[(.int .i64 (i0)), (.int .i64 (i1))]), (.int .i64 (i2))])) [] 0) : Does cE 220 [] 0 [.v (it u), .v (it v)] (.v (.tuple #[(.int .i64 (i0)), (.int .i64 (i2))])) [] 0 :=
  does_path (ct := ct) ctOk mixed (fn := Tryz.f220) rfl (by kernel_rfl) 2000 [.c (.v (.tuple #[(.agg #[(.int .i64 (i0)), (.int .i64 (i1))]), (.int .i64 (i2))])) [] 0] (by kernel_rfl) (cj h0 cj0)
end Go.Proofs.YtnchjdhepakokaaGreatDoorC
/- What the program's decimals come to. -/
namespace Go.Proofs.YtnchjdhepakokaaGreatDoorC
open Go.Proofs Go.Proofs.YtnchjdhepakokaaGreatDoorSx
set_option maxRecDepth 100000
set_option linter.unusedVariables false
def p10 (z : Int) : Int := 10 ^ z.toNat
abbrev sc6 (x : Int) : Prop := 0 ≤ x ∧ x ≤ 6
theorem p10_le {z : Int} (h : z ≤ 12) : 1 ≤ p10 z ∧ p10 z ≤ 1000000000000 := by
  unfold p10
  have h1 : (10 : Nat) ^ z.toNat ≤ 10 ^ 12 := Nat.pow_le_pow_right (by decide) (by omega)
  have h2 : 0 < (10 : Nat) ^ z.toNat := Nat.pow_pos (by decide)
  have h3 : ((10 ^ z.toNat : Nat) : Int) = (10 : Int) ^ z.toNat := by simp
  omega
theorem p10_get {z : Int} (h0 : 0 ≤ z) (h : z ≤ 12) : pow10.getD (0 + z.toNat * 1) 0 = p10 z := by
  have hp := pow10_get ⟨z.toNat, by omega⟩
  simp only at hp
  rw [Nat.zero_add, Nat.mul_one, hp]
  rfl
theorem p10_lt {z : Int} (h0 : 0 ≤ z) (h : z ≤ 12) : (0 + z.toNat * 1).succ.le pow10.length := by
  show 0 + z.toNat * 1 < 13
  omega
/-! ### What each comes to -/
def rescM (u x sc : Int) : Int × Int × Int :=
  if sc6 x ∧ sc6 sc then (if sc ≥ x then fitP (ab u * p10 (sc - x)) (ng u) sc else fitP (rnd (ab u) (p10 (x - sc))) (ng u) sc) else (0, 0, 1)
abbrev mx (x y : Int) : Int := if y > x then y else x
def sumM (u x v y : Int) (t : Bool) : Int × Int × Int :=
  if sc6 x ∧ sc6 y then fitP (addM (ab u * p10 (mx x y - x)) (ng u) (ab v * p10 (mx x y - y)) (ng v != t)).1 (addM (ab u * p10 (mx x y - x)) (ng u) (ab v * p10 (mx x y - y)) (ng v != t)).2 (mx x y) else (0, 0, 1)
def mulM (u x v y : Int) : Int × Int × Int :=
  if sc6 x ∧ sc6 y then (if x + y > 6 then fitP (rnd (ab u * ab v) (p10 (x + y - 6))) (ng u != ng v) 6 else fitP (ab u * ab v) (ng u != ng v) (x + y)) else (0, 0, 1)
def divM (u x v y sc : Int) : Int × Int × Int :=
  if sc6 x ∧ sc6 y ∧ sc6 sc then (if v = 0 then (0, 0, 33) else fitP (rnd (ab u * p10 (y + sc)) (ab v * p10 x)) (ng u != ng v) sc) else (0, 0, 1)
def cmpM (u x v y : Int) : Int :=
  if sc6 x ∧ sc6 y then (if (addM (ab u * p10 (6 - x)) (ng u) (ab v * p10 (6 - y)) (!ng v)).1 = 0 then 0 else if (addM (ab u * p10 (6 - x)) (ng u) (ab v * p10 (6 - y)) (!ng v)).2 then -1 else 1) else 0
theorem all1 (x y : Int) : [x, y].all inS = decide (sc6 x ∧ sc6 y) := by
  simp [sc6]
theorem all2 (x y z : Int) : [x, y, z].all inS = decide (sc6 x ∧ sc6 y ∧ sc6 z) := by
  simp [sc6]
theorem sc2_does (x y : Int) : Does cE 173 [(0, .ro 3 ([x, y] : List Int) false)] 1 [.o 0] (.v (.bool (decide (sc6 x ∧ sc6 y)))) [] 1 := by
  have := scales_does [x, y] (by simp)
  rw [all1] at this
  exact this
theorem sc3_does (x y z : Int) : Does cE 173 [(0, .ro 3 ([x, y, z] : List Int) false)] 1 [.o 0] (.v (.bool (decide (sc6 x ∧ sc6 y ∧ sc6 z)))) [] 1 := by
  have := scales_does [x, y, z] (by simp)
  rw [all2] at this
  exact this
theorem ab_bound {u : Int} (hu : I64 u) : 0 ≤ ab u ∧ ab u ≤ 9223372036854775808 := by
  have := ab_spec u
  omega
theorem up_mul {u z : Int} (hu : I64 u) (h : z ≤ 12) : 0 ≤ ab u * p10 z ∧ ab u * p10 z ≤ 9223372036854775808000000000000 := by
  have := mul_small (ab_bound hu) (b := p10 z) (B := 1000000000000) (by have := p10_le h; omega)
  omega
theorem up_does {u x sc : Int} (hu : I64 u) (h0 : 0 ≤ sc - x) (h1 : sc - x ≤ 12) : Does cE 174 [] 0 [.v (dc u x), .v (it sc)] (.v (Bv (ab u * p10 (sc - x)) (ng u))) [] 0 :=
  pup_does hu (sc - x).toNat (by omega) (by omega)
theorem Bv_small {n : Int} (h0 : 0 ≤ n) (h1 : n < 18446744073709551616) (s : Bool) : Bv n s = bg 0 n s := by
  have e1 : n / 18446744073709551616 = 0 := by omega
  have e2 : n % 18446744073709551616 = n := by omega
  unfold Bv
  rw [e1, e2]
theorem presc_does {u x sc : Int} (hu : I64 u) (hx : I64 x) (hs : I64 sc) : Does cE 154 [] 0 [.v (dc u x), .v (it sc)] (.v (ans (rescM u x sc))) [] 0 := by
  have hsc := sc2_does x sc
  have hb := ab_bound hu
  unfold rescM
  by_cases hok : sc6 x ∧ sc6 sc
  · rw [decide_eq_true hok] at hsc
    rw [if_pos hok]
    by_cases hge : sc ≥ x
    · rw [if_pos hge]
      have hm := up_mul (z := sc - x) hu (by omega)
      exact resc_2 (h0 := hsc) (h1 := rfl) (h2 := by simpa using hge) (h3 := up_does hu (by omega) (by omega)) (h4 := pback_does hm.1 (by unfold big128; omega) _ _)
    · rw [if_neg hge]
      have hp := p10_le (z := x - sc) (by omega)
      have w : IntKind.i64.wrap (x - sc) = x - sc := wrap64 (by omega) (by omega)
      have hr := rnd_le hb.1 (y := p10 (x - sc)) (by omega)
      have hrn := rnd_nonneg hb.1 (y := p10 (x - sc)) (by omega)
      have hby := by_does (x := ab u) (y := p10 (x - sc)) (by unfold big128; omega) (by omega) (by omega) (ng u) false
      rw [Bv_small (n := p10 (x - sc)) (by omega) (by omega)] at hby
      have hback := pback_does (x := rnd (ab u) (p10 (x - sc))) hrn (by unfold big128; omega) (ng u) sc
      have hg := p10_get (z := x - sc) (by omega) (by omega)
      rw [← hg, ← w] at hby
      exact resc_3 (h0 := hsc) (h1 := rfl) (h2 := by simpa using hge) (h3 := pof_does hu) (h4 := by rw [w]; omega) (h5 := by rw [w]; exact p10_lt (by omega) (by omega)) (h6 := hby) (h7 := by rw [w, hg]; exact hback)
  · rw [decide_eq_false hok] at hsc
    rw [if_neg hok]
    exact resc_1 u x sc false hsc rfl
theorem addM_bound {x y B : Int} (hx : 0 ≤ x) (hy : 0 ≤ y) (s t : Bool) : 0 ≤ (addM x s y t).1 ∧ (addM x s y t).1 ≤ x + y := by
  unfold addM
  split
  · simp only; omega
  · split <;> (simp only; omega)
theorem psum_does {u x v y : Int} (hu : I64 u) (hx : I64 x) (hv : I64 v) (hy : I64 y) (t : Bool) : Does cE 223 [] 0 [.v (dc u x), .v (dc v y), .v (.bool t)] (.v (ans (sumM u x v y t))) [] 0 := by
  have hsc := sc2_does x y
  unfold sumM
  by_cases hok : sc6 x ∧ sc6 y
  · rw [decide_eq_true hok] at hsc
    rw [if_pos hok]
    have hmx : mx x y ≤ 6 ∧ x ≤ mx x y ∧ y ≤ mx x y := by unfold mx; split <;> omega
    have m1 := up_mul (z := mx x y - x) hu (by omega)
    have m2 := up_mul (z := mx x y - y) hv (by omega)
    have hb := addM_bound (B := 0) m1.1 m2.1 (ng u) (ng v != t)
    exact psum_2 (h0 := hsc) (h1 := rfl) (h2 := up_does hu (by omega) (by omega)) (h3 := up_does hv (by omega) (by omega)) (h4 := pplus_does m1.1 m2.1 (by unfold big128; omega) _ _) (h5 := pback_does hb.1 (by unfold big128; omega) _ _)
  · rw [decide_eq_false hok] at hsc
    rw [if_neg hok]
    exact psum_1 u x v y t false hsc rfl
theorem padd_does {u x v y : Int} (hu : I64 u) (hx : I64 x) (hv : I64 v) (hy : I64 y) : Does cE 166 [] 0 [.v (dc u x), .v (dc v y)] (.v (ans (sumM u x v y false))) [] 0 :=
  padd_1 (h0 := psum_does hu hx hv hy false)
theorem psub_does {u x v y : Int} (hu : I64 u) (hx : I64 x) (hv : I64 v) (hy : I64 y) : Does cE 167 [] 0 [.v (dc u x), .v (dc v y)] (.v (ans (sumM u x v y true))) [] 0 :=
  psub_1 (h0 := psum_does hu hx hv hy true)
theorem pneg_does {u x : Int} (hu : I64 u) (hx : I64 x) : Does cE 160 [] 0 [.v (dc u x)] (.v (ans (sumM 0 x u x true))) [] 0 :=
  pneg_1 (h0 := psub_does (by decide) hx hu hx)
theorem pmul_does {u x v y : Int} (hu : I64 u) (hx : I64 x) (hv : I64 v) (hy : I64 y) : Does cE 164 [] 0 [.v (dc u x), .v (dc v y)] (.v (ans (mulM u x v y))) [] 0 := by
  have hsc := sc2_does x y
  have hbu := ab_bound hu
  have hbv := ab_bound hv
  have hm := mul_small hbu hbv
  unfold mulM
  by_cases hok : sc6 x ∧ sc6 y
  · rw [decide_eq_true hok] at hsc
    rw [if_pos hok]
    have ht := ptimes_does (x := ab u) (n := ab v) hbu.1 (by unfold U64; omega) (by unfold big128; omega) (by unfold big128; omega) (ng u)
    have hov := pof_does hv
    rw [Bv_small hbv.1 (by omega)] at hov
    have w1 : IntKind.i64.wrap (x + y) = x + y := wrap64 (by omega) (by omega)
    have w2 : IntKind.i64.wrap (x + y - 6) = x + y - 6 := wrap64 (by omega) (by omega)
    by_cases h6 : x + y > 6
    · rw [if_pos h6]
      have hp := p10_le (z := x + y - 6) (by omega)
      have hr := rnd_le hm.1 (y := p10 (x + y - 6)) (by omega)
      have hrn := rnd_nonneg hm.1 (y := p10 (x + y - 6)) (by omega)
      have hby := by_does (x := ab u * ab v) (y := p10 (x + y - 6)) (by unfold big128; omega) (by omega) (by omega) (ng u != ng v) false
      rw [Bv_small (n := p10 (x + y - 6)) (by omega) (by omega)] at hby
      have hback := pback_does (x := rnd (ab u * ab v) (p10 (x + y - 6))) hrn (by unfold big128; omega) (ng u != ng v) 6
      have hg := p10_get (z := x + y - 6) (by omega) (by omega)
      have h := fun g5 g6 g7 g8 => pmul_2 (h0 := hsc) (h1 := rfl) (h2 := pof_does hu) (h3 := hov) (h4 := ht) (h5 := g5) (h6 := g6) (h7 := g7) (h8 := g8) (h9 := hback)
      rw [w1, w2, hg] at h
      exact h (by simpa using h6) ⟨by omega, by omega⟩ (p10_lt (by omega) (by omega)) hby
    · rw [if_neg h6]
      have hback := pback_does (x := ab u * ab v) hm.1 (by unfold big128; omega) (ng u != ng v) (x + y)
      have h := fun g5 => pmul_3 (h0 := hsc) (h1 := rfl) (h2 := pof_does hu) (h3 := hov) (h4 := ht) (h5 := g5) (h6 := by rw [w1]; exact hback)
      rw [w1] at h
      exact h (by simpa using h6)
  · rw [decide_eq_false hok] at hsc
    rw [if_neg hok]
    exact pmul_1 u x v y false hsc rfl
theorem ab_pos {v : Int} (h : v ≠ 0) : 0 < ab v := by
  have := ab_spec v
  omega
theorem pdiv_does {u x v y sc : Int} (hu : I64 u) (hx : I64 x) (hv : I64 v) (hy : I64 y) (hs : I64 sc) : Does cE 165 [] 0 [.v (dc u x), .v (dc v y), .v (it sc)] (.v (ans (divM u x v y sc))) [] 0 := by
  have hsc := sc3_does x y sc
  have hbu := ab_bound hu
  have hbv := ab_bound hv
  unfold divM
  by_cases hok : sc6 x ∧ sc6 y ∧ sc6 sc
  · rw [decide_eq_true hok] at hsc
    rw [if_pos hok]
    by_cases hv0 : v = 0
    · rw [if_pos hv0]
      exact pdiv_2 u x v y sc true hsc rfl (by simpa using hv0)
    · rw [if_neg hv0]
      have w1 : IntKind.i64.wrap (y + sc) = y + sc := wrap64 (by omega) (by omega)
      have hp1 := p10_le (z := y + sc) (by omega)
      have hp2 := p10_le (z := x) (by omega)
      have m1 := up_mul (z := y + sc) hu (by omega)
      have m2 := up_mul (z := x) hv (by omega)
      have hpos : 0 < ab v * p10 x := Int.mul_pos (ab_pos hv0) (by omega)
      have m3 : ab v * p10 x ≤ 9223372036854775808000000 * 1000000 := by omega
      have t1 := ptimes_does (x := ab u) (n := p10 (y + sc)) hbu.1 (by unfold U64; omega) (by unfold big128; omega) (by unfold big128; omega) (ng u)
      have t2 := ptimes_does (x := ab v) (n := p10 x) hbv.1 (by unfold U64; omega) (by unfold big128; omega) (by unfold big128; omega) (ng v)
      have hr := rnd_le m1.1 hpos
      have hrn := rnd_nonneg m1.1 hpos
      have hby := by_does (x := ab u * p10 (y + sc)) (y := ab v * p10 x) (by unfold big128; omega) hpos (by omega) (ng u != ng v) (ng v)
      have hback := pback_does (x := rnd (ab u * p10 (y + sc)) (ab v * p10 x)) hrn (by unfold big128; omega) (ng u != ng v) sc
      have h := fun g4 g5 g6 g8 g9 g10 => pdiv_3 (h0 := hsc) (h1 := rfl) (h2 := by simpa using hv0) (h3 := pof_does hu) (h4 := g4) (h5 := g5) (h6 := g6) (h7 := pof_does hv) (h8 := g8) (h9 := g9) (h10 := g10) (h11 := hby) (h12 := hback)
      rw [w1, p10_get (by omega) (by omega), p10_get (by omega) (by omega)] at h
      exact h ⟨by omega, by omega⟩ (p10_lt (by omega) (by omega)) t1 ⟨by omega, by omega⟩ (p10_lt (by omega) (by omega)) t2
  · rw [decide_eq_false hok] at hsc
    rw [if_neg hok]
    exact pdiv_1 u x v y sc false hsc rfl
theorem or_zero {a b : Int} (ha : U64 a) (hb : U64 b) : (IntKind.u64.wrap ↑(BitVec.ofInt 64 a ||| BitVec.ofInt 64 b).toNat == 0) = decide (a = 0 ∧ b = 0) := by
  rw [BitVec.toNat_or, BitVec.toNat_ofInt, BitVec.toNat_ofInt]
  have a1 : (a % ((2 ^ 64 : Nat) : Int)).toNat = a.toNat := by unfold U64 at ha; omega
  have a2 : (b % ((2 ^ 64 : Nat) : Int)).toNat = b.toNat := by unfold U64 at hb; omega
  rw [a1, a2]
  have hlt : a.toNat ||| b.toNat < 2 ^ 64 := Nat.or_lt_two_pow (by unfold U64 at ha; omega) (by unfold U64 at hb; omega)
  rw [wrU (by omega) (by omega)]
  unfold U64 at ha hb
  by_cases h : a = 0 ∧ b = 0
  · rw [decide_eq_true h, h.1, h.2]
    rfl
  · rw [decide_eq_false h]
    refine beq_false_of_ne fun h0 => h ?_
    have h1 : a.toNat ||| b.toNat = 0 := by omega
    have h2 := @Nat.left_le_or a.toNat b.toNat
    have h3 := @Nat.right_le_or a.toNat b.toNat
    omega
theorem pcmp_does {u x v y : Int} (hu : I64 u) (hx : I64 x) (hv : I64 v) (hy : I64 y) : Does cE 93 [] 0 [.v (dc u x), .v (dc v y)] (.v (it (cmpM u x v y))) [] 0 := by
  have hsc := sc2_does x y
  unfold cmpM
  by_cases hok : sc6 x ∧ sc6 y
  · rw [decide_eq_true hok] at hsc
    rw [if_pos hok]
    have m1 := up_mul (z := 6 - x) hu (by omega)
    have m2 := up_mul (z := 6 - y) hv (by omega)
    have hb := addM_bound (B := 0) m1.1 m2.1 (ng u) (!ng v)
    have hpl := pplus_does m1.1 m2.1 (by unfold big128; omega) (ng u) (!ng v)
    generalize addM (ab u * p10 (6 - x)) (ng u) (ab v * p10 (6 - y)) (!ng v) = D at hb hpl
    obtain ⟨d, e⟩ := D
    simp only at hb hpl ⊢
    have hz : decide (d / 18446744073709551616 = 0 ∧ d % 18446744073709551616 = 0) = decide (d = 0) := by rw [decide_eq_decide]; omega
    have ho := or_zero (a := d / 18446744073709551616) (b := d % 18446744073709551616) (by unfold U64; omega) (by unfold U64; omega)
    rw [hz] at ho
    by_cases h0 : d = 0
    · rw [if_pos h0]
      rw [decide_eq_true h0] at ho
      exact pcmp_2 (h0 := hsc) (h1 := rfl) (h2 := up_does hu (by omega) (by omega)) (h3 := up_does hv (by omega) (by omega)) (h4 := hpl) (h5 := ho)
    · rw [if_neg h0]
      rw [decide_eq_false h0] at ho
      cases e with
      | true => exact pcmp_3 (h0 := hsc) (h1 := rfl) (h2 := up_does hu (by omega) (by omega)) (h3 := up_does hv (by omega) (by omega)) (h4 := hpl) (h5 := ho) (h6 := rfl)
      | false => exact pcmp_4 (h0 := hsc) (h1 := rfl) (h2 := up_does hu (by omega) (by omega)) (h3 := up_does hv (by omega) (by omega)) (h4 := hpl) (h5 := ho) (h6 := rfl)
  · rw [decide_eq_false hok] at hsc
    rw [if_neg hok]
    exact pcmp_1 u x v y false hsc rfl
theorem paddi_does {u v : Int} (hu : I64 u) (hv : I64 v) : Does cE 221 [] 0 [.v (it u), .v (it v)] (.v (.tuple #[it (sumM u 0 v 0 false).1, it (sumM u 0 v 0 false).2.2])) [] 0 :=
  paddi_1 (h0 := padd_does hu (by decide) hv (by decide))
theorem pmuli_does {u v : Int} (hu : I64 u) (hv : I64 v) : Does cE 220 [] 0 [.v (it u), .v (it v)] (.v (.tuple #[it (mulM u 0 v 0).1, it (mulM u 0 v 0).2.2])) [] 0 :=
  pmuli_1 (h0 := pmul_does hu (by decide) hv (by decide))
end Go.Proofs.YtnchjdhepakokaaGreatDoorC
