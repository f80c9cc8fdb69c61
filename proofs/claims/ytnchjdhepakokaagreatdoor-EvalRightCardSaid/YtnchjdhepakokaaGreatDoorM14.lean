import Derived.Test.YtnchjdhepakokaaGreatDoorM10
import Derived.Test.YtnchjdhepakokaaGreatDoorM13
import Derived.Shelf.Small.Strs
import Derived.Ground.NamesProg
import Derived.KernelRfl
import Derived.Test.YtnchjdhepakokaaGreatDoorProg
import Derived.Test.YtnchjdhepakokaaGreatDoorM11
import Derived.Lib.ValidLaws
import Derived.Lib.MapLaws
import Derived.Lib.TrimUEq
/- Loops of the order. Printed by a program (wip/tools); Lean checks each. -/
namespace Go.Proofs.YtnchjdhepakokaaGreatDoorC
open Go.Proofs Go.Proofs.YtnchjdhepakokaaGreatDoorSx Go.Lib
set_option maxRecDepth 100000
set_option linter.unusedVariables false
noncomputable def coK : List It := stackAt [1, 1, 0, 1, 0] (bd Tryz.f120) [] []
abbrev coS (l : List Int) (i : Nat) : List SV := [.o 0, .na, .na, .v (it 0), .na, .na, .o 0, .v (it l.length), .v (it i)] ++ List.replicate 9 .na
noncomputable def fiK : List It := stackAt [1, 0, 1, 0] (bd Tryz.f127) [] []
abbrev fiS (i : Nat) : List SV := [.o 0, .na, .na, .v (it i)] ++ List.replicate 15 .na
abbrev ilT (l : List Int) : Tab cE := [(0, .ro 3 l false)]
def pOra (l : List Int) (R1 : SV × Tab cE × Nat) : SV × Tab cE × Nat :=
  R1
theorem pOra_fin (l : List Int) (R1 : SV × Tab cE × Nat) (hF1 : Fin cE Tryz.f120 1 R1.1 R1.2.1 R1.2.2 coK ([.o 0, .na, .na, .v (.int .i64 (0)), .na, .na, .o 0, .v (.int .i64 ((l.length : Int))), .v (.int .i64 (0))] ++ List.replicate 9 .na) [(0, .ro 3 (l) false)] 1) : Fin cE Tryz.f120 1 (pOra l R1).1 (pOra l R1).2.1 (pOra l R1).2.2 [.code (bd Tryz.f120)] (argsS [.o 0] Tryz.f120.ntmps) (ilT l) 1 := by
  unfold pOra
  exact sat (keep := [0, 3, 6, 7, 8]) (by decide) [] (by kernel_rfl) cj0 (hF1 )
def pOrb (l : List Int) (i m : Nat) (R1 : Value) : Value :=
  bif (decide ((i : Int) < (l.length : Int))) then bif (l.getD i 0 != 0) then (.int .i64 (l.getD i 0))
    else R1
  else (.int .i64 (0))
theorem pOrb_fin (l : List Int) (i m : Nat) (R1 : Value) (hi : i ≤ l.length) (hl : l.length ≤ 1000000000) (hF1 : (decide ((i : Int) < (l.length : Int))) = true → (l.getD i 0 != 0) = false → Fin cE Tryz.f120 1 (.v R1) [(0, .ro 3 (l) false)] 1 (inK coK (m)) ([.o 0, .na, .na, .v (.int .i64 (0)), .na, .na, .o 0, .v (.int .i64 ((l.length : Int))), .v (.int .i64 (IntKind.i64.wrap ((i : Int) + 1)))] ++ List.replicate 9 .na) [(0, .ro 3 (l) false)] 1) : Fin cE Tryz.f120 1 (.v (pOrb l i m R1)) [(0, .ro 3 (l) false)] 1 (bodyK coK m) (coS l i) (ilT l) 1 := by
  unfold pOrb
  refine fbif (fun c1 => ?_) (fun c1 => ?_)
  · refine fbif (fun c2 => ?_) (fun c2 => ?_)
    · exact sfin (keep := [0, 3, 6, 7, 8]) (by decide) [.t, .t] (by kernel_rfl) (cj c1 (cj (by (have := of_decide_eq_true c1; omega) : 0 ≤ (i : Int) ∧ (i : Int) < (l.length : Int)) (cj (by (have := of_decide_eq_true c1; omega) : i < l.length) (cj c2 cj0))))
    · exact sat (keep := [0, 3, 6, 7, 8]) (by decide) [.t, .f] (by kernel_rfl) (cj c1 (cj (by (have := of_decide_eq_true c1; omega) : 0 ≤ (i : Int) ∧ (i : Int) < (l.length : Int)) (cj (by (have := of_decide_eq_true c1; omega) : i < l.length) (cj c2 cj0)))) (hF1 c1 c2)
  · exact sfin (keep := [0, 3, 6, 7, 8]) (by decide) [.f] (by kernel_rfl) (cj c1 cj0)
def rFia (l : List Int) (R1 : SV × Tab cE × Nat) : SV × Tab cE × Nat :=
  R1
theorem rFia_fin (l : List Int) (R1 : SV × Tab cE × Nat) (hF1 : Fin cE Tryz.f127 1 R1.1 R1.2.1 R1.2.2 fiK ([.o 0, .na, .na, .v (.int .i64 (0))] ++ List.replicate 15 .na) [(0, .ro 3 (l) false)] 1) : Fin cE Tryz.f127 1 (rFia l R1).1 (rFia l R1).2.1 (rFia l R1).2.2 [.code (bd Tryz.f127)] (argsS [.o 0] Tryz.f127.ntmps) (ilT l) 1 := by
  unfold rFia
  exact sat (keep := [0, 3]) (by decide) [] (by kernel_rfl) cj0 (hF1 )
def rFib (l : List Int) (i m : Nat) (R1 : Value) : Value :=
  bif (decide ((i : Int) < (l.length : Int))) then bif (l.getD i 0 != 0) then (.int .i64 (l.getD i 0))
    else R1
  else (.int .i64 (0))
theorem rFib_fin (l : List Int) (i m : Nat) (R1 : Value) (hi : i ≤ l.length) (hl : l.length ≤ 1000000000) (hF1 : (decide ((i : Int) < (l.length : Int))) = true → (l.getD i 0 != 0) = false → Fin cE Tryz.f127 1 (.v R1) [(0, .ro 3 (l) false)] 1 (inK fiK (m)) ([.o 0, .na, .na, .v (.int .i64 (IntKind.i64.wrap ((i : Int) + 1)))] ++ List.replicate 15 .na) [(0, .ro 3 (l) false)] 1) : Fin cE Tryz.f127 1 (.v (rFib l i m R1)) [(0, .ro 3 (l) false)] 1 (bodyK fiK m) (fiS i) (ilT l) 1 := by
  unfold rFib
  refine fbif (fun c1 => ?_) (fun c1 => ?_)
  · refine fbif (fun c2 => ?_) (fun c2 => ?_)
    · exact sfin (keep := [0, 3]) (by decide) [.t, .t] (by kernel_rfl) (cj c1 (cj (by (have := of_decide_eq_true c1; omega) : 0 ≤ (i : Int) ∧ (i : Int) < (l.length : Int)) (cj (by (have := of_decide_eq_true c1; omega) : i < l.length) (cj c2 (cj (by (have := of_decide_eq_true c1; omega) : 0 ≤ (i : Int) ∧ (i : Int) < (l.length : Int)) (cj (by (have := of_decide_eq_true c1; omega) : i < l.length) cj0))))))
    · exact sat (keep := [0, 3]) (by decide) [.t, .f] (by kernel_rfl) (cj c1 (cj (by (have := of_decide_eq_true c1; omega) : 0 ≤ (i : Int) ∧ (i : Int) < (l.length : Int)) (cj (by (have := of_decide_eq_true c1; omega) : i < l.length) (cj c2 cj0)))) (hF1 c1 c2)
  · exact sfin (keep := [0, 3]) (by decide) [.f] (by kernel_rfl) (cj c1 cj0)
end Go.Proofs.YtnchjdhepakokaaGreatDoorC
/-
  DERIVED: THE SHELF's CONTRACTS AT THIS DUMP, IN PLAIN WORDS (tools/lay-plain.mjs out of 'YtnchjdhepakokaaGreatDoorSMx.lean', which tools/lay-shelf.mjs wrote): THE SAME DECLARATIONS UNDER THE SAME NAMES: 'import', 'namespace', 'open', 'def', 'theorem' AND NOTHING ELSE: no command of the shelf's: FOR A HAND-IN. Each laying: the table of numbers ('.._ren') and one theorem, a field a fact of the dump's own or the kernel's comparison; each contract: ONE APPLICATION.
-/
namespace Go.Proofs
open Go.Shelf
def Tryz.laysCompare_ren : Go.Shelf.Ren := ⟨fun | 106 => 122 | 213 => 200 | 265 => 262 | n => n, fun | 9 => 9 | 3 => 3 | n => n, fun | n => n⟩
theorem Tryz.laysCompare : Go.Proofs.Lays.n106 Tryz.prog Tryz.laysCompare_ren := {
  mixed := by kernel_rfl
  f106 := Tryz.func122.trans (congrArg some (by kernel_rfl))
  f213 := Tryz.func200.trans (congrArg some (by kernel_rfl))
  f265 := Tryz.func262.trans (congrArg some (by kernel_rfl))
  t3 := Tryz.underlying3
  a3 := Tryz.isAgg3
  z3 := Tryz.sizeOf3
  v3 := Tryz.zeroValue3
  t9 := Tryz.underlying9
  a9 := Tryz.isAgg9
  z9 := Tryz.sizeOf9
  v9 := Tryz.zeroValue9 }
end Go.Proofs
/- How whole numbers and texts stand; the first number that is not 0: told. -/
namespace Go.Proofs.YtnchjdhepakokaaGreatDoorC
open Go.Proofs Go.Proofs.YtnchjdhepakokaaGreatDoorSx Go.Lib
set_option maxRecDepth 100000
set_option linter.unusedVariables false
set_option linter.unusedSimpArgs false
def cmI (x y : Int) : Int := bif decide (x < y) then -1 else bif decide (x > y) then 1 else 0
def clsV (k : Int) : Int := bif k == 1 then 2 else bif k == 2 then 2 else bif k == 3 then 3 else bif k == 4 then 4 else bif k == 5 then 5 else 1
def orL : List Int → Int
  | [] => 0
  | x :: r => bif x != 0 then x else orL r
theorem it_if (c : Bool) (a b : Int) : it (bif c then a else b) = bif c then it a else it b := by cases c <;> rfl
theorem nan_does (x : Int) : Does cE 199 [] 0 [.v (it x)] (.v (.bool false)) [] 0 := by
  have h := pNan_does x
  have e : pNan x = .bool false := by unfold pNan; simp
  rw [e] at h
  exact h
theorem class_does (k n m : Int) (s : ByteArray) : Does cE 123 [] 0 [.v (vl k n m s)] (.v (it (clsV k))) [] 0 := by
  have h := pCls_does k n m s
  have e : pCls k n m s = it (clsV k) := by unfold pCls clsV; simp only [it_if]
  rw [e] at h
  exact h
theorem rclass_does (k : Int) : Does cE 129 [] 0 [.v (it k)] (.v (it (clsV k))) [] 0 := by
  have h := rCls_does k
  have e : rCls k = it (clsV k) := by unfold rCls clsV; simp only [it_if]
  rw [e] at h
  exact h
theorem rcmi_does (x y : Int) : Does cE 128 [] 0 [.v (it x), .v (it y)] (.v (it (cmI x y))) [] 0 := by
  have h := rCmp_does x y
  have e : rCmp x y = it (cmI x y) := by unfold rCmp cmI; simp only [it_if]
  rw [e] at h
  exact h
theorem scmp_does (s u : ByteArray) : Does cE 122 [] 0 [.v (st s), .v (st u)] (.v (it (compareBytes s.data.toList u.data.toList))) [] 0 :=
  does_lib (l := [st s, st u]) (enters (fn := Tryz.f122) rfl (by kernel_rfl) rfl) (fun w hg => (Any.strings_Compare Tryz.laysCompare s u w).mono fun e w' h => ⟨h.1, h.2 ▸ ⟨rfl, rfl, rfl, Nat.le_refl _, fun _ _ => rfl⟩⟩)
theorem wsucc {i n : Nat} (h : i < n) (hn : n ≤ 1000000000) : IntKind.i64.wrap ((i : Int) + 1) = ((i + 1 : Nat) : Int) := by
  rw [wrap64 (by omega) (by omega)]; omega
theorem orL_drop {l : List Int} {i : Nat} (h : i < l.length) : orL (l.drop i) = bif l.getD i 0 != 0 then l.getD i 0 else orL (l.drop (i + 1)) := by
  rw [List.drop_eq_getElem_cons h, List.getD_eq_getElem?_getD, List.getElem?_eq_getElem h]
  rfl
theorem or_loop (l : List Int) (hl : l.length ≤ 1000000000) : ∀ (m i : Nat), i + m = l.length → Fin cE Tryz.f120 1 (.v (it (orL (l.drop i)))) (ilT l) 1 (inK coK (m + 1)) (coS l i) (ilT l) 1 := by
  intro m
  induction m with
  | zero =>
    intro i hi
    refine fin_round ?_
    have h := pOrb_fin l i 0 (it 0) (by omega) hl (fun c1 => absurd (of_decide_eq_true c1) (by omega))
    have e : pOrb l i 0 (it 0) = it (orL (l.drop i)) := by
      unfold pOrb
      rw [decide_eq_false (by omega), List.drop_of_length_le (by omega)]
      rfl
    rw [e] at h
    exact h
  | succ m ih =>
    intro i hi
    refine fin_round ?_
    have h := pOrb_fin l i (m + 1) (it (orL (l.drop (i + 1)))) (by omega) hl (fun c1 c2 => by
      rw [wsucc (by omega : i < l.length) hl]
      exact ih (i + 1) (by omega))
    have e : pOrb l i (m + 1) (it (orL (l.drop (i + 1)))) = it (orL (l.drop i)) := by
      unfold pOrb
      rw [decide_eq_true (by omega), orL_drop (l := l) (i := i) (by omega), it_if]
      rfl
    rw [e] at h
    exact h
theorem cor_does (l : List Int) (hl : l.length ≤ 1000000000) : Does cE 120 (ilT l) 1 [.o 0] (.v (it (orL l))) (ilT l) 1 := by
  refine does_of_fin (fn := Tryz.f120) (c := bd Tryz.f120) rfl (by kernel_rfl) rfl ?_
  exact pOra_fin l (.v (it (orL l)), ilT l, 1) (fin_loop (l.length + 1) (or_loop l hl l.length 0 (by omega)))
theorem first_loop (l : List Int) (hl : l.length ≤ 1000000000) : ∀ (m i : Nat), i + m = l.length → Fin cE Tryz.f127 1 (.v (it (orL (l.drop i)))) (ilT l) 1 (inK fiK (m + 1)) (fiS i) (ilT l) 1 := by
  intro m
  induction m with
  | zero =>
    intro i hi
    refine fin_round ?_
    have h := rFib_fin l i 0 (it 0) (by omega) hl (fun c1 => absurd (of_decide_eq_true c1) (by omega))
    have e : rFib l i 0 (it 0) = it (orL (l.drop i)) := by
      unfold rFib
      rw [decide_eq_false (by omega), List.drop_of_length_le (by omega)]
      rfl
    rw [e] at h
    exact h
  | succ m ih =>
    intro i hi
    refine fin_round ?_
    have h := rFib_fin l i (m + 1) (it (orL (l.drop (i + 1)))) (by omega) hl (fun c1 c2 => by
      rw [wsucc (by omega : i < l.length) hl]
      exact ih (i + 1) (by omega))
    have e : rFib l i (m + 1) (it (orL (l.drop (i + 1)))) = it (orL (l.drop i)) := by
      unfold rFib
      rw [decide_eq_true (by omega), orL_drop (l := l) (i := i) (by omega), it_if]
      rfl
    rw [e] at h
    exact h
theorem first_does (l : List Int) (hl : l.length ≤ 1000000000) : Does cE 127 (ilT l) 1 [.o 0] (.v (it (orL l))) (ilT l) 1 := by
  refine does_of_fin (fn := Tryz.f127) (c := bd Tryz.f127) rfl (by kernel_rfl) rfl ?_
  exact rFia_fin l (.v (it (orL l)), ilT l, 1) (fin_loop (l.length + 1) (first_loop l hl l.length 0 (by omega)))
theorem cor_nil (l : List Int) (hl : l.length ≤ 1000000000) : Does cE 120 (ilT l) 1 [.o 0] (.v (it (orL l))) [] 1 := Does.nil (cor_does l hl) rfl
theorem first_nil (l : List Int) (hl : l.length ≤ 1000000000) : Does cE 127 (ilT l) 1 [.o 0] (.v (it (orL l))) [] 1 := Does.nil (first_does l hl) rfl
theorem ddec_does (k n m : Int) (s : ByteArray) : Does cE 113 [] 0 [.v (vl k n m s)] (.v (dc n m)) [] 0 := pth (fn := Tryz.f113) rfl (by kernel_rfl) [] (by kernel_rfl) cj0
end Go.Proofs.YtnchjdhepakokaaGreatDoorC
/- How whole numbers stand. Printed by a program (wip/tools); Lean checks each. -/
namespace Go.Proofs.YtnchjdhepakokaaGreatDoorC
open Go.Proofs Go.Proofs.YtnchjdhepakokaaGreatDoorSx Go.Lib
set_option maxRecDepth 100000
set_option linter.unusedVariables false
def pCmi (x y : Int) : Value :=
  bif (decide (x < y)) then (.int .i64 (-1))
  else bif (decide (x > y)) then (.int .i64 (1))
    else (.int .i64 (0))
theorem pCmi_does (x y : Int) : Does cE 121 [] 0 [.v (it x), .v (it y)] (.v (pCmi x y)) [] 0 := by
  unfold pCmi
  refine tbif (fun c1 => ?_) (fun c1 => ?_)
  · exact pth (fn := Tryz.f121) rfl (by kernel_rfl) [.c (.v (.bool (false))) [] 0, .c (.v (.bool (false))) [] 0, .l, .l, .t] (by kernel_rfl) (cj (nan_does (x)) (cj (nan_does (y)) (cj c1 cj0)))
  · refine tbif (fun c2 => ?_) (fun c2 => ?_)
    · exact pth (fn := Tryz.f121) rfl (by kernel_rfl) [.c (.v (.bool (false))) [] 0, .c (.v (.bool (false))) [] 0, .l, .l, .f, .t] (by kernel_rfl) (cj (nan_does (x)) (cj (nan_does (y)) (cj c1 (cj c2 cj0))))
    · exact pth (fn := Tryz.f121) rfl (by kernel_rfl) [.c (.v (.bool (false))) [] 0, .c (.v (.bool (false))) [] 0, .l, .l, .f, .f] (by kernel_rfl) (cj (nan_does (x)) (cj (nan_does (y)) (cj c1 (cj c2 cj0))))
end Go.Proofs.YtnchjdhepakokaaGreatDoorC
/- The order of values, and steps of two: what they come to. -/
namespace Go.Proofs.YtnchjdhepakokaaGreatDoorC
open Go.Proofs Go.Proofs.YtnchjdhepakokaaGreatDoorSx Go.Lib
set_option maxRecDepth 100000
set_option linter.unusedVariables false
theorem cmpi_does (x y : Int) : Does cE 121 [] 0 [.v (it x), .v (it y)] (.v (it (cmI x y))) [] 0 := by
  have h := pCmi_does x y
  have e : pCmi x y = it (cmI x y) := by unfold pCmi cmI; simp only [it_if]
  rw [e] at h
  exact h
def byF (k n m : Int) (s : ByteArray) (j p q : Int) (u : ByteArray) : Int := orL [cmI k j, cmI n p, cmI m q, compareBytes s.data.toList u.data.toList]
def cpV (k n m : Int) (s : ByteArray) (j p q : Int) (u : ByteArray) : Int :=
  bif !okV k n m s then byF k n m s j p q u else bif !okV j p q u then byF k n m s j p q u
  else bif (cmI (clsV k) (clsV j) != 0) then cmI (clsV k) (clsV j)
  else bif (clsV k == 2) then orL [cmpM n m p q, cmI k j, cmI m q]
  else byF k n m s j p q u
end Go.Proofs.YtnchjdhepakokaaGreatDoorC
/- The order of values, of the program and of the reference. Printed by a program (wip/tools); Lean checks each. -/
namespace Go.Proofs.YtnchjdhepakokaaGreatDoorC
open Go.Proofs Go.Proofs.YtnchjdhepakokaaGreatDoorSx Go.Lib
set_option maxRecDepth 100000
set_option linter.unusedVariables false
def pCo (k n m j p q : Int) (s u : ByteArray) : Value :=
  bif (!okV k n m s) then (.int .i64 (orL [cmI k j, cmI n p, cmI m q, Go.Lib.compareBytes s.data.toList u.data.toList]))
  else bif (!okV j p q u) then (.int .i64 (orL [cmI k j, cmI n p, cmI m q, Go.Lib.compareBytes s.data.toList u.data.toList]))
    else bif (cmI (clsV k) (clsV j) != 0) then (.int .i64 (cmI (clsV k) (clsV j)))
      else bif (clsV k == 2) then (.int .i64 (orL [cmpM n m p q, cmI k j, cmI m q]))
        else (.int .i64 (orL [cmI k j, cmI n p, cmI m q, Go.Lib.compareBytes s.data.toList u.data.toList]))
theorem pCo_does (k n m j p q : Int) (s u : ByteArray) (hn : I64 n) (hm : I64 m) (hs : s.size ≤ 140737488351232) (hp : I64 p) (hq : I64 q) (hu : u.size ≤ 140737488351232) : Does cE 48 [] 0 [.v (vl k n m s), .v (vl j p q u)] (.v (pCo k n m j p q s u)) [] 0 := by
  unfold pCo
  refine tbif (fun c1 => ?_) (fun c1 => ?_)
  · exact pth (fn := Tryz.f48) rfl (by kernel_rfl) [.c (.v (.int .i64 (cmI k j))) [] 0, .c (.v (.int .i64 (cmI n p))) [] 0, .c (.v (.int .i64 (cmI m q))) [] 0, .c (.v (.int .i64 (Go.Lib.compareBytes s.data.toList u.data.toList))) [] 0, .c (.v (.int .i64 (orL [cmI k j, cmI n p, cmI m q, Go.Lib.compareBytes s.data.toList u.data.toList]))) [] 1, .c (.v (.bool (okV k n m s))) [] 0, .t, .t, .t, .t, .l] (by kernel_rfl) (cj (cmpi_does (k) (j)) (cj (cmpi_does (n) (p)) (cj (cmpi_does (m) (q)) (cj (scmp_does (s) (u)) (cj (cor_nil ([cmI k j, cmI n p, cmI m q, Go.Lib.compareBytes s.data.toList u.data.toList]) (by simp)) (cj (right_does (k) (n) (m) (s) (by assumption)) (cj c1 (cj c1 (cj c1 (cj c1 cj0))))))))))
  · refine tbif (fun c2 => ?_) (fun c2 => ?_)
    · exact pth (fn := Tryz.f48) rfl (by kernel_rfl) [.c (.v (.int .i64 (cmI k j))) [] 0, .c (.v (.int .i64 (cmI n p))) [] 0, .c (.v (.int .i64 (cmI m q))) [] 0, .c (.v (.int .i64 (Go.Lib.compareBytes s.data.toList u.data.toList))) [] 0, .c (.v (.int .i64 (orL [cmI k j, cmI n p, cmI m q, Go.Lib.compareBytes s.data.toList u.data.toList]))) [] 1, .c (.v (.bool (okV k n m s))) [] 0, .f, .f, .c (.v (.bool (okV j p q u))) [] 0, .f, .f, .t] (by kernel_rfl) (cj (cmpi_does (k) (j)) (cj (cmpi_does (n) (p)) (cj (cmpi_does (m) (q)) (cj (scmp_does (s) (u)) (cj (cor_nil ([cmI k j, cmI n p, cmI m q, Go.Lib.compareBytes s.data.toList u.data.toList]) (by simp)) (cj (right_does (k) (n) (m) (s) (by assumption)) (cj c1 (cj c1 (cj (right_does (j) (p) (q) (u) (by assumption)) (cj c1 (cj c1 (cj c2 cj0))))))))))))
    · refine tbif (fun c3 => ?_) (fun c3 => ?_)
      · exact pth (fn := Tryz.f48) rfl (by kernel_rfl) [.c (.v (.int .i64 (cmI k j))) [] 0, .c (.v (.int .i64 (cmI n p))) [] 0, .c (.v (.int .i64 (cmI m q))) [] 0, .c (.v (.int .i64 (Go.Lib.compareBytes s.data.toList u.data.toList))) [] 0, .c (.v (.int .i64 (orL [cmI k j, cmI n p, cmI m q, Go.Lib.compareBytes s.data.toList u.data.toList]))) [] 1, .c (.v (.bool (okV k n m s))) [] 0, .f, .f, .c (.v (.bool (okV j p q u))) [] 0, .f, .f, .f, .c (.v (.int .i64 (clsV k))) [] 0, .c (.v (.int .i64 (clsV j))) [] 0, .c (.v (.int .i64 (cmI (clsV k) (clsV j)))) [] 0, .t] (by kernel_rfl) (cj (cmpi_does (k) (j)) (cj (cmpi_does (n) (p)) (cj (cmpi_does (m) (q)) (cj (scmp_does (s) (u)) (cj (cor_nil ([cmI k j, cmI n p, cmI m q, Go.Lib.compareBytes s.data.toList u.data.toList]) (by simp)) (cj (right_does (k) (n) (m) (s) (by assumption)) (cj c1 (cj c1 (cj (right_does (j) (p) (q) (u) (by assumption)) (cj c1 (cj c1 (cj c2 (cj (class_does (k) (n) (m) (s)) (cj (class_does (j) (p) (q) (u)) (cj (cmpi_does (clsV k) (clsV j)) (cj c3 cj0))))))))))))))))
      · refine tbif (fun c4 => ?_) (fun c4 => ?_)
        · exact pth (fn := Tryz.f48) rfl (by kernel_rfl) [.c (.v (.int .i64 (cmI k j))) [] 0, .c (.v (.int .i64 (cmI n p))) [] 0, .c (.v (.int .i64 (cmI m q))) [] 0, .c (.v (.int .i64 (Go.Lib.compareBytes s.data.toList u.data.toList))) [] 0, .c (.v (.int .i64 (orL [cmI k j, cmI n p, cmI m q, Go.Lib.compareBytes s.data.toList u.data.toList]))) [] 1, .c (.v (.bool (okV k n m s))) [] 0, .f, .f, .c (.v (.bool (okV j p q u))) [] 0, .f, .f, .f, .c (.v (.int .i64 (clsV k))) [] 0, .c (.v (.int .i64 (clsV j))) [] 0, .c (.v (.int .i64 (cmI (clsV k) (clsV j)))) [] 0, .f, .c (.v (.int .i64 (clsV k))) [] 0, .t, .c (.v (.agg #[(.int .i64 (n)), (.int .i64 (m))])) [] 0, .c (.v (.agg #[(.int .i64 (p)), (.int .i64 (q))])) [] 0, .c (.v (.int .i64 (cmpM n m p q))) [] 0, .c (.v (.int .i64 (cmI k j))) [] 0, .c (.v (.int .i64 (cmI m q))) [] 0, .c (.v (.int .i64 (orL [cmpM n m p q, cmI k j, cmI m q]))) [] 1] (by kernel_rfl) (cj (cmpi_does (k) (j)) (cj (cmpi_does (n) (p)) (cj (cmpi_does (m) (q)) (cj (scmp_does (s) (u)) (cj (cor_nil ([cmI k j, cmI n p, cmI m q, Go.Lib.compareBytes s.data.toList u.data.toList]) (by simp)) (cj (right_does (k) (n) (m) (s) (by assumption)) (cj c1 (cj c1 (cj (right_does (j) (p) (q) (u) (by assumption)) (cj c1 (cj c1 (cj c2 (cj (class_does (k) (n) (m) (s)) (cj (class_does (j) (p) (q) (u)) (cj (cmpi_does (clsV k) (clsV j)) (cj c3 (cj (class_does (k) (n) (m) (s)) (cj c4 (cj (ddec_does (k) (n) (m) (s)) (cj (ddec_does (j) (p) (q) (u)) (cj (pcmp_does (u := (n)) (x := (m)) (v := (p)) (y := (q)) (by assumption) (by assumption) (by assumption) (by assumption)) (cj (cmpi_does (k) (j)) (cj (cmpi_does (m) (q)) (cj (cor_nil ([cmpM n m p q, cmI k j, cmI m q]) (by simp)) cj0))))))))))))))))))))))))
        · exact pth (fn := Tryz.f48) rfl (by kernel_rfl) [.c (.v (.int .i64 (cmI k j))) [] 0, .c (.v (.int .i64 (cmI n p))) [] 0, .c (.v (.int .i64 (cmI m q))) [] 0, .c (.v (.int .i64 (Go.Lib.compareBytes s.data.toList u.data.toList))) [] 0, .c (.v (.int .i64 (orL [cmI k j, cmI n p, cmI m q, Go.Lib.compareBytes s.data.toList u.data.toList]))) [] 1, .c (.v (.bool (okV k n m s))) [] 0, .f, .f, .c (.v (.bool (okV j p q u))) [] 0, .f, .f, .f, .c (.v (.int .i64 (clsV k))) [] 0, .c (.v (.int .i64 (clsV j))) [] 0, .c (.v (.int .i64 (cmI (clsV k) (clsV j)))) [] 0, .f, .c (.v (.int .i64 (clsV k))) [] 0, .f] (by kernel_rfl) (cj (cmpi_does (k) (j)) (cj (cmpi_does (n) (p)) (cj (cmpi_does (m) (q)) (cj (scmp_does (s) (u)) (cj (cor_nil ([cmI k j, cmI n p, cmI m q, Go.Lib.compareBytes s.data.toList u.data.toList]) (by simp)) (cj (right_does (k) (n) (m) (s) (by assumption)) (cj c1 (cj c1 (cj (right_does (j) (p) (q) (u) (by assumption)) (cj c1 (cj c1 (cj c2 (cj (class_does (k) (n) (m) (s)) (cj (class_does (j) (p) (q) (u)) (cj (cmpi_does (clsV k) (clsV j)) (cj c3 (cj (class_does (k) (n) (m) (s)) (cj c4 cj0))))))))))))))))))
def rCo (k n m j p q : Int) (s u : ByteArray) : Value :=
  bif (!okV k n m s) then bif (Go.Op.bytesLess s.toList u.toList) then (.int .i64 (orL [cmI k j, cmI n p, cmI m q, -1]))
    else bif (!(Go.Op.bytesLess s.toList u.toList || s.toList == u.toList)) then (.int .i64 (orL [cmI k j, cmI n p, cmI m q, 1]))
      else (.int .i64 (orL [cmI k j, cmI n p, cmI m q, 0]))
  else bif (!okV j p q u) then bif (Go.Op.bytesLess s.toList u.toList) then (.int .i64 (orL [cmI k j, cmI n p, cmI m q, -1]))
      else bif (!(Go.Op.bytesLess s.toList u.toList || s.toList == u.toList)) then (.int .i64 (orL [cmI k j, cmI n p, cmI m q, 1]))
        else (.int .i64 (orL [cmI k j, cmI n p, cmI m q, 0]))
    else bif (clsV k != clsV j) then (.int .i64 (cmI (clsV k) (clsV j)))
      else bif (clsV k == 2) then (.int .i64 (orL [cmpM n m p q, cmI k j, cmI m q]))
        else bif (Go.Op.bytesLess s.toList u.toList) then (.int .i64 (orL [cmI n p, cmI m q, -1]))
          else bif (!(Go.Op.bytesLess s.toList u.toList || s.toList == u.toList)) then (.int .i64 (orL [cmI n p, cmI m q, 1]))
            else (.int .i64 (orL [cmI n p, cmI m q, 0]))
theorem rCo_does (k n m j p q : Int) (s u : ByteArray) (hn : I64 n) (hm : I64 m) (hs : s.size ≤ 140737488351232) (hp : I64 p) (hq : I64 q) (hu : u.size ≤ 140737488351232) : Does cE 50 [] 0 [.v (vl k n m s), .v (vl j p q u)] (.v (rCo k n m j p q s u)) [] 0 := by
  unfold rCo
  refine tbif (fun c1 => ?_) (fun c1 => ?_)
  · refine tbif (fun c2 => ?_) (fun c2 => ?_)
    · exact pth (fn := Tryz.f50) rfl (by kernel_rfl) [.c (.v (.bool (okV k n m s))) [] 0, .t, .t, .t, .t, .l, .t, .c (.v (.int .i64 (cmI k j))) [] 0, .c (.v (.int .i64 (cmI n p))) [] 0, .c (.v (.int .i64 (cmI m q))) [] 0, .c (.v (.int .i64 (orL [cmI k j, cmI n p, cmI m q, -1]))) [] 1] (by kernel_rfl) (cj (right4_does (k) (n) (m) (s) (by assumption)) (cj c1 (cj c1 (cj c1 (cj c1 (cj c2 (cj (rcmi_does (k) (j)) (cj (rcmi_does (n) (p)) (cj (rcmi_does (m) (q)) (cj (first_nil ([cmI k j, cmI n p, cmI m q, -1]) (by simp)) cj0))))))))))
    · refine tbif (fun c3 => ?_) (fun c3 => ?_)
      · exact pth (fn := Tryz.f50) rfl (by kernel_rfl) [.c (.v (.bool (okV k n m s))) [] 0, .t, .t, .t, .t, .l, .f, .t, .c (.v (.int .i64 (cmI k j))) [] 0, .c (.v (.int .i64 (cmI n p))) [] 0, .c (.v (.int .i64 (cmI m q))) [] 0, .c (.v (.int .i64 (orL [cmI k j, cmI n p, cmI m q, 1]))) [] 1] (by kernel_rfl) (cj (right4_does (k) (n) (m) (s) (by assumption)) (cj c1 (cj c1 (cj c1 (cj c1 (cj c2 (cj c3 (cj (rcmi_does (k) (j)) (cj (rcmi_does (n) (p)) (cj (rcmi_does (m) (q)) (cj (first_nil ([cmI k j, cmI n p, cmI m q, 1]) (by simp)) cj0)))))))))))
      · exact pth (fn := Tryz.f50) rfl (by kernel_rfl) [.c (.v (.bool (okV k n m s))) [] 0, .t, .t, .t, .t, .l, .f, .f, .c (.v (.int .i64 (cmI k j))) [] 0, .c (.v (.int .i64 (cmI n p))) [] 0, .c (.v (.int .i64 (cmI m q))) [] 0, .c (.v (.int .i64 (orL [cmI k j, cmI n p, cmI m q, 0]))) [] 1] (by kernel_rfl) (cj (right4_does (k) (n) (m) (s) (by assumption)) (cj c1 (cj c1 (cj c1 (cj c1 (cj c2 (cj c3 (cj (rcmi_does (k) (j)) (cj (rcmi_does (n) (p)) (cj (rcmi_does (m) (q)) (cj (first_nil ([cmI k j, cmI n p, cmI m q, 0]) (by simp)) cj0)))))))))))
  · refine tbif (fun c4 => ?_) (fun c4 => ?_)
    · refine tbif (fun c5 => ?_) (fun c5 => ?_)
      · exact pth (fn := Tryz.f50) rfl (by kernel_rfl) [.c (.v (.bool (okV k n m s))) [] 0, .f, .f, .c (.v (.bool (okV j p q u))) [] 0, .f, .f, .t, .t, .c (.v (.int .i64 (cmI k j))) [] 0, .c (.v (.int .i64 (cmI n p))) [] 0, .c (.v (.int .i64 (cmI m q))) [] 0, .c (.v (.int .i64 (orL [cmI k j, cmI n p, cmI m q, -1]))) [] 1] (by kernel_rfl) (cj (right4_does (k) (n) (m) (s) (by assumption)) (cj c1 (cj c1 (cj (right4_does (j) (p) (q) (u) (by assumption)) (cj c1 (cj c1 (cj c4 (cj c5 (cj (rcmi_does (k) (j)) (cj (rcmi_does (n) (p)) (cj (rcmi_does (m) (q)) (cj (first_nil ([cmI k j, cmI n p, cmI m q, -1]) (by simp)) cj0))))))))))))
      · refine tbif (fun c6 => ?_) (fun c6 => ?_)
        · exact pth (fn := Tryz.f50) rfl (by kernel_rfl) [.c (.v (.bool (okV k n m s))) [] 0, .f, .f, .c (.v (.bool (okV j p q u))) [] 0, .f, .f, .t, .f, .t, .c (.v (.int .i64 (cmI k j))) [] 0, .c (.v (.int .i64 (cmI n p))) [] 0, .c (.v (.int .i64 (cmI m q))) [] 0, .c (.v (.int .i64 (orL [cmI k j, cmI n p, cmI m q, 1]))) [] 1] (by kernel_rfl) (cj (right4_does (k) (n) (m) (s) (by assumption)) (cj c1 (cj c1 (cj (right4_does (j) (p) (q) (u) (by assumption)) (cj c1 (cj c1 (cj c4 (cj c5 (cj c6 (cj (rcmi_does (k) (j)) (cj (rcmi_does (n) (p)) (cj (rcmi_does (m) (q)) (cj (first_nil ([cmI k j, cmI n p, cmI m q, 1]) (by simp)) cj0)))))))))))))
        · exact pth (fn := Tryz.f50) rfl (by kernel_rfl) [.c (.v (.bool (okV k n m s))) [] 0, .f, .f, .c (.v (.bool (okV j p q u))) [] 0, .f, .f, .t, .f, .f, .c (.v (.int .i64 (cmI k j))) [] 0, .c (.v (.int .i64 (cmI n p))) [] 0, .c (.v (.int .i64 (cmI m q))) [] 0, .c (.v (.int .i64 (orL [cmI k j, cmI n p, cmI m q, 0]))) [] 1] (by kernel_rfl) (cj (right4_does (k) (n) (m) (s) (by assumption)) (cj c1 (cj c1 (cj (right4_does (j) (p) (q) (u) (by assumption)) (cj c1 (cj c1 (cj c4 (cj c5 (cj c6 (cj (rcmi_does (k) (j)) (cj (rcmi_does (n) (p)) (cj (rcmi_does (m) (q)) (cj (first_nil ([cmI k j, cmI n p, cmI m q, 0]) (by simp)) cj0)))))))))))))
    · refine tbif (fun c7 => ?_) (fun c7 => ?_)
      · exact pth (fn := Tryz.f50) rfl (by kernel_rfl) [.c (.v (.bool (okV k n m s))) [] 0, .f, .f, .c (.v (.bool (okV j p q u))) [] 0, .f, .f, .f, .c (.v (.int .i64 (clsV k))) [] 0, .c (.v (.int .i64 (clsV j))) [] 0, .t, .c (.v (.int .i64 (clsV j))) [] 0, .c (.v (.int .i64 (cmI (clsV k) (clsV j)))) [] 0] (by kernel_rfl) (cj (right4_does (k) (n) (m) (s) (by assumption)) (cj c1 (cj c1 (cj (right4_does (j) (p) (q) (u) (by assumption)) (cj c1 (cj c1 (cj c4 (cj (rclass_does (k)) (cj (rclass_does (j)) (cj c7 (cj (rclass_does (j)) (cj (rcmi_does (clsV k) (clsV j)) cj0))))))))))))
      · refine tbif (fun c8 => ?_) (fun c8 => ?_)
        · exact pth (fn := Tryz.f50) rfl (by kernel_rfl) [.c (.v (.bool (okV k n m s))) [] 0, .f, .f, .c (.v (.bool (okV j p q u))) [] 0, .f, .f, .f, .c (.v (.int .i64 (clsV k))) [] 0, .c (.v (.int .i64 (clsV j))) [] 0, .f, .t, .c (.v (.int .i64 (cmpM n m p q))) [] 0, .c (.v (.int .i64 (cmI k j))) [] 0, .c (.v (.int .i64 (cmI m q))) [] 0, .c (.v (.int .i64 (orL [cmpM n m p q, cmI k j, cmI m q]))) [] 1] (by kernel_rfl) (cj (right4_does (k) (n) (m) (s) (by assumption)) (cj c1 (cj c1 (cj (right4_does (j) (p) (q) (u) (by assumption)) (cj c1 (cj c1 (cj c4 (cj (rclass_does (k)) (cj (rclass_does (j)) (cj c7 (cj c8 (cj (rcmp_does (u := (n)) (x := (m)) (v := (p)) (y := (q)) (by assumption) (by assumption) (by assumption) (by assumption)) (cj (rcmi_does (k) (j)) (cj (rcmi_does (m) (q)) (cj (first_nil ([cmpM n m p q, cmI k j, cmI m q]) (by simp)) cj0)))))))))))))))
        · refine tbif (fun c9 => ?_) (fun c9 => ?_)
          · exact pth (fn := Tryz.f50) rfl (by kernel_rfl) [.c (.v (.bool (okV k n m s))) [] 0, .f, .f, .c (.v (.bool (okV j p q u))) [] 0, .f, .f, .f, .c (.v (.int .i64 (clsV k))) [] 0, .c (.v (.int .i64 (clsV j))) [] 0, .f, .f, .t, .c (.v (.int .i64 (cmI n p))) [] 0, .c (.v (.int .i64 (cmI m q))) [] 0, .c (.v (.int .i64 (orL [cmI n p, cmI m q, -1]))) [] 1] (by kernel_rfl) (cj (right4_does (k) (n) (m) (s) (by assumption)) (cj c1 (cj c1 (cj (right4_does (j) (p) (q) (u) (by assumption)) (cj c1 (cj c1 (cj c4 (cj (rclass_does (k)) (cj (rclass_does (j)) (cj c7 (cj c8 (cj c9 (cj (rcmi_does (n) (p)) (cj (rcmi_does (m) (q)) (cj (first_nil ([cmI n p, cmI m q, -1]) (by simp)) cj0)))))))))))))))
          · refine tbif (fun c10 => ?_) (fun c10 => ?_)
            · exact pth (fn := Tryz.f50) rfl (by kernel_rfl) [.c (.v (.bool (okV k n m s))) [] 0, .f, .f, .c (.v (.bool (okV j p q u))) [] 0, .f, .f, .f, .c (.v (.int .i64 (clsV k))) [] 0, .c (.v (.int .i64 (clsV j))) [] 0, .f, .f, .f, .t, .c (.v (.int .i64 (cmI n p))) [] 0, .c (.v (.int .i64 (cmI m q))) [] 0, .c (.v (.int .i64 (orL [cmI n p, cmI m q, 1]))) [] 1] (by kernel_rfl) (cj (right4_does (k) (n) (m) (s) (by assumption)) (cj c1 (cj c1 (cj (right4_does (j) (p) (q) (u) (by assumption)) (cj c1 (cj c1 (cj c4 (cj (rclass_does (k)) (cj (rclass_does (j)) (cj c7 (cj c8 (cj c9 (cj c10 (cj (rcmi_does (n) (p)) (cj (rcmi_does (m) (q)) (cj (first_nil ([cmI n p, cmI m q, 1]) (by simp)) cj0))))))))))))))))
            · exact pth (fn := Tryz.f50) rfl (by kernel_rfl) [.c (.v (.bool (okV k n m s))) [] 0, .f, .f, .c (.v (.bool (okV j p q u))) [] 0, .f, .f, .f, .c (.v (.int .i64 (clsV k))) [] 0, .c (.v (.int .i64 (clsV j))) [] 0, .f, .f, .f, .f, .c (.v (.int .i64 (cmI n p))) [] 0, .c (.v (.int .i64 (cmI m q))) [] 0, .c (.v (.int .i64 (orL [cmI n p, cmI m q, 0]))) [] 1] (by kernel_rfl) (cj (right4_does (k) (n) (m) (s) (by assumption)) (cj c1 (cj c1 (cj (right4_does (j) (p) (q) (u) (by assumption)) (cj c1 (cj c1 (cj c4 (cj (rclass_does (k)) (cj (rclass_does (j)) (cj c7 (cj c8 (cj c9 (cj c10 (cj (rcmi_does (n) (p)) (cj (rcmi_does (m) (q)) (cj (first_nil ([cmI n p, cmI m q, 0]) (by simp)) cj0))))))))))))))))
end Go.Proofs.YtnchjdhepakokaaGreatDoorC
/- The order of values, told: program and reference come to the same. -/
namespace Go.Proofs.YtnchjdhepakokaaGreatDoorC
open Go.Proofs Go.Proofs.YtnchjdhepakokaaGreatDoorSx Go.Lib
set_option maxRecDepth 100000
set_option linter.unusedVariables false
set_option linter.unusedSimpArgs false
theorem compare_does (k n m : Int) (s : ByteArray) (j p q : Int) (u : ByteArray) (hn : I64 n) (hm : I64 m) (hs : s.size ≤ 140737488351232) (hp : I64 p) (hq : I64 q) (hu : u.size ≤ 140737488351232) : Does cE 48 [] 0 [.v (vl k n m s), .v (vl j p q u)] (.v (it (cpV k n m s j p q u))) [] 0 := by
  have h := pCo_does k n m j p q s u hn hm hs hp hq hu
  have e : pCo k n m j p q s u = it (cpV k n m s j p q u) := by
    unfold pCo cpV byF
    simp only [it_if]
  rw [e] at h
  exact h
theorem less_cmp : ∀ a b : List UInt8, compareBytes a b = bif Go.Op.bytesLess a b then -1 else bif !(Go.Op.bytesLess a b || a == b) then 1 else 0
  | [], [] => rfl
  | [], _ :: _ => rfl
  | _ :: _, [] => by simp [compareBytes, Go.Op.bytesLess]
  | x :: a, y :: b => by
    have ih := less_cmp a b
    unfold compareBytes Go.Op.bytesLess
    by_cases h1 : x < y
    · simp [h1]
    · by_cases h2 : y < x
      · have h3 : (x == y) = false := by
          rw [beq_eq_false_iff_ne]
          intro e
          subst e
          exact h1 h2
        simp [h1, h2, h3, List.cons_beq_cons]
      · have h3 : x = y := UInt8.le_antisymm (UInt8.not_lt.mp h2) (UInt8.not_lt.mp h1)
        subst h3
        simp [h1, ih, List.cons_beq_cons]
theorem cmI_ne (x y : Int) : (cmI x y != 0) = (x != y) := by
  unfold cmI
  by_cases h1 : x < y
  · rw [decide_eq_true h1]
    have : (x != y) = true := by simp; omega
    rw [this]; rfl
  · rw [decide_eq_false h1]
    by_cases h2 : x > y
    · rw [decide_eq_true h2]
      have : (x != y) = true := by simp; omega
      rw [this]; rfl
    · rw [decide_eq_false h2]
      have : (x != y) = false := by simp; omega
      rw [this]; rfl
theorem cmI_self (x : Int) : cmI x x = 0 := by
  simp [cmI]
theorem ok_kind {k n m : Int} {s : ByteArray} (h : okV k n m s = true) : k = 0 ∨ k = 1 ∨ k = 2 ∨ k = 3 ∨ k = 4 ∨ k = 5 := by
  by_cases h0 : k = 0
  · exact .inl h0
  by_cases h1 : k = 1
  · exact .inr (.inl h1)
  by_cases h2 : k = 2
  · exact .inr (.inr (.inl h2))
  by_cases h3 : k = 3
  · exact .inr (.inr (.inr (.inl h3)))
  by_cases h4 : k = 4
  · exact .inr (.inr (.inr (.inr (.inl h4))))
  by_cases h5 : k = 5
  · exact .inr (.inr (.inr (.inr (.inr h5))))
  unfold okV at h
  rw [beq_eq_false_iff_ne.mpr h0, beq_eq_false_iff_ne.mpr h1, beq_eq_false_iff_ne.mpr h2, beq_eq_false_iff_ne.mpr h3, beq_eq_false_iff_ne.mpr h4, beq_eq_false_iff_ne.mpr h5] at h
  cases (show false = true from h)
theorem kind_one {k n m j p q : Int} {s u : ByteArray} (h1 : okV k n m s = true) (h2 : okV j p q u = true) (hc : (clsV k != clsV j) = false) (h : (clsV k == 2) = false) : k = j := by
  rcases ok_kind h1 with rfl | rfl | rfl | rfl | rfl | rfl <;> rcases ok_kind h2 with rfl | rfl | rfl | rfl | rfl | rfl <;> first | rfl | exact absurd hc (by decide) | exact absurd h (by decide)
theorem rCo_said (k n m j p q : Int) (s u : ByteArray) : rCo k n m j p q s u = it (cpV k n m s j p q u) := by
  have e : ∀ (f : Int → Int), (bif Go.Op.bytesLess s.toList u.toList then it (f (-1)) else bif !(Go.Op.bytesLess s.toList u.toList || s.toList == u.toList) then it (f 1) else it (f 0)) = it (f (compareBytes s.data.toList u.data.toList)) := by
    intro f
    rw [less_cmp, ← Go.ByteArray.toList_eq, ← Go.ByteArray.toList_eq]
    cases Go.Op.bytesLess s.toList u.toList
    · cases (!(false || s.toList == u.toList)) <;> rfl
    · rfl
  unfold rCo cpV byF
  have e1 := e (fun x => orL [cmI k j, cmI n p, cmI m q, x])
  have e2 := e (fun x => orL [cmI n p, cmI m q, x])
  rw [e1, e2, cmI_ne]
  cases h1 : okV k n m s
  · rfl
  · cases h2 : okV j p q u
    · rfl
    · cases h3 : (clsV k != clsV j)
      · cases h4 : (clsV k == 2)
        · have := kind_one h1 h2 h3 h4
          subst this
          rw [cmI_self]
          rfl
        · rfl
      · rfl
theorem rcompare_does (k n m : Int) (s : ByteArray) (j p q : Int) (u : ByteArray) (hn : I64 n) (hm : I64 m) (hs : s.size ≤ 140737488351232) (hp : I64 p) (hq : I64 q) (hu : u.size ≤ 140737488351232) : Does cE 50 [] 0 [.v (vl k n m s), .v (vl j p q u)] (.v (it (cpV k n m s j p q u))) [] 0 := by
  rw [← rCo_said]
  exact rCo_does k n m j p q s u hn hm hs hp hq hu
theorem ix_ok {op : Int} {a b c d e f : Bool} (c5 : decide (op ≥ 17) = false) (c8 : decide (op < 11) = false) : 0 ≤ IntKind.i64.wrap (op - 11) ∧ IntKind.i64.wrap (op - 11) < ((6 : Nat) : Int) ∧ IntKind.i64.wrap (op - 11) < ((preB [.bool a, .bool b, .bool c, .bool d, .bool e, .bool f]).length : Int) := by
  have h1 := of_decide_eq_false c5
  have h2 := of_decide_eq_false c8
  rw [wrap64 (by omega) (by omega)]
  change _ ∧ _ ∧ op - 11 < ((6 : Nat) : Int)
  omega
end Go.Proofs.YtnchjdhepakokaaGreatDoorC
/- Steps of two, of the program. Printed by a program (wip/tools); Lean checks each. -/
namespace Go.Proofs.YtnchjdhepakokaaGreatDoorC
open Go.Proofs Go.Proofs.YtnchjdhepakokaaGreatDoorSx Go.Lib
set_option maxRecDepth 100000
set_option linter.unusedVariables false
def pBi (op k n m j p q : Int) (s u : ByteArray) : Value :=
  bif (decide (op < 6)) then (.tuple #[(.agg #[(.int .i64 (0)), (.int .i64 (0)), (.int .i64 (0)), (.string ((ByteArray.mk #[])))]), (.int .i64 (1))])
  else bif (decide (op > 18)) then (.tuple #[(.agg #[(.int .i64 (0)), (.int .i64 (0)), (.int .i64 (0)), (.string ((ByteArray.mk #[])))]), (.int .i64 (1))])
    else bif (!okV k n m s) then (.tuple #[(.agg #[(.int .i64 (0)), (.int .i64 (0)), (.int .i64 (0)), (.string ((ByteArray.mk #[])))]), (.int .i64 (1))])
      else bif (!okV j p q u) then (.tuple #[(.agg #[(.int .i64 (0)), (.int .i64 (0)), (.int .i64 (0)), (.string ((ByteArray.mk #[])))]), (.int .i64 (1))])
        else bif (decide (op ≥ 17)) then (.tuple #[(.agg #[(.int .i64 ((loV op k n m s j p q u).fst)), (.int .i64 ((loV op k n m s j p q u).snd.fst)), (.int .i64 ((loV op k n m s j p q u).snd.snd.fst)), (.string ((loV op k n m s j p q u).snd.snd.snd.fst))]), (.int .i64 ((loV op k n m s j p q u).snd.snd.snd.snd))])
          else bif (k == 0 && (n == 0 && (m == 0 && (s == (ByteArray.mk #[]) && true)))) then (.tuple #[(.agg #[(.int .i64 (0)), (.int .i64 (0)), (.int .i64 (0)), (.string ((ByteArray.mk #[])))]), (.int .i64 (0))])
            else bif (j == 0 && (p == 0 && (q == 0 && (u == (ByteArray.mk #[]) && true)))) then (.tuple #[(.agg #[(.int .i64 (0)), (.int .i64 (0)), (.int .i64 (0)), (.string ((ByteArray.mk #[])))]), (.int .i64 (0))])
              else bif (decide (op < 11)) then (.tuple #[(.agg #[(.int .i64 ((reV op k n m s j p q u).fst)), (.int .i64 ((reV op k n m s j p q u).snd.fst)), (.int .i64 ((reV op k n m s j p q u).snd.snd.fst)), (.string ((reV op k n m s j p q u).snd.snd.snd.fst))]), (.int .i64 ((reV op k n m s j p q u).snd.snd.snd.snd))])
                else bif (k == 1) then bif (j == 1) then bif ((preB [Go.Value.bool (cmpM n m p q == 0), Go.Value.bool (cmpM n m p q != 0), Go.Value.bool (decide (cmpM n m p q < 0)), Go.Value.bool (decide (cmpM n m p q ≤ 0)), Go.Value.bool (decide (cmpM n m p q > 0)), Go.Value.bool (decide (cmpM n m p q ≥ 0))]).getD (IntKind.i64.wrap (op - 11)).toNat false) then (.tuple #[(.agg #[(.int .i64 (ofK 1)), (.int .i64 (ofN 1)), (.int .i64 (0)), (.string (bE))]), (.int .i64 (0))])
                      else (.tuple #[(.agg #[(.int .i64 (ofK 0)), (.int .i64 (ofN 0)), (.int .i64 (0)), (.string (bE))]), (.int .i64 (0))])
                    else bif (j == 2) then bif ((preB [Go.Value.bool (cmpM n m p q == 0), Go.Value.bool (cmpM n m p q != 0), Go.Value.bool (decide (cmpM n m p q < 0)), Go.Value.bool (decide (cmpM n m p q ≤ 0)), Go.Value.bool (decide (cmpM n m p q > 0)), Go.Value.bool (decide (cmpM n m p q ≥ 0))]).getD (IntKind.i64.wrap (op - 11)).toNat false) then (.tuple #[(.agg #[(.int .i64 (ofK 1)), (.int .i64 (ofN 1)), (.int .i64 (0)), (.string (bE))]), (.int .i64 (0))])
                        else (.tuple #[(.agg #[(.int .i64 (ofK 0)), (.int .i64 (ofN 0)), (.int .i64 (0)), (.string (bE))]), (.int .i64 (0))])
                      else bif (k != j) then (.tuple #[(.agg #[(.int .i64 (0)), (.int .i64 (0)), (.int .i64 (0)), (.string ((ByteArray.mk #[])))]), (.int .i64 (31))])
                        else bif ((preB [Go.Value.bool (cpV k n m s j p q u == 0), Go.Value.bool (cpV k n m s j p q u != 0), Go.Value.bool (decide (cpV k n m s j p q u < 0)), Go.Value.bool (decide (cpV k n m s j p q u ≤ 0)), Go.Value.bool (decide (cpV k n m s j p q u > 0)), Go.Value.bool (decide (cpV k n m s j p q u ≥ 0))]).getD (IntKind.i64.wrap (op - 11)).toNat false) then (.tuple #[(.agg #[(.int .i64 (ofK 1)), (.int .i64 (ofN 1)), (.int .i64 (0)), (.string (bE))]), (.int .i64 (0))])
                          else (.tuple #[(.agg #[(.int .i64 (ofK 0)), (.int .i64 (ofN 0)), (.int .i64 (0)), (.string (bE))]), (.int .i64 (0))])
                  else bif (k == 2) then bif (j == 1) then bif ((preB [Go.Value.bool (cmpM n m p q == 0), Go.Value.bool (cmpM n m p q != 0), Go.Value.bool (decide (cmpM n m p q < 0)), Go.Value.bool (decide (cmpM n m p q ≤ 0)), Go.Value.bool (decide (cmpM n m p q > 0)), Go.Value.bool (decide (cmpM n m p q ≥ 0))]).getD (IntKind.i64.wrap (op - 11)).toNat false) then (.tuple #[(.agg #[(.int .i64 (ofK 1)), (.int .i64 (ofN 1)), (.int .i64 (0)), (.string (bE))]), (.int .i64 (0))])
                        else (.tuple #[(.agg #[(.int .i64 (ofK 0)), (.int .i64 (ofN 0)), (.int .i64 (0)), (.string (bE))]), (.int .i64 (0))])
                      else bif (j == 2) then bif ((preB [Go.Value.bool (cmpM n m p q == 0), Go.Value.bool (cmpM n m p q != 0), Go.Value.bool (decide (cmpM n m p q < 0)), Go.Value.bool (decide (cmpM n m p q ≤ 0)), Go.Value.bool (decide (cmpM n m p q > 0)), Go.Value.bool (decide (cmpM n m p q ≥ 0))]).getD (IntKind.i64.wrap (op - 11)).toNat false) then (.tuple #[(.agg #[(.int .i64 (ofK 1)), (.int .i64 (ofN 1)), (.int .i64 (0)), (.string (bE))]), (.int .i64 (0))])
                          else (.tuple #[(.agg #[(.int .i64 (ofK 0)), (.int .i64 (ofN 0)), (.int .i64 (0)), (.string (bE))]), (.int .i64 (0))])
                        else bif (k != j) then (.tuple #[(.agg #[(.int .i64 (0)), (.int .i64 (0)), (.int .i64 (0)), (.string ((ByteArray.mk #[])))]), (.int .i64 (31))])
                          else bif ((preB [Go.Value.bool (cpV k n m s j p q u == 0), Go.Value.bool (cpV k n m s j p q u != 0), Go.Value.bool (decide (cpV k n m s j p q u < 0)), Go.Value.bool (decide (cpV k n m s j p q u ≤ 0)), Go.Value.bool (decide (cpV k n m s j p q u > 0)), Go.Value.bool (decide (cpV k n m s j p q u ≥ 0))]).getD (IntKind.i64.wrap (op - 11)).toNat false) then (.tuple #[(.agg #[(.int .i64 (ofK 1)), (.int .i64 (ofN 1)), (.int .i64 (0)), (.string (bE))]), (.int .i64 (0))])
                            else (.tuple #[(.agg #[(.int .i64 (ofK 0)), (.int .i64 (ofN 0)), (.int .i64 (0)), (.string (bE))]), (.int .i64 (0))])
                    else bif (k != j) then (.tuple #[(.agg #[(.int .i64 (0)), (.int .i64 (0)), (.int .i64 (0)), (.string ((ByteArray.mk #[])))]), (.int .i64 (31))])
                      else bif ((preB [Go.Value.bool (cpV k n m s j p q u == 0), Go.Value.bool (cpV k n m s j p q u != 0), Go.Value.bool (decide (cpV k n m s j p q u < 0)), Go.Value.bool (decide (cpV k n m s j p q u ≤ 0)), Go.Value.bool (decide (cpV k n m s j p q u > 0)), Go.Value.bool (decide (cpV k n m s j p q u ≥ 0))]).getD (IntKind.i64.wrap (op - 11)).toNat false) then (.tuple #[(.agg #[(.int .i64 (ofK 1)), (.int .i64 (ofN 1)), (.int .i64 (0)), (.string (bE))]), (.int .i64 (0))])
                        else (.tuple #[(.agg #[(.int .i64 (ofK 0)), (.int .i64 (ofN 0)), (.int .i64 (0)), (.string (bE))]), (.int .i64 (0))])
theorem pBi_does (op k n m j p q : Int) (s u : ByteArray) (hn : I64 n) (hm : I64 m) (hs : s.size ≤ 140737488351232) (hp : I64 p) (hq : I64 q) (hu : u.size ≤ 140737488351232) : Does cE 25 [] 0 [.v (it op), .v (vl k n m s), .v (vl j p q u)] (.v (pBi op k n m j p q s u)) [] 0 := by
  unfold pBi
  refine tbif (fun c1 => ?_) (fun c1 => ?_)
  · exact pth (fn := Tryz.f25) rfl (by kernel_rfl) [.t, .t, .t, .l, .l, .l, .l, .l, .l, .l, .l, .l] (by kernel_rfl) (cj c1 (cj c1 (cj c1 cj0)))
  · refine tbif (fun c2 => ?_) (fun c2 => ?_)
    · exact pth (fn := Tryz.f25) rfl (by kernel_rfl) [.f, .f, .f, .t, .t, .t, .t, .l, .l, .l, .l, .l] (by kernel_rfl) (cj c1 (cj c1 (cj c1 (cj c2 (cj c2 (cj c2 (cj c2 cj0)))))))
    · refine tbif (fun c3 => ?_) (fun c3 => ?_)
      · exact pth (fn := Tryz.f25) rfl (by kernel_rfl) [.f, .f, .f, .f, .f, .c (.v (.bool (okV k n m s))) [] 0, .f, .f, .t, .t, .t, .t, .l] (by kernel_rfl) (cj c1 (cj c1 (cj c1 (cj c2 (cj c2 (cj (right_does (k) (n) (m) (s) (by assumption)) (cj c2 (cj c2 (cj c3 (cj c3 (cj c3 (cj c3 cj0))))))))))))
      · refine tbif (fun c4 => ?_) (fun c4 => ?_)
        · exact pth (fn := Tryz.f25) rfl (by kernel_rfl) [.f, .f, .f, .f, .f, .c (.v (.bool (okV k n m s))) [] 0, .f, .f, .f, .f, .c (.v (.bool (okV j p q u))) [] 0, .f, .f, .t] (by kernel_rfl) (cj c1 (cj c1 (cj c1 (cj c2 (cj c2 (cj (right_does (k) (n) (m) (s) (by assumption)) (cj c2 (cj c2 (cj c3 (cj c3 (cj (right_does (j) (p) (q) (u) (by assumption)) (cj c3 (cj c3 (cj c4 cj0))))))))))))))
        · refine tbif (fun c5 => ?_) (fun c5 => ?_)
          · exact pth (fn := Tryz.f25) rfl (by kernel_rfl) [.f, .f, .f, .f, .f, .c (.v (.bool (okV k n m s))) [] 0, .f, .f, .f, .f, .c (.v (.bool (okV j p q u))) [] 0, .f, .f, .f, .t, .c (.v (.tuple #[(.agg #[(.int .i64 ((loV op k n m s j p q u).fst)), (.int .i64 ((loV op k n m s j p q u).snd.fst)), (.int .i64 ((loV op k n m s j p q u).snd.snd.fst)), (.string ((loV op k n m s j p q u).snd.snd.snd.fst))]), (.int .i64 ((loV op k n m s j p q u).snd.snd.snd.snd))])) [] 0] (by kernel_rfl) (cj c1 (cj c1 (cj c1 (cj c2 (cj c2 (cj (right_does (k) (n) (m) (s) (by assumption)) (cj c2 (cj c2 (cj c3 (cj c3 (cj (right_does (j) (p) (q) (u) (by assumption)) (cj c3 (cj c3 (cj c4 (cj c5 (cj (logic_does (op) (k) (n) (m) (s) (j) (p) (q) (u) (by assumption) (by assumption) (by assumption) (by assumption) (by assumption) (by assumption)) cj0))))))))))))))))
          · refine tbif (fun c6 => ?_) (fun c6 => ?_)
            · exact pth (fn := Tryz.f25) rfl (by kernel_rfl) [.f, .f, .f, .f, .f, .c (.v (.bool (okV k n m s))) [] 0, .f, .f, .f, .f, .c (.v (.bool (okV j p q u))) [] 0, .f, .f, .f, .f, .e, .t, .t, .t, .l] (by kernel_rfl) (cj c1 (cj c1 (cj c1 (cj c2 (cj c2 (cj (right_does (k) (n) (m) (s) (by assumption)) (cj c2 (cj c2 (cj c3 (cj c3 (cj (right_does (j) (p) (q) (u) (by assumption)) (cj c3 (cj c3 (cj c4 (cj c5 (cj c6 (cj c6 (cj c6 cj0))))))))))))))))))
            · refine tbif (fun c7 => ?_) (fun c7 => ?_)
              · exact pth (fn := Tryz.f25) rfl (by kernel_rfl) [.f, .f, .f, .f, .f, .c (.v (.bool (okV k n m s))) [] 0, .f, .f, .f, .f, .c (.v (.bool (okV j p q u))) [] 0, .f, .f, .f, .f, .e, .f, .f, .e, .f, .t] (by kernel_rfl) (cj c1 (cj c1 (cj c1 (cj c2 (cj c2 (cj (right_does (k) (n) (m) (s) (by assumption)) (cj c2 (cj c2 (cj c3 (cj c3 (cj (right_does (j) (p) (q) (u) (by assumption)) (cj c3 (cj c3 (cj c4 (cj c5 (cj c6 (cj c6 (cj c6 (cj c7 cj0)))))))))))))))))))
              · refine tbif (fun c8 => ?_) (fun c8 => ?_)
                · exact pth (fn := Tryz.f25) rfl (by kernel_rfl) [.f, .f, .f, .f, .f, .c (.v (.bool (okV k n m s))) [] 0, .f, .f, .f, .f, .c (.v (.bool (okV j p q u))) [] 0, .f, .f, .f, .f, .e, .f, .f, .e, .f, .f, .t, .c (.v (.tuple #[(.agg #[(.int .i64 ((reV op k n m s j p q u).fst)), (.int .i64 ((reV op k n m s j p q u).snd.fst)), (.int .i64 ((reV op k n m s j p q u).snd.snd.fst)), (.string ((reV op k n m s j p q u).snd.snd.snd.fst))]), (.int .i64 ((reV op k n m s j p q u).snd.snd.snd.snd))])) [] 0] (by kernel_rfl) (cj c1 (cj c1 (cj c1 (cj c2 (cj c2 (cj (right_does (k) (n) (m) (s) (by assumption)) (cj c2 (cj c2 (cj c3 (cj c3 (cj (right_does (j) (p) (q) (u) (by assumption)) (cj c3 (cj c3 (cj c4 (cj c5 (cj c6 (cj c6 (cj c6 (cj c7 (cj c8 (cj (reckon_does (op) (k) (n) (m) (s) (j) (p) (q) (u) (by assumption) (by assumption) (by assumption) (by assumption) (by assumption) (by assumption) (by have := of_decide_eq_false c1; omega) (by have := of_decide_eq_true c8; omega)) cj0)))))))))))))))))))))
                · refine tbif (fun c9 => ?_) (fun c9 => ?_)
                  · refine tbif (fun c10 => ?_) (fun c10 => ?_)
                    · refine tbif (fun c11 => ?_) (fun c11 => ?_)
                      · exact pth (fn := Tryz.f25) rfl (by kernel_rfl) [.f, .f, .f, .f, .f, .c (.v (.bool (okV k n m s))) [] 0, .f, .f, .f, .f, .c (.v (.bool (okV j p q u))) [] 0, .f, .f, .f, .f, .e, .f, .f, .e, .f, .f, .f, .e, .t, .t, .t, .t, .l, .l, .e, .t, .t, .t, .t, .l, .l, .e, .e, .c (.v (.int .i64 (cmpM n m p q))) [] 0, .x, .e, .t, .c (.v (.agg #[(.int .i64 (ofK 1)), (.int .i64 (ofN 1)), (.int .i64 (0)), (.string (bE))])) [] 0] (by kernel_rfl) (cj c1 (cj c1 (cj c1 (cj c2 (cj c2 (cj (right_does (k) (n) (m) (s) (by assumption)) (cj c2 (cj c2 (cj c3 (cj c3 (cj (right_does (j) (p) (q) (u) (by assumption)) (cj c3 (cj c3 (cj c4 (cj c5 (cj c6 (cj c6 (cj c6 (cj c7 (cj c8 (cj c9 (cj c9 (cj c9 (cj c9 (cj c10 (cj c10 (cj c10 (cj c10 (cj (pcmp_does (u := (n)) (x := (m)) (v := (p)) (y := (q)) (by assumption) (by assumption) (by assumption) (by assumption)) (cj (by exact ix_ok c5 c8 : 0 ≤ IntKind.i64.wrap (op - 11) ∧ IntKind.i64.wrap (op - 11) < ((6 : Nat) : Int) ∧ IntKind.i64.wrap (op - 11) < (((preB [Go.Value.bool (cmpM n m p q == 0), Go.Value.bool (cmpM n m p q != 0), Go.Value.bool (decide (cmpM n m p q < 0)), Go.Value.bool (decide (cmpM n m p q ≤ 0)), Go.Value.bool (decide (cmpM n m p q > 0)), Go.Value.bool (decide (cmpM n m p q ≥ 0))]).length : Nat) : Int)) (cj c11 (cj (of_does (1)) cj0))))))))))))))))))))))))))))))))
                      · exact pth (fn := Tryz.f25) rfl (by kernel_rfl) [.f, .f, .f, .f, .f, .c (.v (.bool (okV k n m s))) [] 0, .f, .f, .f, .f, .c (.v (.bool (okV j p q u))) [] 0, .f, .f, .f, .f, .e, .f, .f, .e, .f, .f, .f, .e, .t, .t, .t, .t, .l, .l, .e, .t, .t, .t, .t, .l, .l, .e, .e, .c (.v (.int .i64 (cmpM n m p q))) [] 0, .x, .e, .f, .c (.v (.agg #[(.int .i64 (ofK 0)), (.int .i64 (ofN 0)), (.int .i64 (0)), (.string (bE))])) [] 0] (by kernel_rfl) (cj c1 (cj c1 (cj c1 (cj c2 (cj c2 (cj (right_does (k) (n) (m) (s) (by assumption)) (cj c2 (cj c2 (cj c3 (cj c3 (cj (right_does (j) (p) (q) (u) (by assumption)) (cj c3 (cj c3 (cj c4 (cj c5 (cj c6 (cj c6 (cj c6 (cj c7 (cj c8 (cj c9 (cj c9 (cj c9 (cj c9 (cj c10 (cj c10 (cj c10 (cj c10 (cj (pcmp_does (u := (n)) (x := (m)) (v := (p)) (y := (q)) (by assumption) (by assumption) (by assumption) (by assumption)) (cj (by exact ix_ok c5 c8 : 0 ≤ IntKind.i64.wrap (op - 11) ∧ IntKind.i64.wrap (op - 11) < ((6 : Nat) : Int) ∧ IntKind.i64.wrap (op - 11) < (((preB [Go.Value.bool (cmpM n m p q == 0), Go.Value.bool (cmpM n m p q != 0), Go.Value.bool (decide (cmpM n m p q < 0)), Go.Value.bool (decide (cmpM n m p q ≤ 0)), Go.Value.bool (decide (cmpM n m p q > 0)), Go.Value.bool (decide (cmpM n m p q ≥ 0))]).length : Nat) : Int)) (cj c11 (cj (of_does (0)) cj0))))))))))))))))))))))))))))))))
                    · refine tbif (fun c12 => ?_) (fun c12 => ?_)
                      · refine tbif (fun c13 => ?_) (fun c13 => ?_)
                        · exact pth (fn := Tryz.f25) rfl (by kernel_rfl) [.f, .f, .f, .f, .f, .c (.v (.bool (okV k n m s))) [] 0, .f, .f, .f, .f, .c (.v (.bool (okV j p q u))) [] 0, .f, .f, .f, .f, .e, .f, .f, .e, .f, .f, .f, .e, .t, .t, .t, .t, .l, .l, .e, .f, .f, .f, .f, .l, .t, .e, .e, .c (.v (.int .i64 (cmpM n m p q))) [] 0, .x, .e, .t, .c (.v (.agg #[(.int .i64 (ofK 1)), (.int .i64 (ofN 1)), (.int .i64 (0)), (.string (bE))])) [] 0] (by kernel_rfl) (cj c1 (cj c1 (cj c1 (cj c2 (cj c2 (cj (right_does (k) (n) (m) (s) (by assumption)) (cj c2 (cj c2 (cj c3 (cj c3 (cj (right_does (j) (p) (q) (u) (by assumption)) (cj c3 (cj c3 (cj c4 (cj c5 (cj c6 (cj c6 (cj c6 (cj c7 (cj c8 (cj c9 (cj c9 (cj c9 (cj c9 (cj c10 (cj c10 (cj c10 (cj c10 (cj c12 (cj (pcmp_does (u := (n)) (x := (m)) (v := (p)) (y := (q)) (by assumption) (by assumption) (by assumption) (by assumption)) (cj (by exact ix_ok c5 c8 : 0 ≤ IntKind.i64.wrap (op - 11) ∧ IntKind.i64.wrap (op - 11) < ((6 : Nat) : Int) ∧ IntKind.i64.wrap (op - 11) < (((preB [Go.Value.bool (cmpM n m p q == 0), Go.Value.bool (cmpM n m p q != 0), Go.Value.bool (decide (cmpM n m p q < 0)), Go.Value.bool (decide (cmpM n m p q ≤ 0)), Go.Value.bool (decide (cmpM n m p q > 0)), Go.Value.bool (decide (cmpM n m p q ≥ 0))]).length : Nat) : Int)) (cj c13 (cj (of_does (1)) cj0)))))))))))))))))))))))))))))))))
                        · exact pth (fn := Tryz.f25) rfl (by kernel_rfl) [.f, .f, .f, .f, .f, .c (.v (.bool (okV k n m s))) [] 0, .f, .f, .f, .f, .c (.v (.bool (okV j p q u))) [] 0, .f, .f, .f, .f, .e, .f, .f, .e, .f, .f, .f, .e, .t, .t, .t, .t, .l, .l, .e, .f, .f, .f, .f, .l, .t, .e, .e, .c (.v (.int .i64 (cmpM n m p q))) [] 0, .x, .e, .f, .c (.v (.agg #[(.int .i64 (ofK 0)), (.int .i64 (ofN 0)), (.int .i64 (0)), (.string (bE))])) [] 0] (by kernel_rfl) (cj c1 (cj c1 (cj c1 (cj c2 (cj c2 (cj (right_does (k) (n) (m) (s) (by assumption)) (cj c2 (cj c2 (cj c3 (cj c3 (cj (right_does (j) (p) (q) (u) (by assumption)) (cj c3 (cj c3 (cj c4 (cj c5 (cj c6 (cj c6 (cj c6 (cj c7 (cj c8 (cj c9 (cj c9 (cj c9 (cj c9 (cj c10 (cj c10 (cj c10 (cj c10 (cj c12 (cj (pcmp_does (u := (n)) (x := (m)) (v := (p)) (y := (q)) (by assumption) (by assumption) (by assumption) (by assumption)) (cj (by exact ix_ok c5 c8 : 0 ≤ IntKind.i64.wrap (op - 11) ∧ IntKind.i64.wrap (op - 11) < ((6 : Nat) : Int) ∧ IntKind.i64.wrap (op - 11) < (((preB [Go.Value.bool (cmpM n m p q == 0), Go.Value.bool (cmpM n m p q != 0), Go.Value.bool (decide (cmpM n m p q < 0)), Go.Value.bool (decide (cmpM n m p q ≤ 0)), Go.Value.bool (decide (cmpM n m p q > 0)), Go.Value.bool (decide (cmpM n m p q ≥ 0))]).length : Nat) : Int)) (cj c13 (cj (of_does (0)) cj0)))))))))))))))))))))))))))))))))
                      · refine tbif (fun c14 => ?_) (fun c14 => ?_)
                        · exact pth (fn := Tryz.f25) rfl (by kernel_rfl) [.f, .f, .f, .f, .f, .c (.v (.bool (okV k n m s))) [] 0, .f, .f, .f, .f, .c (.v (.bool (okV j p q u))) [] 0, .f, .f, .f, .f, .e, .f, .f, .e, .f, .f, .f, .e, .t, .t, .t, .t, .l, .l, .e, .f, .f, .f, .f, .l, .f, .t] (by kernel_rfl) (cj c1 (cj c1 (cj c1 (cj c2 (cj c2 (cj (right_does (k) (n) (m) (s) (by assumption)) (cj c2 (cj c2 (cj c3 (cj c3 (cj (right_does (j) (p) (q) (u) (by assumption)) (cj c3 (cj c3 (cj c4 (cj c5 (cj c6 (cj c6 (cj c6 (cj c7 (cj c8 (cj c9 (cj c9 (cj c9 (cj c9 (cj c10 (cj c10 (cj c10 (cj c10 (cj c12 (cj c14 cj0))))))))))))))))))))))))))))))
                        · refine tbif (fun c15 => ?_) (fun c15 => ?_)
                          · exact pth (fn := Tryz.f25) rfl (by kernel_rfl) [.f, .f, .f, .f, .f, .c (.v (.bool (okV k n m s))) [] 0, .f, .f, .f, .f, .c (.v (.bool (okV j p q u))) [] 0, .f, .f, .f, .f, .e, .f, .f, .e, .f, .f, .f, .e, .t, .t, .t, .t, .l, .l, .e, .f, .f, .f, .f, .l, .f, .f, .c (.v (.int .i64 (cpV k n m s j p q u))) [] 0, .x, .e, .t, .c (.v (.agg #[(.int .i64 (ofK 1)), (.int .i64 (ofN 1)), (.int .i64 (0)), (.string (bE))])) [] 0] (by kernel_rfl) (cj c1 (cj c1 (cj c1 (cj c2 (cj c2 (cj (right_does (k) (n) (m) (s) (by assumption)) (cj c2 (cj c2 (cj c3 (cj c3 (cj (right_does (j) (p) (q) (u) (by assumption)) (cj c3 (cj c3 (cj c4 (cj c5 (cj c6 (cj c6 (cj c6 (cj c7 (cj c8 (cj c9 (cj c9 (cj c9 (cj c9 (cj c10 (cj c10 (cj c10 (cj c10 (cj c12 (cj c14 (cj (compare_does (k) (n) (m) (s) (j) (p) (q) (u) (by assumption) (by assumption) (by assumption) (by assumption) (by assumption) (by assumption)) (cj (by exact ix_ok c5 c8 : 0 ≤ IntKind.i64.wrap (op - 11) ∧ IntKind.i64.wrap (op - 11) < ((6 : Nat) : Int) ∧ IntKind.i64.wrap (op - 11) < (((preB [Go.Value.bool (cpV k n m s j p q u == 0), Go.Value.bool (cpV k n m s j p q u != 0), Go.Value.bool (decide (cpV k n m s j p q u < 0)), Go.Value.bool (decide (cpV k n m s j p q u ≤ 0)), Go.Value.bool (decide (cpV k n m s j p q u > 0)), Go.Value.bool (decide (cpV k n m s j p q u ≥ 0))]).length : Nat) : Int)) (cj c15 (cj (of_does (1)) cj0))))))))))))))))))))))))))))))))))
                          · exact pth (fn := Tryz.f25) rfl (by kernel_rfl) [.f, .f, .f, .f, .f, .c (.v (.bool (okV k n m s))) [] 0, .f, .f, .f, .f, .c (.v (.bool (okV j p q u))) [] 0, .f, .f, .f, .f, .e, .f, .f, .e, .f, .f, .f, .e, .t, .t, .t, .t, .l, .l, .e, .f, .f, .f, .f, .l, .f, .f, .c (.v (.int .i64 (cpV k n m s j p q u))) [] 0, .x, .e, .f, .c (.v (.agg #[(.int .i64 (ofK 0)), (.int .i64 (ofN 0)), (.int .i64 (0)), (.string (bE))])) [] 0] (by kernel_rfl) (cj c1 (cj c1 (cj c1 (cj c2 (cj c2 (cj (right_does (k) (n) (m) (s) (by assumption)) (cj c2 (cj c2 (cj c3 (cj c3 (cj (right_does (j) (p) (q) (u) (by assumption)) (cj c3 (cj c3 (cj c4 (cj c5 (cj c6 (cj c6 (cj c6 (cj c7 (cj c8 (cj c9 (cj c9 (cj c9 (cj c9 (cj c10 (cj c10 (cj c10 (cj c10 (cj c12 (cj c14 (cj (compare_does (k) (n) (m) (s) (j) (p) (q) (u) (by assumption) (by assumption) (by assumption) (by assumption) (by assumption) (by assumption)) (cj (by exact ix_ok c5 c8 : 0 ≤ IntKind.i64.wrap (op - 11) ∧ IntKind.i64.wrap (op - 11) < ((6 : Nat) : Int) ∧ IntKind.i64.wrap (op - 11) < (((preB [Go.Value.bool (cpV k n m s j p q u == 0), Go.Value.bool (cpV k n m s j p q u != 0), Go.Value.bool (decide (cpV k n m s j p q u < 0)), Go.Value.bool (decide (cpV k n m s j p q u ≤ 0)), Go.Value.bool (decide (cpV k n m s j p q u > 0)), Go.Value.bool (decide (cpV k n m s j p q u ≥ 0))]).length : Nat) : Int)) (cj c15 (cj (of_does (0)) cj0))))))))))))))))))))))))))))))))))
                  · refine tbif (fun c16 => ?_) (fun c16 => ?_)
                    · refine tbif (fun c17 => ?_) (fun c17 => ?_)
                      · refine tbif (fun c18 => ?_) (fun c18 => ?_)
                        · exact pth (fn := Tryz.f25) rfl (by kernel_rfl) [.f, .f, .f, .f, .f, .c (.v (.bool (okV k n m s))) [] 0, .f, .f, .f, .f, .c (.v (.bool (okV j p q u))) [] 0, .f, .f, .f, .f, .e, .f, .f, .e, .f, .f, .f, .e, .f, .f, .f, .f, .t, .t, .e, .t, .t, .t, .t, .t, .l, .e, .e, .c (.v (.int .i64 (cmpM n m p q))) [] 0, .x, .e, .t, .c (.v (.agg #[(.int .i64 (ofK 1)), (.int .i64 (ofN 1)), (.int .i64 (0)), (.string (bE))])) [] 0] (by kernel_rfl) (cj c1 (cj c1 (cj c1 (cj c2 (cj c2 (cj (right_does (k) (n) (m) (s) (by assumption)) (cj c2 (cj c2 (cj c3 (cj c3 (cj (right_does (j) (p) (q) (u) (by assumption)) (cj c3 (cj c3 (cj c4 (cj c5 (cj c6 (cj c6 (cj c6 (cj c7 (cj c8 (cj c9 (cj c9 (cj c9 (cj c9 (cj c16 (cj c16 (cj c17 (cj c17 (cj c17 (cj c17 (cj c16 (cj (pcmp_does (u := (n)) (x := (m)) (v := (p)) (y := (q)) (by assumption) (by assumption) (by assumption) (by assumption)) (cj (by exact ix_ok c5 c8 : 0 ≤ IntKind.i64.wrap (op - 11) ∧ IntKind.i64.wrap (op - 11) < ((6 : Nat) : Int) ∧ IntKind.i64.wrap (op - 11) < (((preB [Go.Value.bool (cmpM n m p q == 0), Go.Value.bool (cmpM n m p q != 0), Go.Value.bool (decide (cmpM n m p q < 0)), Go.Value.bool (decide (cmpM n m p q ≤ 0)), Go.Value.bool (decide (cmpM n m p q > 0)), Go.Value.bool (decide (cmpM n m p q ≥ 0))]).length : Nat) : Int)) (cj c18 (cj (of_does (1)) cj0)))))))))))))))))))))))))))))))))))
                        · exact pth (fn := Tryz.f25) rfl (by kernel_rfl) [.f, .f, .f, .f, .f, .c (.v (.bool (okV k n m s))) [] 0, .f, .f, .f, .f, .c (.v (.bool (okV j p q u))) [] 0, .f, .f, .f, .f, .e, .f, .f, .e, .f, .f, .f, .e, .f, .f, .f, .f, .t, .t, .e, .t, .t, .t, .t, .t, .l, .e, .e, .c (.v (.int .i64 (cmpM n m p q))) [] 0, .x, .e, .f, .c (.v (.agg #[(.int .i64 (ofK 0)), (.int .i64 (ofN 0)), (.int .i64 (0)), (.string (bE))])) [] 0] (by kernel_rfl) (cj c1 (cj c1 (cj c1 (cj c2 (cj c2 (cj (right_does (k) (n) (m) (s) (by assumption)) (cj c2 (cj c2 (cj c3 (cj c3 (cj (right_does (j) (p) (q) (u) (by assumption)) (cj c3 (cj c3 (cj c4 (cj c5 (cj c6 (cj c6 (cj c6 (cj c7 (cj c8 (cj c9 (cj c9 (cj c9 (cj c9 (cj c16 (cj c16 (cj c17 (cj c17 (cj c17 (cj c17 (cj c16 (cj (pcmp_does (u := (n)) (x := (m)) (v := (p)) (y := (q)) (by assumption) (by assumption) (by assumption) (by assumption)) (cj (by exact ix_ok c5 c8 : 0 ≤ IntKind.i64.wrap (op - 11) ∧ IntKind.i64.wrap (op - 11) < ((6 : Nat) : Int) ∧ IntKind.i64.wrap (op - 11) < (((preB [Go.Value.bool (cmpM n m p q == 0), Go.Value.bool (cmpM n m p q != 0), Go.Value.bool (decide (cmpM n m p q < 0)), Go.Value.bool (decide (cmpM n m p q ≤ 0)), Go.Value.bool (decide (cmpM n m p q > 0)), Go.Value.bool (decide (cmpM n m p q ≥ 0))]).length : Nat) : Int)) (cj c18 (cj (of_does (0)) cj0)))))))))))))))))))))))))))))))))))
                      · refine tbif (fun c19 => ?_) (fun c19 => ?_)
                        · refine tbif (fun c20 => ?_) (fun c20 => ?_)
                          · exact pth (fn := Tryz.f25) rfl (by kernel_rfl) [.f, .f, .f, .f, .f, .c (.v (.bool (okV k n m s))) [] 0, .f, .f, .f, .f, .c (.v (.bool (okV j p q u))) [] 0, .f, .f, .f, .f, .e, .f, .f, .e, .f, .f, .f, .e, .f, .f, .f, .f, .t, .t, .e, .f, .f, .f, .f, .t, .t, .e, .e, .c (.v (.int .i64 (cmpM n m p q))) [] 0, .x, .e, .t, .c (.v (.agg #[(.int .i64 (ofK 1)), (.int .i64 (ofN 1)), (.int .i64 (0)), (.string (bE))])) [] 0] (by kernel_rfl) (cj c1 (cj c1 (cj c1 (cj c2 (cj c2 (cj (right_does (k) (n) (m) (s) (by assumption)) (cj c2 (cj c2 (cj c3 (cj c3 (cj (right_does (j) (p) (q) (u) (by assumption)) (cj c3 (cj c3 (cj c4 (cj c5 (cj c6 (cj c6 (cj c6 (cj c7 (cj c8 (cj c9 (cj c9 (cj c9 (cj c9 (cj c16 (cj c16 (cj c17 (cj c17 (cj c17 (cj c17 (cj c16 (cj c19 (cj (pcmp_does (u := (n)) (x := (m)) (v := (p)) (y := (q)) (by assumption) (by assumption) (by assumption) (by assumption)) (cj (by exact ix_ok c5 c8 : 0 ≤ IntKind.i64.wrap (op - 11) ∧ IntKind.i64.wrap (op - 11) < ((6 : Nat) : Int) ∧ IntKind.i64.wrap (op - 11) < (((preB [Go.Value.bool (cmpM n m p q == 0), Go.Value.bool (cmpM n m p q != 0), Go.Value.bool (decide (cmpM n m p q < 0)), Go.Value.bool (decide (cmpM n m p q ≤ 0)), Go.Value.bool (decide (cmpM n m p q > 0)), Go.Value.bool (decide (cmpM n m p q ≥ 0))]).length : Nat) : Int)) (cj c20 (cj (of_does (1)) cj0))))))))))))))))))))))))))))))))))))
                          · exact pth (fn := Tryz.f25) rfl (by kernel_rfl) [.f, .f, .f, .f, .f, .c (.v (.bool (okV k n m s))) [] 0, .f, .f, .f, .f, .c (.v (.bool (okV j p q u))) [] 0, .f, .f, .f, .f, .e, .f, .f, .e, .f, .f, .f, .e, .f, .f, .f, .f, .t, .t, .e, .f, .f, .f, .f, .t, .t, .e, .e, .c (.v (.int .i64 (cmpM n m p q))) [] 0, .x, .e, .f, .c (.v (.agg #[(.int .i64 (ofK 0)), (.int .i64 (ofN 0)), (.int .i64 (0)), (.string (bE))])) [] 0] (by kernel_rfl) (cj c1 (cj c1 (cj c1 (cj c2 (cj c2 (cj (right_does (k) (n) (m) (s) (by assumption)) (cj c2 (cj c2 (cj c3 (cj c3 (cj (right_does (j) (p) (q) (u) (by assumption)) (cj c3 (cj c3 (cj c4 (cj c5 (cj c6 (cj c6 (cj c6 (cj c7 (cj c8 (cj c9 (cj c9 (cj c9 (cj c9 (cj c16 (cj c16 (cj c17 (cj c17 (cj c17 (cj c17 (cj c16 (cj c19 (cj (pcmp_does (u := (n)) (x := (m)) (v := (p)) (y := (q)) (by assumption) (by assumption) (by assumption) (by assumption)) (cj (by exact ix_ok c5 c8 : 0 ≤ IntKind.i64.wrap (op - 11) ∧ IntKind.i64.wrap (op - 11) < ((6 : Nat) : Int) ∧ IntKind.i64.wrap (op - 11) < (((preB [Go.Value.bool (cmpM n m p q == 0), Go.Value.bool (cmpM n m p q != 0), Go.Value.bool (decide (cmpM n m p q < 0)), Go.Value.bool (decide (cmpM n m p q ≤ 0)), Go.Value.bool (decide (cmpM n m p q > 0)), Go.Value.bool (decide (cmpM n m p q ≥ 0))]).length : Nat) : Int)) (cj c20 (cj (of_does (0)) cj0))))))))))))))))))))))))))))))))))))
                        · refine tbif (fun c21 => ?_) (fun c21 => ?_)
                          · exact pth (fn := Tryz.f25) rfl (by kernel_rfl) [.f, .f, .f, .f, .f, .c (.v (.bool (okV k n m s))) [] 0, .f, .f, .f, .f, .c (.v (.bool (okV j p q u))) [] 0, .f, .f, .f, .f, .e, .f, .f, .e, .f, .f, .f, .e, .f, .f, .f, .f, .t, .t, .e, .f, .f, .f, .f, .t, .f, .t] (by kernel_rfl) (cj c1 (cj c1 (cj c1 (cj c2 (cj c2 (cj (right_does (k) (n) (m) (s) (by assumption)) (cj c2 (cj c2 (cj c3 (cj c3 (cj (right_does (j) (p) (q) (u) (by assumption)) (cj c3 (cj c3 (cj c4 (cj c5 (cj c6 (cj c6 (cj c6 (cj c7 (cj c8 (cj c9 (cj c9 (cj c9 (cj c9 (cj c16 (cj c16 (cj c17 (cj c17 (cj c17 (cj c17 (cj c16 (cj c19 (cj c21 cj0)))))))))))))))))))))))))))))))))
                          · refine tbif (fun c22 => ?_) (fun c22 => ?_)
                            · exact pth (fn := Tryz.f25) rfl (by kernel_rfl) [.f, .f, .f, .f, .f, .c (.v (.bool (okV k n m s))) [] 0, .f, .f, .f, .f, .c (.v (.bool (okV j p q u))) [] 0, .f, .f, .f, .f, .e, .f, .f, .e, .f, .f, .f, .e, .f, .f, .f, .f, .t, .t, .e, .f, .f, .f, .f, .t, .f, .f, .c (.v (.int .i64 (cpV k n m s j p q u))) [] 0, .x, .e, .t, .c (.v (.agg #[(.int .i64 (ofK 1)), (.int .i64 (ofN 1)), (.int .i64 (0)), (.string (bE))])) [] 0] (by kernel_rfl) (cj c1 (cj c1 (cj c1 (cj c2 (cj c2 (cj (right_does (k) (n) (m) (s) (by assumption)) (cj c2 (cj c2 (cj c3 (cj c3 (cj (right_does (j) (p) (q) (u) (by assumption)) (cj c3 (cj c3 (cj c4 (cj c5 (cj c6 (cj c6 (cj c6 (cj c7 (cj c8 (cj c9 (cj c9 (cj c9 (cj c9 (cj c16 (cj c16 (cj c17 (cj c17 (cj c17 (cj c17 (cj c16 (cj c19 (cj c21 (cj (compare_does (k) (n) (m) (s) (j) (p) (q) (u) (by assumption) (by assumption) (by assumption) (by assumption) (by assumption) (by assumption)) (cj (by exact ix_ok c5 c8 : 0 ≤ IntKind.i64.wrap (op - 11) ∧ IntKind.i64.wrap (op - 11) < ((6 : Nat) : Int) ∧ IntKind.i64.wrap (op - 11) < (((preB [Go.Value.bool (cpV k n m s j p q u == 0), Go.Value.bool (cpV k n m s j p q u != 0), Go.Value.bool (decide (cpV k n m s j p q u < 0)), Go.Value.bool (decide (cpV k n m s j p q u ≤ 0)), Go.Value.bool (decide (cpV k n m s j p q u > 0)), Go.Value.bool (decide (cpV k n m s j p q u ≥ 0))]).length : Nat) : Int)) (cj c22 (cj (of_does (1)) cj0)))))))))))))))))))))))))))))))))))))
                            · exact pth (fn := Tryz.f25) rfl (by kernel_rfl) [.f, .f, .f, .f, .f, .c (.v (.bool (okV k n m s))) [] 0, .f, .f, .f, .f, .c (.v (.bool (okV j p q u))) [] 0, .f, .f, .f, .f, .e, .f, .f, .e, .f, .f, .f, .e, .f, .f, .f, .f, .t, .t, .e, .f, .f, .f, .f, .t, .f, .f, .c (.v (.int .i64 (cpV k n m s j p q u))) [] 0, .x, .e, .f, .c (.v (.agg #[(.int .i64 (ofK 0)), (.int .i64 (ofN 0)), (.int .i64 (0)), (.string (bE))])) [] 0] (by kernel_rfl) (cj c1 (cj c1 (cj c1 (cj c2 (cj c2 (cj (right_does (k) (n) (m) (s) (by assumption)) (cj c2 (cj c2 (cj c3 (cj c3 (cj (right_does (j) (p) (q) (u) (by assumption)) (cj c3 (cj c3 (cj c4 (cj c5 (cj c6 (cj c6 (cj c6 (cj c7 (cj c8 (cj c9 (cj c9 (cj c9 (cj c9 (cj c16 (cj c16 (cj c17 (cj c17 (cj c17 (cj c17 (cj c16 (cj c19 (cj c21 (cj (compare_does (k) (n) (m) (s) (j) (p) (q) (u) (by assumption) (by assumption) (by assumption) (by assumption) (by assumption) (by assumption)) (cj (by exact ix_ok c5 c8 : 0 ≤ IntKind.i64.wrap (op - 11) ∧ IntKind.i64.wrap (op - 11) < ((6 : Nat) : Int) ∧ IntKind.i64.wrap (op - 11) < (((preB [Go.Value.bool (cpV k n m s j p q u == 0), Go.Value.bool (cpV k n m s j p q u != 0), Go.Value.bool (decide (cpV k n m s j p q u < 0)), Go.Value.bool (decide (cpV k n m s j p q u ≤ 0)), Go.Value.bool (decide (cpV k n m s j p q u > 0)), Go.Value.bool (decide (cpV k n m s j p q u ≥ 0))]).length : Nat) : Int)) (cj c22 (cj (of_does (0)) cj0)))))))))))))))))))))))))))))))))))))
                    · refine tbif (fun c23 => ?_) (fun c23 => ?_)
                      · exact pth (fn := Tryz.f25) rfl (by kernel_rfl) [.f, .f, .f, .f, .f, .c (.v (.bool (okV k n m s))) [] 0, .f, .f, .f, .f, .c (.v (.bool (okV j p q u))) [] 0, .f, .f, .f, .f, .e, .f, .f, .e, .f, .f, .f, .e, .f, .f, .f, .f, .f, .f, .f, .l, .t] (by kernel_rfl) (cj c1 (cj c1 (cj c1 (cj c2 (cj c2 (cj (right_does (k) (n) (m) (s) (by assumption)) (cj c2 (cj c2 (cj c3 (cj c3 (cj (right_does (j) (p) (q) (u) (by assumption)) (cj c3 (cj c3 (cj c4 (cj c5 (cj c6 (cj c6 (cj c6 (cj c7 (cj c8 (cj c9 (cj c9 (cj c9 (cj c9 (cj c16 (cj c16 (cj c16 (cj c23 cj0))))))))))))))))))))))))))))
                      · refine tbif (fun c24 => ?_) (fun c24 => ?_)
                        · exact pth (fn := Tryz.f25) rfl (by kernel_rfl) [.f, .f, .f, .f, .f, .c (.v (.bool (okV k n m s))) [] 0, .f, .f, .f, .f, .c (.v (.bool (okV j p q u))) [] 0, .f, .f, .f, .f, .e, .f, .f, .e, .f, .f, .f, .e, .f, .f, .f, .f, .f, .f, .f, .l, .f, .c (.v (.int .i64 (cpV k n m s j p q u))) [] 0, .x, .e, .t, .c (.v (.agg #[(.int .i64 (ofK 1)), (.int .i64 (ofN 1)), (.int .i64 (0)), (.string (bE))])) [] 0] (by kernel_rfl) (cj c1 (cj c1 (cj c1 (cj c2 (cj c2 (cj (right_does (k) (n) (m) (s) (by assumption)) (cj c2 (cj c2 (cj c3 (cj c3 (cj (right_does (j) (p) (q) (u) (by assumption)) (cj c3 (cj c3 (cj c4 (cj c5 (cj c6 (cj c6 (cj c6 (cj c7 (cj c8 (cj c9 (cj c9 (cj c9 (cj c9 (cj c16 (cj c16 (cj c16 (cj c23 (cj (compare_does (k) (n) (m) (s) (j) (p) (q) (u) (by assumption) (by assumption) (by assumption) (by assumption) (by assumption) (by assumption)) (cj (by exact ix_ok c5 c8 : 0 ≤ IntKind.i64.wrap (op - 11) ∧ IntKind.i64.wrap (op - 11) < ((6 : Nat) : Int) ∧ IntKind.i64.wrap (op - 11) < (((preB [Go.Value.bool (cpV k n m s j p q u == 0), Go.Value.bool (cpV k n m s j p q u != 0), Go.Value.bool (decide (cpV k n m s j p q u < 0)), Go.Value.bool (decide (cpV k n m s j p q u ≤ 0)), Go.Value.bool (decide (cpV k n m s j p q u > 0)), Go.Value.bool (decide (cpV k n m s j p q u ≥ 0))]).length : Nat) : Int)) (cj c24 (cj (of_does (1)) cj0))))))))))))))))))))))))))))))))
                        · exact pth (fn := Tryz.f25) rfl (by kernel_rfl) [.f, .f, .f, .f, .f, .c (.v (.bool (okV k n m s))) [] 0, .f, .f, .f, .f, .c (.v (.bool (okV j p q u))) [] 0, .f, .f, .f, .f, .e, .f, .f, .e, .f, .f, .f, .e, .f, .f, .f, .f, .f, .f, .f, .l, .f, .c (.v (.int .i64 (cpV k n m s j p q u))) [] 0, .x, .e, .f, .c (.v (.agg #[(.int .i64 (ofK 0)), (.int .i64 (ofN 0)), (.int .i64 (0)), (.string (bE))])) [] 0] (by kernel_rfl) (cj c1 (cj c1 (cj c1 (cj c2 (cj c2 (cj (right_does (k) (n) (m) (s) (by assumption)) (cj c2 (cj c2 (cj c3 (cj c3 (cj (right_does (j) (p) (q) (u) (by assumption)) (cj c3 (cj c3 (cj c4 (cj c5 (cj c6 (cj c6 (cj c6 (cj c7 (cj c8 (cj c9 (cj c9 (cj c9 (cj c9 (cj c16 (cj c16 (cj c16 (cj c23 (cj (compare_does (k) (n) (m) (s) (j) (p) (q) (u) (by assumption) (by assumption) (by assumption) (by assumption) (by assumption) (by assumption)) (cj (by exact ix_ok c5 c8 : 0 ≤ IntKind.i64.wrap (op - 11) ∧ IntKind.i64.wrap (op - 11) < ((6 : Nat) : Int) ∧ IntKind.i64.wrap (op - 11) < (((preB [Go.Value.bool (cpV k n m s j p q u == 0), Go.Value.bool (cpV k n m s j p q u != 0), Go.Value.bool (decide (cpV k n m s j p q u < 0)), Go.Value.bool (decide (cpV k n m s j p q u ≤ 0)), Go.Value.bool (decide (cpV k n m s j p q u > 0)), Go.Value.bool (decide (cpV k n m s j p q u ≥ 0))]).length : Nat) : Int)) (cj c24 (cj (of_does (0)) cj0))))))))))))))))))))))))))))))))
end Go.Proofs.YtnchjdhepakokaaGreatDoorC
/- Steps of two, told: the program's. -/
namespace Go.Proofs.YtnchjdhepakokaaGreatDoorC
open Go.Proofs Go.Proofs.YtnchjdhepakokaaGreatDoorSx Go.Lib
set_option maxRecDepth 100000
set_option linter.unusedVariables false
set_option linter.unusedSimpArgs false
def numK (k : Int) : Bool := k == 1 || k == 2
def biV (op k n m : Int) (s : ByteArray) (j p q : Int) (u : ByteArray) : Ans :=
  bif decide (op < 6) then noV 1 else bif decide (op > 18) then noV 1 else bif !okV k n m s then noV 1 else bif !okV j p q u then noV 1
  else bif decide (op ≥ 17) then loV op k n m s j p q u
  else bif (k == 0) then noV 0 else bif (j == 0) then noV 0
  else bif decide (op < 11) then reV op k n m s j p q u
  else bif (numK k && numK j) then ofV (tI (hoV op (cmpM n m p q)))
  else bif (k != j) then noV 31
  else ofV (tI (hoV op (cpV k n m s j p q u)))
theorem null_test {k n m : Int} {s : ByteArray} (ho : okV k n m s = true) : (k == 0 && (n == 0 && (m == 0 && (s == ByteArray.mk #[] && true)))) = (k == 0) := by
  rw [beq_bE]
  by_cases h0 : k = 0
  · subst h0
    obtain ⟨a, b, c⟩ := ok_null ho
    subst a; subst b; subst c
    have e : eqE bE = true := by unfold eqE; simp
    rw [e]; rfl
  · rw [beq_eq_false_iff_ne.mpr h0]; rfl
theorem ix_said (op c : Int) (c5 : decide (op ≥ 17) = false) (c8 : decide (op < 11) = false) :
    (preB [Value.bool (c == 0), Value.bool (c != 0), Value.bool (decide (c < 0)), Value.bool (decide (c ≤ 0)), Value.bool (decide (c > 0)), Value.bool (decide (c ≥ 0))]).getD (IntKind.i64.wrap (op - 11)).toNat false = hoV op c := by
  have h1 := of_decide_eq_false c5
  have h2 := of_decide_eq_false c8
  have h : op = 11 ∨ op = 12 ∨ op = 13 ∨ op = 14 ∨ op = 15 ∨ op = 16 := by omega
  rcases h with rfl | rfl | rfl | rfl | rfl | rfl <;> rfl
theorem of_bool (t : Bool) : (bif t then Value.tuple #[vl (ofK 1) (ofN 1) 0 bE, it 0] else Value.tuple #[vl (ofK 0) (ofN 0) 0 bE, it 0]) = resV (ofV (tI t)) := by cases t <;> rfl
theorem pBi_said (op k n m j p q : Int) (s u : ByteArray) : pBi op k n m j p q s u = resV (biV op k n m s j p q u) := by
  unfold pBi biV
  simp only [resV_if]
  cases c1 : decide (op < 6)
  · cases c2 : decide (op > 18)
    · cases h1 : okV k n m s
      · rfl
      · cases h2 : okV j p q u
        · rfl
        · cases c5 : decide (op ≥ 17)
          · rw [null_test h1, null_test h2]
            cases h3 : (k == 0)
            · cases h4 : (j == 0)
              · cases c8 : decide (op < 11)
                · rw [ix_said op _ c5 c8, ix_said op _ c5 c8]
                  change (bif (k == 1) then (bif (j == 1) then (bif hoV op _ then _ else _) else bif (j == 2) then _ else _) else _) = _
                  unfold numK
                  cases (k == 1) <;> cases (k == 2) <;> cases (j == 1) <;> cases (j == 2) <;> cases (k != j) <;> first | rfl | exact of_bool _
                · rfl
              · rfl
            · rfl
          · rfl
    · rfl
  · rfl
theorem bi_does (op k n m : Int) (s : ByteArray) (j p q : Int) (u : ByteArray) (hn : I64 n) (hm : I64 m) (hs : s.size ≤ 140737488351232) (hp : I64 p) (hq : I64 q) (hu : u.size ≤ 140737488351232) : Does cE 25 [] 0 [.v (it op), .v (vl k n m s), .v (vl j p q u)] (.v (resV (biV op k n m s j p q u))) [] 0 := by
  rw [← pBi_said]
  exact pBi_does op k n m j p q s u hn hm hs hp hq hu
end Go.Proofs.YtnchjdhepakokaaGreatDoorC
/- Steps of two, of the reference. Printed by a program (wip/tools); Lean checks each. -/
namespace Go.Proofs.YtnchjdhepakokaaGreatDoorC
open Go.Proofs Go.Proofs.YtnchjdhepakokaaGreatDoorSx Go.Lib
set_option maxRecDepth 100000
set_option linter.unusedVariables false
def rBi (op k n m j p q : Int) (s u : ByteArray) : Value :=
  bif (decide (op < 6)) then (.tuple #[(.agg #[(.int .i64 (0)), (.int .i64 (0)), (.int .i64 (0)), (.string ((ByteArray.mk #[])))]), (.int .i64 (1))])
  else bif (decide (op > 18)) then (.tuple #[(.agg #[(.int .i64 (0)), (.int .i64 (0)), (.int .i64 (0)), (.string ((ByteArray.mk #[])))]), (.int .i64 (1))])
    else bif (!okV k n m s) then (.tuple #[(.agg #[(.int .i64 (0)), (.int .i64 (0)), (.int .i64 (0)), (.string ((ByteArray.mk #[])))]), (.int .i64 (1))])
      else bif (!okV j p q u) then (.tuple #[(.agg #[(.int .i64 (0)), (.int .i64 (0)), (.int .i64 (0)), (.string ((ByteArray.mk #[])))]), (.int .i64 (1))])
        else bif (decide (op ≥ 17)) then bif (!trB k n m s) then (.tuple #[(.agg #[(.int .i64 (0)), (.int .i64 (0)), (.int .i64 (0)), (.string ((ByteArray.mk #[])))]), (.int .i64 (31))])
            else bif (!trB j p q u) then (.tuple #[(.agg #[(.int .i64 (0)), (.int .i64 (0)), (.int .i64 (0)), (.string ((ByteArray.mk #[])))]), (.int .i64 (31))])
              else bif (op == 17) then (.tuple #[(.agg #[(.int .i64 (ofK (andV (trN k n m s) (trN j p q u)))), (.int .i64 (ofN (andV (trN k n m s) (trN j p q u)))), (.int .i64 (0)), (.string (bE))]), (.int .i64 (0))])
                else (.tuple #[(.agg #[(.int .i64 (ofK (orV (trN k n m s) (trN j p q u)))), (.int .i64 (ofN (orV (trN k n m s) (trN j p q u)))), (.int .i64 (0)), (.string (bE))]), (.int .i64 (0))])
          else bif (k == 0) then (.tuple #[(.agg #[(.int .i64 (0)), (.int .i64 (0)), (.int .i64 (0)), (.string ((ByteArray.mk #[])))]), (.int .i64 (0))])
            else bif (j == 0) then (.tuple #[(.agg #[(.int .i64 (0)), (.int .i64 (0)), (.int .i64 (0)), (.string ((ByteArray.mk #[])))]), (.int .i64 (0))])
              else bif (decide (op ≤ 10)) then (.tuple #[(.agg #[(.int .i64 ((reV op k n m s j p q u).fst)), (.int .i64 ((reV op k n m s j p q u).snd.fst)), (.int .i64 ((reV op k n m s j p q u).snd.snd.fst)), (.string ((reV op k n m s j p q u).snd.snd.snd.fst))]), (.int .i64 ((reV op k n m s j p q u).snd.snd.snd.snd))])
                else bif (k == 1) then bif (j == 1) then (.tuple #[(.agg #[(.int .i64 (ofK (tI (hoV op (cmpM n m p q))))), (.int .i64 (ofN (tI (hoV op (cmpM n m p q))))), (.int .i64 (0)), (.string (bE))]), (.int .i64 (0))])
                    else bif (j == 2) then (.tuple #[(.agg #[(.int .i64 (ofK (tI (hoV op (cmpM n m p q))))), (.int .i64 (ofN (tI (hoV op (cmpM n m p q))))), (.int .i64 (0)), (.string (bE))]), (.int .i64 (0))])
                      else bif (k != j) then (.tuple #[(.agg #[(.int .i64 (0)), (.int .i64 (0)), (.int .i64 (0)), (.string ((ByteArray.mk #[])))]), (.int .i64 (31))])
                        else (.tuple #[(.agg #[(.int .i64 (ofK (tI (hoV op (cpV k n m s j p q u))))), (.int .i64 (ofN (tI (hoV op (cpV k n m s j p q u))))), (.int .i64 (0)), (.string (bE))]), (.int .i64 (0))])
                  else bif (k == 2) then bif (j == 1) then (.tuple #[(.agg #[(.int .i64 (ofK (tI (hoV op (cmpM n m p q))))), (.int .i64 (ofN (tI (hoV op (cmpM n m p q))))), (.int .i64 (0)), (.string (bE))]), (.int .i64 (0))])
                      else bif (j == 2) then (.tuple #[(.agg #[(.int .i64 (ofK (tI (hoV op (cmpM n m p q))))), (.int .i64 (ofN (tI (hoV op (cmpM n m p q))))), (.int .i64 (0)), (.string (bE))]), (.int .i64 (0))])
                        else bif (k != j) then (.tuple #[(.agg #[(.int .i64 (0)), (.int .i64 (0)), (.int .i64 (0)), (.string ((ByteArray.mk #[])))]), (.int .i64 (31))])
                          else (.tuple #[(.agg #[(.int .i64 (ofK (tI (hoV op (cpV k n m s j p q u))))), (.int .i64 (ofN (tI (hoV op (cpV k n m s j p q u))))), (.int .i64 (0)), (.string (bE))]), (.int .i64 (0))])
                    else bif (k != j) then (.tuple #[(.agg #[(.int .i64 (0)), (.int .i64 (0)), (.int .i64 (0)), (.string ((ByteArray.mk #[])))]), (.int .i64 (31))])
                      else (.tuple #[(.agg #[(.int .i64 (ofK (tI (hoV op (cpV k n m s j p q u))))), (.int .i64 (ofN (tI (hoV op (cpV k n m s j p q u))))), (.int .i64 (0)), (.string (bE))]), (.int .i64 (0))])
theorem rBi_does (op k n m j p q : Int) (s u : ByteArray) (hn : I64 n) (hm : I64 m) (hs : s.size ≤ 140737488351232) (hp : I64 p) (hq : I64 q) (hu : u.size ≤ 140737488351232) : Does cE 26 [] 0 [.v (it op), .v (vl k n m s), .v (vl j p q u)] (.v (rBi op k n m j p q s u)) [] 0 := by
  unfold rBi
  refine tbif (fun c1 => ?_) (fun c1 => ?_)
  · exact pth (fn := Tryz.f26) rfl (by kernel_rfl) [.t, .t, .t, .l, .l, .l, .l, .l, .l, .l, .l, .l] (by kernel_rfl) (cj c1 (cj c1 (cj c1 cj0)))
  · refine tbif (fun c2 => ?_) (fun c2 => ?_)
    · exact pth (fn := Tryz.f26) rfl (by kernel_rfl) [.f, .f, .f, .t, .t, .t, .t, .l, .l, .l, .l, .l] (by kernel_rfl) (cj c1 (cj c1 (cj c1 (cj c2 (cj c2 (cj c2 (cj c2 cj0)))))))
    · refine tbif (fun c3 => ?_) (fun c3 => ?_)
      · exact pth (fn := Tryz.f26) rfl (by kernel_rfl) [.f, .f, .f, .f, .f, .c (.v (.bool (okV k n m s))) [] 0, .f, .f, .t, .t, .t, .t, .l] (by kernel_rfl) (cj c1 (cj c1 (cj c1 (cj c2 (cj c2 (cj (right4_does (k) (n) (m) (s) (by assumption)) (cj c2 (cj c2 (cj c3 (cj c3 (cj c3 (cj c3 cj0))))))))))))
      · refine tbif (fun c4 => ?_) (fun c4 => ?_)
        · exact pth (fn := Tryz.f26) rfl (by kernel_rfl) [.f, .f, .f, .f, .f, .c (.v (.bool (okV k n m s))) [] 0, .f, .f, .f, .f, .c (.v (.bool (okV j p q u))) [] 0, .f, .f, .t] (by kernel_rfl) (cj c1 (cj c1 (cj c1 (cj c2 (cj c2 (cj (right4_does (k) (n) (m) (s) (by assumption)) (cj c2 (cj c2 (cj c3 (cj c3 (cj (right4_does (j) (p) (q) (u) (by assumption)) (cj c3 (cj c3 (cj c4 cj0))))))))))))))
        · refine tbif (fun c5 => ?_) (fun c5 => ?_)
          · refine tbif (fun c6 => ?_) (fun c6 => ?_)
            · exact pth (fn := Tryz.f26) rfl (by kernel_rfl) [.f, .f, .f, .f, .f, .c (.v (.bool (okV k n m s))) [] 0, .f, .f, .f, .f, .c (.v (.bool (okV j p q u))) [] 0, .f, .f, .f, .t, .c (.v (.tuple #[(.int .i64 (trN k n m s)), (.bool (trB k n m s))])) [] 0, .c (.v (.tuple #[(.int .i64 (trN j p q u)), (.bool (trB j p q u))])) [] 0, .t, .t, .t, .l] (by kernel_rfl) (cj c1 (cj c1 (cj c1 (cj c2 (cj c2 (cj (right4_does (k) (n) (m) (s) (by assumption)) (cj c2 (cj c2 (cj c3 (cj c3 (cj (right4_does (j) (p) (q) (u) (by assumption)) (cj c3 (cj c3 (cj c4 (cj c5 (cj (truth4_does (k) (n) (m) (s) (by assumption)) (cj (truth4_does (j) (p) (q) (u) (by assumption)) (cj c6 (cj c6 (cj c6 cj0))))))))))))))))))))
            · refine tbif (fun c7 => ?_) (fun c7 => ?_)
              · exact pth (fn := Tryz.f26) rfl (by kernel_rfl) [.f, .f, .f, .f, .f, .c (.v (.bool (okV k n m s))) [] 0, .f, .f, .f, .f, .c (.v (.bool (okV j p q u))) [] 0, .f, .f, .f, .t, .c (.v (.tuple #[(.int .i64 (trN k n m s)), (.bool (trB k n m s))])) [] 0, .c (.v (.tuple #[(.int .i64 (trN j p q u)), (.bool (trB j p q u))])) [] 0, .f, .f, .f, .t] (by kernel_rfl) (cj c1 (cj c1 (cj c1 (cj c2 (cj c2 (cj (right4_does (k) (n) (m) (s) (by assumption)) (cj c2 (cj c2 (cj c3 (cj c3 (cj (right4_does (j) (p) (q) (u) (by assumption)) (cj c3 (cj c3 (cj c4 (cj c5 (cj (truth4_does (k) (n) (m) (s) (by assumption)) (cj (truth4_does (j) (p) (q) (u) (by assumption)) (cj c6 (cj c6 (cj c6 (cj c7 cj0)))))))))))))))))))))
              · refine tbif (fun c8 => ?_) (fun c8 => ?_)
                · exact pth (fn := Tryz.f26) rfl (by kernel_rfl) [.f, .f, .f, .f, .f, .c (.v (.bool (okV k n m s))) [] 0, .f, .f, .f, .f, .c (.v (.bool (okV j p q u))) [] 0, .f, .f, .f, .t, .c (.v (.tuple #[(.int .i64 (trN k n m s)), (.bool (trB k n m s))])) [] 0, .c (.v (.tuple #[(.int .i64 (trN j p q u)), (.bool (trB j p q u))])) [] 0, .f, .f, .f, .f, .t, .c (.v (.int .i64 (andV (trN k n m s) (trN j p q u)))) [] 0, .c (.v (.agg #[(.int .i64 (ofK (andV (trN k n m s) (trN j p q u)))), (.int .i64 (ofN (andV (trN k n m s) (trN j p q u)))), (.int .i64 (0)), (.string (bE))])) [] 0] (by kernel_rfl) (cj c1 (cj c1 (cj c1 (cj c2 (cj c2 (cj (right4_does (k) (n) (m) (s) (by assumption)) (cj c2 (cj c2 (cj c3 (cj c3 (cj (right4_does (j) (p) (q) (u) (by assumption)) (cj c3 (cj c3 (cj c4 (cj c5 (cj (truth4_does (k) (n) (m) (s) (by assumption)) (cj (truth4_does (j) (p) (q) (u) (by assumption)) (cj c6 (cj c6 (cj c6 (cj c7 (cj c8 (cj (rand_does (trN k n m s) (trN j p q u)) (cj (rof4_does (andV (trN k n m s) (trN j p q u))) cj0))))))))))))))))))))))))
                · exact pth (fn := Tryz.f26) rfl (by kernel_rfl) [.f, .f, .f, .f, .f, .c (.v (.bool (okV k n m s))) [] 0, .f, .f, .f, .f, .c (.v (.bool (okV j p q u))) [] 0, .f, .f, .f, .t, .c (.v (.tuple #[(.int .i64 (trN k n m s)), (.bool (trB k n m s))])) [] 0, .c (.v (.tuple #[(.int .i64 (trN j p q u)), (.bool (trB j p q u))])) [] 0, .f, .f, .f, .f, .f, .c (.v (.int .i64 (orV (trN k n m s) (trN j p q u)))) [] 0, .c (.v (.agg #[(.int .i64 (ofK (orV (trN k n m s) (trN j p q u)))), (.int .i64 (ofN (orV (trN k n m s) (trN j p q u)))), (.int .i64 (0)), (.string (bE))])) [] 0] (by kernel_rfl) (cj c1 (cj c1 (cj c1 (cj c2 (cj c2 (cj (right4_does (k) (n) (m) (s) (by assumption)) (cj c2 (cj c2 (cj c3 (cj c3 (cj (right4_does (j) (p) (q) (u) (by assumption)) (cj c3 (cj c3 (cj c4 (cj c5 (cj (truth4_does (k) (n) (m) (s) (by assumption)) (cj (truth4_does (j) (p) (q) (u) (by assumption)) (cj c6 (cj c6 (cj c6 (cj c7 (cj c8 (cj (ror_does (trN k n m s) (trN j p q u)) (cj (rof4_does (orV (trN k n m s) (trN j p q u))) cj0))))))))))))))))))))))))
          · refine tbif (fun c9 => ?_) (fun c9 => ?_)
            · exact pth (fn := Tryz.f26) rfl (by kernel_rfl) [.f, .f, .f, .f, .f, .c (.v (.bool (okV k n m s))) [] 0, .f, .f, .f, .f, .c (.v (.bool (okV j p q u))) [] 0, .f, .f, .f, .f, .e, .t, .t, .t, .l] (by kernel_rfl) (cj c1 (cj c1 (cj c1 (cj c2 (cj c2 (cj (right4_does (k) (n) (m) (s) (by assumption)) (cj c2 (cj c2 (cj c3 (cj c3 (cj (right4_does (j) (p) (q) (u) (by assumption)) (cj c3 (cj c3 (cj c4 (cj c5 (cj c9 (cj c9 (cj c9 cj0))))))))))))))))))
            · refine tbif (fun c10 => ?_) (fun c10 => ?_)
              · exact pth (fn := Tryz.f26) rfl (by kernel_rfl) [.f, .f, .f, .f, .f, .c (.v (.bool (okV k n m s))) [] 0, .f, .f, .f, .f, .c (.v (.bool (okV j p q u))) [] 0, .f, .f, .f, .f, .e, .f, .f, .e, .f, .t] (by kernel_rfl) (cj c1 (cj c1 (cj c1 (cj c2 (cj c2 (cj (right4_does (k) (n) (m) (s) (by assumption)) (cj c2 (cj c2 (cj c3 (cj c3 (cj (right4_does (j) (p) (q) (u) (by assumption)) (cj c3 (cj c3 (cj c4 (cj c5 (cj c9 (cj c9 (cj c9 (cj c10 cj0)))))))))))))))))))
              · refine tbif (fun c11 => ?_) (fun c11 => ?_)
                · exact pth (fn := Tryz.f26) rfl (by kernel_rfl) [.f, .f, .f, .f, .f, .c (.v (.bool (okV k n m s))) [] 0, .f, .f, .f, .f, .c (.v (.bool (okV j p q u))) [] 0, .f, .f, .f, .f, .e, .f, .f, .e, .f, .f, .t, .c (.v (.tuple #[(.agg #[(.int .i64 ((reV op k n m s j p q u).fst)), (.int .i64 ((reV op k n m s j p q u).snd.fst)), (.int .i64 ((reV op k n m s j p q u).snd.snd.fst)), (.string ((reV op k n m s j p q u).snd.snd.snd.fst))]), (.int .i64 ((reV op k n m s j p q u).snd.snd.snd.snd))])) [] 0] (by kernel_rfl) (cj c1 (cj c1 (cj c1 (cj c2 (cj c2 (cj (right4_does (k) (n) (m) (s) (by assumption)) (cj c2 (cj c2 (cj c3 (cj c3 (cj (right4_does (j) (p) (q) (u) (by assumption)) (cj c3 (cj c3 (cj c4 (cj c5 (cj c9 (cj c9 (cj c9 (cj c10 (cj c11 (cj (rreckon_does (op) (k) (n) (m) (s) (j) (p) (q) (u) (by assumption) (by assumption) (by assumption) (by assumption) (by assumption) (by assumption)) cj0)))))))))))))))))))))
                · refine tbif (fun c12 => ?_) (fun c12 => ?_)
                  · refine tbif (fun c13 => ?_) (fun c13 => ?_)
                    · exact pth (fn := Tryz.f26) rfl (by kernel_rfl) [.f, .f, .f, .f, .f, .c (.v (.bool (okV k n m s))) [] 0, .f, .f, .f, .f, .c (.v (.bool (okV j p q u))) [] 0, .f, .f, .f, .f, .e, .f, .f, .e, .f, .f, .f, .e, .t, .t, .t, .t, .l, .l, .e, .t, .t, .t, .t, .l, .l, .e, .e, .c (.v (.int .i64 (cmpM n m p q))) [] 0, .c (.v (.bool (hoV op (cmpM n m p q)))) [] 0, .c (.v (.agg #[(.int .i64 (ofK (tI (hoV op (cmpM n m p q))))), (.int .i64 (ofN (tI (hoV op (cmpM n m p q))))), (.int .i64 (0)), (.string (bE))])) [] 0] (by kernel_rfl) (cj c1 (cj c1 (cj c1 (cj c2 (cj c2 (cj (right4_does (k) (n) (m) (s) (by assumption)) (cj c2 (cj c2 (cj c3 (cj c3 (cj (right4_does (j) (p) (q) (u) (by assumption)) (cj c3 (cj c3 (cj c4 (cj c5 (cj c9 (cj c9 (cj c9 (cj c10 (cj c11 (cj c12 (cj c12 (cj c12 (cj c12 (cj c13 (cj c13 (cj c13 (cj c13 (cj (rcmp_does (u := (n)) (x := (m)) (v := (p)) (y := (q)) (by assumption) (by assumption) (by assumption) (by assumption)) (cj (holds_does (op) (cmpM n m p q)) (cj (rtruth_does (hoV op (cmpM n m p q))) cj0)))))))))))))))))))))))))))))))
                    · refine tbif (fun c14 => ?_) (fun c14 => ?_)
                      · exact pth (fn := Tryz.f26) rfl (by kernel_rfl) [.f, .f, .f, .f, .f, .c (.v (.bool (okV k n m s))) [] 0, .f, .f, .f, .f, .c (.v (.bool (okV j p q u))) [] 0, .f, .f, .f, .f, .e, .f, .f, .e, .f, .f, .f, .e, .t, .t, .t, .t, .l, .l, .e, .f, .f, .f, .f, .l, .t, .e, .e, .c (.v (.int .i64 (cmpM n m p q))) [] 0, .c (.v (.bool (hoV op (cmpM n m p q)))) [] 0, .c (.v (.agg #[(.int .i64 (ofK (tI (hoV op (cmpM n m p q))))), (.int .i64 (ofN (tI (hoV op (cmpM n m p q))))), (.int .i64 (0)), (.string (bE))])) [] 0] (by kernel_rfl) (cj c1 (cj c1 (cj c1 (cj c2 (cj c2 (cj (right4_does (k) (n) (m) (s) (by assumption)) (cj c2 (cj c2 (cj c3 (cj c3 (cj (right4_does (j) (p) (q) (u) (by assumption)) (cj c3 (cj c3 (cj c4 (cj c5 (cj c9 (cj c9 (cj c9 (cj c10 (cj c11 (cj c12 (cj c12 (cj c12 (cj c12 (cj c13 (cj c13 (cj c13 (cj c13 (cj c14 (cj (rcmp_does (u := (n)) (x := (m)) (v := (p)) (y := (q)) (by assumption) (by assumption) (by assumption) (by assumption)) (cj (holds_does (op) (cmpM n m p q)) (cj (rtruth_does (hoV op (cmpM n m p q))) cj0))))))))))))))))))))))))))))))))
                      · refine tbif (fun c15 => ?_) (fun c15 => ?_)
                        · exact pth (fn := Tryz.f26) rfl (by kernel_rfl) [.f, .f, .f, .f, .f, .c (.v (.bool (okV k n m s))) [] 0, .f, .f, .f, .f, .c (.v (.bool (okV j p q u))) [] 0, .f, .f, .f, .f, .e, .f, .f, .e, .f, .f, .f, .e, .t, .t, .t, .t, .l, .l, .e, .f, .f, .f, .f, .l, .f, .t] (by kernel_rfl) (cj c1 (cj c1 (cj c1 (cj c2 (cj c2 (cj (right4_does (k) (n) (m) (s) (by assumption)) (cj c2 (cj c2 (cj c3 (cj c3 (cj (right4_does (j) (p) (q) (u) (by assumption)) (cj c3 (cj c3 (cj c4 (cj c5 (cj c9 (cj c9 (cj c9 (cj c10 (cj c11 (cj c12 (cj c12 (cj c12 (cj c12 (cj c13 (cj c13 (cj c13 (cj c13 (cj c14 (cj c15 cj0))))))))))))))))))))))))))))))
                        · exact pth (fn := Tryz.f26) rfl (by kernel_rfl) [.f, .f, .f, .f, .f, .c (.v (.bool (okV k n m s))) [] 0, .f, .f, .f, .f, .c (.v (.bool (okV j p q u))) [] 0, .f, .f, .f, .f, .e, .f, .f, .e, .f, .f, .f, .e, .t, .t, .t, .t, .l, .l, .e, .f, .f, .f, .f, .l, .f, .f, .c (.v (.int .i64 (cpV k n m s j p q u))) [] 0, .c (.v (.bool (hoV op (cpV k n m s j p q u)))) [] 0, .c (.v (.agg #[(.int .i64 (ofK (tI (hoV op (cpV k n m s j p q u))))), (.int .i64 (ofN (tI (hoV op (cpV k n m s j p q u))))), (.int .i64 (0)), (.string (bE))])) [] 0] (by kernel_rfl) (cj c1 (cj c1 (cj c1 (cj c2 (cj c2 (cj (right4_does (k) (n) (m) (s) (by assumption)) (cj c2 (cj c2 (cj c3 (cj c3 (cj (right4_does (j) (p) (q) (u) (by assumption)) (cj c3 (cj c3 (cj c4 (cj c5 (cj c9 (cj c9 (cj c9 (cj c10 (cj c11 (cj c12 (cj c12 (cj c12 (cj c12 (cj c13 (cj c13 (cj c13 (cj c13 (cj c14 (cj c15 (cj (rcompare_does (k) (n) (m) (s) (j) (p) (q) (u) (by assumption) (by assumption) (by assumption) (by assumption) (by assumption) (by assumption)) (cj (holds_does (op) (cpV k n m s j p q u)) (cj (rtruth_does (hoV op (cpV k n m s j p q u))) cj0)))))))))))))))))))))))))))))))))
                  · refine tbif (fun c16 => ?_) (fun c16 => ?_)
                    · refine tbif (fun c17 => ?_) (fun c17 => ?_)
                      · exact pth (fn := Tryz.f26) rfl (by kernel_rfl) [.f, .f, .f, .f, .f, .c (.v (.bool (okV k n m s))) [] 0, .f, .f, .f, .f, .c (.v (.bool (okV j p q u))) [] 0, .f, .f, .f, .f, .e, .f, .f, .e, .f, .f, .f, .e, .f, .f, .f, .f, .t, .t, .e, .t, .t, .t, .t, .t, .l, .e, .e, .c (.v (.int .i64 (cmpM n m p q))) [] 0, .c (.v (.bool (hoV op (cmpM n m p q)))) [] 0, .c (.v (.agg #[(.int .i64 (ofK (tI (hoV op (cmpM n m p q))))), (.int .i64 (ofN (tI (hoV op (cmpM n m p q))))), (.int .i64 (0)), (.string (bE))])) [] 0] (by kernel_rfl) (cj c1 (cj c1 (cj c1 (cj c2 (cj c2 (cj (right4_does (k) (n) (m) (s) (by assumption)) (cj c2 (cj c2 (cj c3 (cj c3 (cj (right4_does (j) (p) (q) (u) (by assumption)) (cj c3 (cj c3 (cj c4 (cj c5 (cj c9 (cj c9 (cj c9 (cj c10 (cj c11 (cj c12 (cj c12 (cj c12 (cj c12 (cj c16 (cj c16 (cj c17 (cj c17 (cj c17 (cj c17 (cj c16 (cj (rcmp_does (u := (n)) (x := (m)) (v := (p)) (y := (q)) (by assumption) (by assumption) (by assumption) (by assumption)) (cj (holds_does (op) (cmpM n m p q)) (cj (rtruth_does (hoV op (cmpM n m p q))) cj0))))))))))))))))))))))))))))))))))
                      · refine tbif (fun c18 => ?_) (fun c18 => ?_)
                        · exact pth (fn := Tryz.f26) rfl (by kernel_rfl) [.f, .f, .f, .f, .f, .c (.v (.bool (okV k n m s))) [] 0, .f, .f, .f, .f, .c (.v (.bool (okV j p q u))) [] 0, .f, .f, .f, .f, .e, .f, .f, .e, .f, .f, .f, .e, .f, .f, .f, .f, .t, .t, .e, .f, .f, .f, .f, .t, .t, .e, .e, .c (.v (.int .i64 (cmpM n m p q))) [] 0, .c (.v (.bool (hoV op (cmpM n m p q)))) [] 0, .c (.v (.agg #[(.int .i64 (ofK (tI (hoV op (cmpM n m p q))))), (.int .i64 (ofN (tI (hoV op (cmpM n m p q))))), (.int .i64 (0)), (.string (bE))])) [] 0] (by kernel_rfl) (cj c1 (cj c1 (cj c1 (cj c2 (cj c2 (cj (right4_does (k) (n) (m) (s) (by assumption)) (cj c2 (cj c2 (cj c3 (cj c3 (cj (right4_does (j) (p) (q) (u) (by assumption)) (cj c3 (cj c3 (cj c4 (cj c5 (cj c9 (cj c9 (cj c9 (cj c10 (cj c11 (cj c12 (cj c12 (cj c12 (cj c12 (cj c16 (cj c16 (cj c17 (cj c17 (cj c17 (cj c17 (cj c16 (cj c18 (cj (rcmp_does (u := (n)) (x := (m)) (v := (p)) (y := (q)) (by assumption) (by assumption) (by assumption) (by assumption)) (cj (holds_does (op) (cmpM n m p q)) (cj (rtruth_does (hoV op (cmpM n m p q))) cj0)))))))))))))))))))))))))))))))))))
                        · refine tbif (fun c19 => ?_) (fun c19 => ?_)
                          · exact pth (fn := Tryz.f26) rfl (by kernel_rfl) [.f, .f, .f, .f, .f, .c (.v (.bool (okV k n m s))) [] 0, .f, .f, .f, .f, .c (.v (.bool (okV j p q u))) [] 0, .f, .f, .f, .f, .e, .f, .f, .e, .f, .f, .f, .e, .f, .f, .f, .f, .t, .t, .e, .f, .f, .f, .f, .t, .f, .t] (by kernel_rfl) (cj c1 (cj c1 (cj c1 (cj c2 (cj c2 (cj (right4_does (k) (n) (m) (s) (by assumption)) (cj c2 (cj c2 (cj c3 (cj c3 (cj (right4_does (j) (p) (q) (u) (by assumption)) (cj c3 (cj c3 (cj c4 (cj c5 (cj c9 (cj c9 (cj c9 (cj c10 (cj c11 (cj c12 (cj c12 (cj c12 (cj c12 (cj c16 (cj c16 (cj c17 (cj c17 (cj c17 (cj c17 (cj c16 (cj c18 (cj c19 cj0)))))))))))))))))))))))))))))))))
                          · exact pth (fn := Tryz.f26) rfl (by kernel_rfl) [.f, .f, .f, .f, .f, .c (.v (.bool (okV k n m s))) [] 0, .f, .f, .f, .f, .c (.v (.bool (okV j p q u))) [] 0, .f, .f, .f, .f, .e, .f, .f, .e, .f, .f, .f, .e, .f, .f, .f, .f, .t, .t, .e, .f, .f, .f, .f, .t, .f, .f, .c (.v (.int .i64 (cpV k n m s j p q u))) [] 0, .c (.v (.bool (hoV op (cpV k n m s j p q u)))) [] 0, .c (.v (.agg #[(.int .i64 (ofK (tI (hoV op (cpV k n m s j p q u))))), (.int .i64 (ofN (tI (hoV op (cpV k n m s j p q u))))), (.int .i64 (0)), (.string (bE))])) [] 0] (by kernel_rfl) (cj c1 (cj c1 (cj c1 (cj c2 (cj c2 (cj (right4_does (k) (n) (m) (s) (by assumption)) (cj c2 (cj c2 (cj c3 (cj c3 (cj (right4_does (j) (p) (q) (u) (by assumption)) (cj c3 (cj c3 (cj c4 (cj c5 (cj c9 (cj c9 (cj c9 (cj c10 (cj c11 (cj c12 (cj c12 (cj c12 (cj c12 (cj c16 (cj c16 (cj c17 (cj c17 (cj c17 (cj c17 (cj c16 (cj c18 (cj c19 (cj (rcompare_does (k) (n) (m) (s) (j) (p) (q) (u) (by assumption) (by assumption) (by assumption) (by assumption) (by assumption) (by assumption)) (cj (holds_does (op) (cpV k n m s j p q u)) (cj (rtruth_does (hoV op (cpV k n m s j p q u))) cj0))))))))))))))))))))))))))))))))))))
                    · refine tbif (fun c20 => ?_) (fun c20 => ?_)
                      · exact pth (fn := Tryz.f26) rfl (by kernel_rfl) [.f, .f, .f, .f, .f, .c (.v (.bool (okV k n m s))) [] 0, .f, .f, .f, .f, .c (.v (.bool (okV j p q u))) [] 0, .f, .f, .f, .f, .e, .f, .f, .e, .f, .f, .f, .e, .f, .f, .f, .f, .f, .f, .f, .l, .t] (by kernel_rfl) (cj c1 (cj c1 (cj c1 (cj c2 (cj c2 (cj (right4_does (k) (n) (m) (s) (by assumption)) (cj c2 (cj c2 (cj c3 (cj c3 (cj (right4_does (j) (p) (q) (u) (by assumption)) (cj c3 (cj c3 (cj c4 (cj c5 (cj c9 (cj c9 (cj c9 (cj c10 (cj c11 (cj c12 (cj c12 (cj c12 (cj c12 (cj c16 (cj c16 (cj c16 (cj c20 cj0))))))))))))))))))))))))))))
                      · exact pth (fn := Tryz.f26) rfl (by kernel_rfl) [.f, .f, .f, .f, .f, .c (.v (.bool (okV k n m s))) [] 0, .f, .f, .f, .f, .c (.v (.bool (okV j p q u))) [] 0, .f, .f, .f, .f, .e, .f, .f, .e, .f, .f, .f, .e, .f, .f, .f, .f, .f, .f, .f, .l, .f, .c (.v (.int .i64 (cpV k n m s j p q u))) [] 0, .c (.v (.bool (hoV op (cpV k n m s j p q u)))) [] 0, .c (.v (.agg #[(.int .i64 (ofK (tI (hoV op (cpV k n m s j p q u))))), (.int .i64 (ofN (tI (hoV op (cpV k n m s j p q u))))), (.int .i64 (0)), (.string (bE))])) [] 0] (by kernel_rfl) (cj c1 (cj c1 (cj c1 (cj c2 (cj c2 (cj (right4_does (k) (n) (m) (s) (by assumption)) (cj c2 (cj c2 (cj c3 (cj c3 (cj (right4_does (j) (p) (q) (u) (by assumption)) (cj c3 (cj c3 (cj c4 (cj c5 (cj c9 (cj c9 (cj c9 (cj c10 (cj c11 (cj c12 (cj c12 (cj c12 (cj c12 (cj c16 (cj c16 (cj c16 (cj c20 (cj (rcompare_does (k) (n) (m) (s) (j) (p) (q) (u) (by assumption) (by assumption) (by assumption) (by assumption) (by assumption) (by assumption)) (cj (holds_does (op) (cpV k n m s j p q u)) (cj (rtruth_does (hoV op (cpV k n m s j p q u))) cj0)))))))))))))))))))))))))))))))
end Go.Proofs.YtnchjdhepakokaaGreatDoorC
/- Steps of two, told: the reference's. -/
namespace Go.Proofs.YtnchjdhepakokaaGreatDoorC
open Go.Proofs Go.Proofs.YtnchjdhepakokaaGreatDoorSx Go.Lib
set_option maxRecDepth 100000
set_option linter.unusedVariables false
set_option linter.unusedSimpArgs false
theorem rBi_said (op k n m j p q : Int) (s u : ByteArray) : rBi op k n m j p q s u = resV (biV op k n m s j p q u) := by
  unfold rBi biV loV numK
  simp only [resV_if]
  have e : decide (op ≤ 10) = decide (op < 11) := by
    by_cases h : op < 11
    · rw [decide_eq_true h, decide_eq_true (by omega)]
    · rw [decide_eq_false h, decide_eq_false (by omega)]
  rw [e]
  cases decide (op < 6)
  · cases decide (op > 18)
    · cases okV k n m s
      · rfl
      · cases okV j p q u
        · rfl
        · cases decide (op ≥ 17)
          · cases (k == 0)
            · cases (j == 0)
              · cases decide (op < 11)
                · cases (k == 1) <;> cases (k == 2) <;> cases (j == 1) <;> cases (j == 2) <;> cases (k != j) <;> rfl
                · rfl
              · rfl
            · rfl
          · rfl
    · rfl
  · rfl
theorem rbi_does (op k n m : Int) (s : ByteArray) (j p q : Int) (u : ByteArray) (hn : I64 n) (hm : I64 m) (hs : s.size ≤ 140737488351232) (hp : I64 p) (hq : I64 q) (hu : u.size ≤ 140737488351232) : Does cE 26 [] 0 [.v (it op), .v (vl k n m s), .v (vl j p q u)] (.v (resV (biV op k n m s j p q u))) [] 0 := by
  rw [← rBi_said]
  exact rBi_does op k n m j p q s u hn hm hs hp hq hu
end Go.Proofs.YtnchjdhepakokaaGreatDoorC
/- Small facts for the laws. -/
namespace Go.Proofs.YtnchjdhepakokaaGreatDoorC
open Go.Proofs Go.Proofs.YtnchjdhepakokaaGreatDoorSx Go.Lib
set_option maxRecDepth 100000
set_option linter.unusedVariables false
set_option linter.unusedSimpArgs false
theorem same_self (k n m : Int) (s : ByteArray) : sameV k n m s k n m s = true := by
  unfold sameV
  simp
theorem kn_div : Does cE 25 [] 0 [.v (it 7), .v (vl 1 1 0 bE), .v (vl 2 30 1 bE)] (.v (resV (2, 333333, 6, bE, 0))) [] 0 := by
  have h := bi_does 7 1 1 0 bE 2 30 1 bE (by decide) (by decide) (by decide) (by decide) (by decide) (by decide)
  have e : biV 7 1 1 0 bE 2 30 1 bE = (2, 333333, 6, bE, 0) := by kernel_rfl
  rw [e] at h
  exact h
theorem kn_and : Does cE 25 [] 0 [.v (it 17), .v (vl 0 0 0 bE), .v (vl 4 0 0 bE)] (.v (resV (4, 0, 0, bE, 0))) [] 0 := by
  have h := bi_does 17 0 0 0 bE 4 0 0 bE (by decide) (by decide) (by decide) (by decide) (by decide) (by decide)
  have e : biV 17 0 0 0 bE 4 0 0 bE = (4, 0, 0, bE, 0) := by kernel_rfl
  rw [e] at h
  exact h
end Go.Proofs.YtnchjdhepakokaaGreatDoorC
/- What the laws of evaluation know. Printed by a program (wip/tools); Lean checks each. -/
namespace Go.Proofs.YtnchjdhepakokaaGreatDoorC
open Go.Proofs Go.Proofs.YtnchjdhepakokaaGreatDoorSx Go.Lib
set_option maxRecDepth 100000
set_option linter.unusedVariables false
def kE (z : Nat) : Value :=
  (.bool ((((ByteArray.mk #[97, 98, 99]).size : Nat) : Int) == 3))
theorem kE_does (z : Nat) : Does cE 22 [] 0 [] (.v (kE z)) [] 0 := by
  unfold kE
  exact pth (fn := Tryz.f22) rfl (by kernel_rfl) [.e, .c (.v (.tuple #[(.agg #[(.int .i64 (2)), (.int .i64 (333333)), (.int .i64 (6)), (.string (bE))]), (.int .i64 (0))])) [] 0, .c (.v (.tuple #[(.agg #[(.int .i64 (4)), (.int .i64 (0)), (.int .i64 (0)), (.string (bE))]), (.int .i64 (0))])) [] 0, .e, .e, .e, .n 30, .l, .l, .e, .c (.v (.bool (okV 3 0 0 (ByteArray.mk #[97, 98, 99])))) [] 0, .l, .l, .l, .l, .l, .l, .l, .l, .l, .l, .l, .l, .e, .l, .e, .e, .n 30, .l, .l, .e, .l, .l, .l, .l, .l, .l, .l, .l, .l, .l, .e, .l, .l, .l, .l, .l, .e, .l, .e, .e, .e, .l, .l, .l, .l, .l, .l, .l, .l, .l, .l, .l, .l, .l, .l, .l, .l, .l, .l, .l, .l] (by kernel_rfl) (cj (by first | exact kn_div | exact kn_and | decide | omega : Does cE 25 [] 0 [.v (.int .i64 (7)), .v (.agg #[(.int .i64 (1)), (.int .i64 (1)), (.int .i64 (0)), (.string ((ByteArray.mk #[])))]), .v (.agg #[(.int .i64 (2)), (.int .i64 (30)), (.int .i64 (1)), (.string ((ByteArray.mk #[])))])] (.v (.tuple #[(.agg #[(.int .i64 (2)), (.int .i64 (333333)), (.int .i64 (6)), (.string (bE))]), (.int .i64 (0))])) [] 0) (cj (by first | exact kn_div | exact kn_and | decide | omega : Does cE 25 [] 0 [.v (.int .i64 (17)), .v (.agg #[(.int .i64 (0)), (.int .i64 (0)), (.int .i64 (0)), (.string ((ByteArray.mk #[])))]), .v (.agg #[(.int .i64 (4)), (.int .i64 (0)), (.int .i64 (0)), (.string ((ByteArray.mk #[])))])] (.v (.tuple #[(.agg #[(.int .i64 (4)), (.int .i64 (0)), (.int .i64 (0)), (.string (bE))]), (.int .i64 (0))])) [] 0) (cj (by first | decide | exact ⟨by decide, by decide⟩ | exact Nat.le_of_ble_eq_true rfl : (0 : Int) ≤ 0 ∧ (0 : Int) < ((1 : Nat) : Int)) (cj (right_does (3) (0) (0) ((ByteArray.mk #[97, 98, 99])) (by first | assumption | decide)) (cj (by first | decide | exact ⟨by decide, by decide⟩ | exact Nat.le_of_ble_eq_true rfl : Room (([] : List Int).length + [(3, 0, 0, (ByteArray.mk #[97, 98, 99]))].length) 40) (cj (by first | decide | exact ⟨by decide, by decide⟩ | exact Nat.le_of_ble_eq_true rfl : (0 : Int) ≤ 0 ∧ (0 : Int) < ((([] ++ [(3, 0, 0, (ByteArray.mk #[97, 98, 99]))]).length : Nat) : Int)) (cj (by first | decide | exact ⟨by decide, by decide⟩ | exact Nat.le_of_ble_eq_true rfl : (Int.toNat 0).succ.le ([] ++ [(3, 0, 0, (ByteArray.mk #[97, 98, 99]))]).length) (cj (by first | decide | exact ⟨by decide, by decide⟩ | exact Nat.le_of_ble_eq_true rfl : (0 : Int) ≤ 0 ∧ (0 : Int) < ((([] ++ [(3, 0, 0, (ByteArray.mk #[97, 98, 99]))]).length : Nat) : Int)) (cj (by first | decide | exact ⟨by decide, by decide⟩ | exact Nat.le_of_ble_eq_true rfl : (Int.toNat 0).succ.le ([] ++ [(3, 0, 0, (ByteArray.mk #[97, 98, 99]))]).length) (cj (by first | decide | exact ⟨by decide, by decide⟩ | exact Nat.le_of_ble_eq_true rfl : (0 : Int) ≤ IntKind.i64.wrap (((([] ++ [(3, 0, 0, (ByteArray.mk #[97, 98, 99]))]).length : Nat) : Int) - 1) ∧ IntKind.i64.wrap (((([] ++ [(3, 0, 0, (ByteArray.mk #[97, 98, 99]))]).length : Nat) : Int) - 1) < ((([] ++ [(3, 0, 0, (ByteArray.mk #[97, 98, 99]))]).length : Nat) : Int)) (cj (by first | decide | exact ⟨by decide, by decide⟩ | exact Nat.le_of_ble_eq_true rfl : (IntKind.i64.wrap (((([] ++ [(3, 0, 0, (ByteArray.mk #[97, 98, 99]))]).length : Nat) : Int) - 1)).toNat.succ.le ([] ++ [(3, 0, 0, (ByteArray.mk #[97, 98, 99]))]).length) cj0)))))))))))
end Go.Proofs.YtnchjdhepakokaaGreatDoorC
/- What the laws of evaluation know. -/
namespace Go.Proofs.YtnchjdhepakokaaGreatDoorC
open Go.Proofs Go.Proofs.YtnchjdhepakokaaGreatDoorSx Go.Lib
theorem i64_of {n : Int} (h : (Lit.int .i64 n).wf = true) : I64 n := by simpa [Lit.wf, IntKind.min, IntKind.max, IntKind.signed, IntKind.bits] using h
theorem knows_does : Does cE 22 [] 0 [] (.v (.bool true)) [] 0 := kE_does 0
end Go.Proofs.YtnchjdhepakokaaGreatDoorC
/- Texts of good UTF-8, one behind the other, are one of good UTF-8. -/
namespace Go.Proofs.YtnchjdhepakokaaGreatDoorC
open Go.Lib
theorem decodeN_more {n n' b0 b1 b2 b3 c1 c2 c3 : Nat} (h : ¬ ((decodeN n b0 b1 b2 b3).1 = 65533 ∧ (decodeN n b0 b1 b2 b3).2 = 1)) (hle : n ≤ n') (e1 : 1 < n → c1 = b1) (e2 : 2 < n → c2 = b2) (e3 : 3 < n → c3 = b3) : decodeN n' b0 c1 c2 c3 = decodeN n b0 b1 b2 b3 := by
  by_cases h1 : 1 < n
  · have := e1 h1
    subst this
    by_cases h2 : 2 < n
    · have := e2 h2
      subst this
      by_cases h3 : 3 < n
      · have := e3 h3
        subst this
        unfold decodeN
        simp [h1, h2, h3, (by omega : 1 < n'), (by omega : 2 < n'), (by omega : 3 < n')]
      · have l1 : 1 < n' := by omega
        have l2 : 2 < n' := by omega
        unfold decodeN at h ⊢
        by_cases A : b0 < 128
        · rw [if_pos A, if_pos A]
        · rw [if_neg A] at h ⊢
          rw [if_neg A]
          by_cases B : b0 / 32 = 6 ∧ (1 < n ∧ c1 / 64 = 2)
          · rw [if_pos B, if_pos ⟨B.1, l1, B.2.2⟩]
          · rw [if_neg B] at h ⊢
            rw [if_neg (fun x => B ⟨x.1, h1, x.2.2⟩)]
            by_cases C : b0 / 16 = 14 ∧ (1 < n ∧ c1 / 64 = 2) ∧ (2 < n ∧ c2 / 64 = 2)
            · rw [if_pos C, if_pos ⟨C.1, ⟨l1, C.2.1.2⟩, l2, C.2.2.2⟩]
            · rw [if_neg C, if_neg (fun x => h3 x.2.2.2.1)] at h
              exact absurd ⟨rfl, rfl⟩ h
    · have l1 : 1 < n' := by omega
      unfold decodeN at h ⊢
      by_cases A : b0 < 128
      · rw [if_pos A, if_pos A]
      · rw [if_neg A] at h ⊢
        rw [if_neg A]
        by_cases B : b0 / 32 = 6 ∧ (1 < n ∧ c1 / 64 = 2)
        · rw [if_pos B, if_pos ⟨B.1, l1, B.2.2⟩]
        · rw [if_neg B, if_neg (fun x => h2 x.2.2.1), if_neg (fun x => h2 x.2.2.1.1)] at h
          exact absurd ⟨rfl, rfl⟩ h
  · unfold decodeN at h ⊢
    by_cases A : b0 < 128
    · rw [if_pos A, if_pos A]
    · rw [if_neg A, if_neg (fun x => h1 x.2.1), if_neg (fun x => h1 x.2.1.1), if_neg (fun x => h1 x.2.1.1)] at h
      exact absurd ⟨rfl, rfl⟩ h
theorem validD_append : ∀ (k : Nat) (a b : List UInt8), a.length ≤ k → validD a = true → validD b = true → validD (a ++ b) = true
  | 0, a, b, hk, ha, hb => by
    have : a = [] := List.eq_nil_of_length_eq_zero (by omega)
    subst this
    exact hb
  | k + 1, a, b, hk, ha, hb => by
    by_cases hne : a = []
    · subst hne; exact hb
    · have hl : 0 < a.length := List.length_pos_iff.2 hne
      rw [validD_step a hne] at ha
      rw [validD_step (a ++ b) (by simp [hne])]
      have hbad : ¬ ((decodeL a).1 = 65533 ∧ (decodeL a).2 = 1) := by
        intro h
        rw [if_pos h] at ha
        cases ha
      rw [if_neg hbad] at ha
      have e : decodeL (a ++ b) = decodeL a := by
        rw [decodeL_N] at hbad ⊢
        rw [decodeL_N a]
        have g : ∀ j, j < a.length → (a ++ b).getD j 0 = a.getD j 0 := fun j hj => by
          rw [List.getD_eq_getElem?_getD, List.getD_eq_getElem?_getD, List.getElem?_append_left hj]
        rw [g 0 hl]
        exact decodeN_more hbad (by simp) (fun h => by rw [g 1 h]) (fun h => by rw [g 2 h]) (fun h => by rw [g 3 h])
      rw [e, if_neg hbad, List.drop_append_of_le_length (decodeL_le a hne)]
      have hw := decodeL_width a
      exact validD_append k (a.drop (decodeL a).2) b (by rw [List.length_drop]; omega) ha hb
end Go.Proofs.YtnchjdhepakokaaGreatDoorC
