import Derived.Test.YtpfignfgfhbblaaGreatDoorMt12
import Derived.KernelRfl
import Derived.Test.YtpfignfgfhbblaaGreatDoorMt11
import Derived.Test.YtpfignfgfhbblaaGreatDoorMt08
import Derived.Test.YtpfignfgfhbblaaGreatDoorRows
import Derived.JoinedOf
import Derived.SevenTiedAt
/- The lexer: what its parts come to. Plain words. -/
namespace Go.Proofs.YtpfignfgfhbblaaGreatDoorC
open Go.Proofs Go.Proofs.YtpfignfgfhbblaaGreatDoorSx Go.Lib
set_option maxRecDepth 100000
set_option linter.unusedVariables false
/-- A value's parts, and what datum.Parse says of a text. -/
abbrev V4 := Int × Int × Int × ByteArray
def zV : V4 := (0, 0, 0, bE)
/-- Of a text: the value, what is wrong. -/
def pvL (l : List UInt8) : Int × Int × Int × ByteArray × Int :=
  bif (rdL l).2.2.2.2 && (okV (rdL l).1 (rdL l).2.1 (rdL l).2.2.1 (rdL l).2.2.2.1 && prV (rdL l).1 (rdL l).2.1 (rdL l).2.2.1 (rdL l).2.2.2.1 == l) then ((rdL l).1, (rdL l).2.1, (rdL l).2.2.1, (rdL l).2.2.2.1, 0) else (0, 0, 0, bE, 21)
def letB (c : UInt8) : Bool := decide (97 ≤ c.toNat) && decide (c.toNat ≤ 122) || c == 95
def digB (c : UInt8) : Bool := decide (48 ≤ c.toNat) && decide (c.toNat ≤ 57)
def wrdB (c : UInt8) : Bool := letB c || digB c
/-- Is it a word? -/
def wordL : List UInt8 → Bool
  | [] => false
  | c :: r => letB c && (r.all wrdB && decide (r.length + 1 ≤ 32))
def signs1 : List UInt8 := [40, 41, 44, 46, 59, 42, 43, 45, 47, 37, 61, 60, 62]
/-- How long the sign is that a text begins with. -/
def signL : List UInt8 → Int
  | [] => 0
  | c :: r => bif (c == 60 && r.head? == some 62) || ((c == 60 && r.head? == some 61) || (c == 62 && r.head? == some 61)) then 2 else bif signs1.contains c then 1 else 0
/-- How long the number is. -/
def numN : Bool → List UInt8 → Nat
  | _, [] => 0
  | p, c :: r => bif digB c then numN p r + 1 else bif c == 46 && !p then numN true r + 1 else 0
/-- How long the rest of a quoted text is, the last quote too. -/
def quoN : List UInt8 → Option Nat
  | [] => none
  | c :: r => bif c == 39 then (match r with
    | [] => some 1
    | d :: r' => bif d == 39 then (quoN r').map (· + 2) else some 1) else (quoN r).map (· + 1)
def quoLn (l : List UInt8) : Int := match quoN (l.drop 1) with
  | some k => ((k + 1 : Nat) : Int)
  | none => 0
def pv4 (l : List UInt8) : V4 := ((pvL l).1, (pvL l).2.1, (pvL l).2.2.1, (pvL l).2.2.2.1)
def pvOk (l : List UInt8) : Bool := (pvL l).2.2.2.2 == 0
def quoK (r : List UInt8) : Nat := match quoN r with
  | some k => k + 1
  | none => 0
/-- What is taken for the token that a text begins with: kind, how long, value, is it one? -/
def oneR : List UInt8 → Nat × Nat × V4 × Bool
  | [] => (0, 0, zV, false)
  | c :: r =>
    bif letB c then (1, (r.takeWhile wrdB).length + 1, zV, decide ((r.takeWhile wrdB).length + 1 ≤ 32))
    else bif digB c then (3, numN false (c :: r), pv4 ((c :: r).take (numN false (c :: r))), pvOk ((c :: r).take (numN false (c :: r))))
    else bif c == 39 then (3, quoK r, pv4 ((c :: r).take (quoK r)), pvOk ((c :: r).take (quoK r)))
    else (2, (signL (c :: r)).toNat, zV, decide (0 < signL (c :: r)))
/-- Where the program stands behind it. -/
def scE : List UInt8 → Nat
  | [] => 0
  | c :: r =>
    bif letB c then (r.takeWhile wrdB).length + 1
    else bif digB c then numN false (c :: r)
    else bif c == 39 then (match quoN r with
      | some k => k + 1
      | none => r.length + 1)
    else (signL (c :: r)).toNat
def oneL (l : List UInt8) : Nat × Nat × V4 := bif (oneR l).2.2.2 then ((oneR l).1, (oneR l).2.1, (oneR l).2.2.1) else (0, 0, zV)
/-- A token as a value. -/
abbrev tkS (k : Int) (t : ByteArray) (v : V4) (a : Int) : Value := .agg #[it k, st t, it v.1, it v.2.1, it v.2.2.1, st v.2.2.2, it a]
/-- A token: kind, text, value, place. -/
abbrev Tk := Int × ByteArray × V4 × Int
def blankB (c : UInt8) : Bool := c == 32 || (c == 9 || c == 10)
/-- A text's tokens, from a place on. -/
def splitL : Nat → Nat → List UInt8 → Option (List Tk)
  | _, _, [] => some []
  | 0, _, _ :: _ => none
  | f + 1, p, c :: r => bif blankB c then splitL f (p + 1) r else
    bif (oneL (c :: r)).1 == 0 then none else
    (splitL f (p + (oneL (c :: r)).2.1) ((c :: r).drop (oneL (c :: r)).2.1)).map (((((oneL (c :: r)).1 : Nat) : Int), oL ((c :: r).take (oneL (c :: r)).2.1), (oneL (c :: r)).2.2, (p : Int)) :: ·)
/-! ### Signs as numbers -/
theorem cI_ge (c : UInt8) (k : Nat) : decide (((c.toNat : Nat) : Int) ≥ (k : Int)) = decide (k ≤ c.toNat) := decide_eq_decide.2 (by omega)
theorem cI_le (c : UInt8) (k : Nat) : decide (((c.toNat : Nat) : Int) ≤ (k : Int)) = decide (c.toNat ≤ k) := decide_eq_decide.2 (by omega)
theorem cI_eq (c d : UInt8) : (((c.toNat : Nat) : Int) == ((d.toNat : Nat) : Int)) = (c == d) := by
  by_cases h : c = d
  · subst h
    simp
  · rw [beq_eq_false_iff_ne.2 h]
    refine beq_eq_false_iff_ne.2 (fun e => h ?_)
    exact UInt8.toNat_inj.1 (by omega)
theorem cI_lt (c : UInt8) : c.toNat < 256 := c.toNat_lt
theorem u8_sub (c : UInt8) (k : Nat) (m : Nat) (hk : k < 256) (h : k + m ≤ 256) : decide (IntKind.u8.wrap (((c.toNat : Nat) : Int) - (k : Int)) < (m : Int)) = (decide (k ≤ c.toNat) && decide (c.toNat < k + m)) := by
  have hc := cI_lt c
  have e : IntKind.u8.wrap (((c.toNat : Nat) : Int) - (k : Int)) = if k ≤ c.toNat then ((c.toNat : Nat) : Int) - k else ((c.toNat : Nat) : Int) - k + 256 := by
    show ((c.toNat : Int) - k) % 256 = _
    split <;> omega
  rw [e]
  by_cases h1 : k ≤ c.toNat
  · rw [if_pos h1, decide_eq_true h1, Bool.true_and]
    exact decide_eq_decide.2 (by omega)
  · rw [if_neg h1, decide_eq_false h1, Bool.false_and]
    exact decide_eq_false (by omega)
theorem getD_of (p r : List UInt8) (c : UInt8) : (oL (p ++ c :: r)).data.toList.getD (p.length : Int).toNat 0 = c := getD_at p r c
theorem w1 {n : Nat} (h : n ≤ 140737488355328) : IntKind.i64.wrap ((n : Int) + 1) = ((n + 1 : Nat) : Int) := (wrap64 (by omega) (by omega)).trans (by omega)
end Go.Proofs.YtpfignfgfhbblaaGreatDoorC
/- longstopref04.Parse, walked. Printed by a program (wip/tools); Lean checks each. -/
namespace Go.Proofs.YtpfignfgfhbblaaGreatDoorC
open Go.Proofs Go.Proofs.YtpfignfgfhbblaaGreatDoorSx Go.Lib
set_option maxRecDepth 100000
set_option maxHeartbeats 4000000
set_option linter.unusedVariables false
noncomputable def paR (s : ByteArray) : Option Rs :=
  bif (s.toList == (ByteArray.mk #[(116 : UInt8), (114 : UInt8), (117 : UInt8), (101 : UInt8)]).toList) then bif (s.toList == (ByteArray.mk #[]).toList) then some ((.v (.tuple #[(.agg #[(.int .i64 ((0 : Int))), (.int .i64 ((0 : Int))), (.int .i64 ((0 : Int))), (.string ((ByteArray.mk #[])))]), (.int .i64 ((21 : Int)))]) : SV), ([] : Tab cE), 0)
    else grd (((ByteArray.mk #[])).size ≤ 140737488351232) (grd (I64 (1)) (grd (I64 (0)) (bif (!(oL (prV (4 : Int) (1 : Int) (0 : Int) (ByteArray.mk #[]))).toList == s.toList) then some ((.v (.tuple #[(.agg #[(.int .i64 ((0 : Int))), (.int .i64 ((0 : Int))), (.int .i64 ((0 : Int))), (.string ((ByteArray.mk #[])))]), (.int .i64 ((21 : Int)))]) : SV), ([] : Tab cE), 0)
            else some ((.v (.tuple #[(.agg #[(.int .i64 ((4 : Int))), (.int .i64 ((1 : Int))), (.int .i64 ((0 : Int))), (.string ((ByteArray.mk #[])))]), (.int .i64 ((0 : Int)))]) : SV), ([] : Tab cE), 0))))
  else bif (s.toList == (ByteArray.mk #[(102 : UInt8), (97 : UInt8), (108 : UInt8), (115 : UInt8), (101 : UInt8)]).toList) then bif (s.toList == (ByteArray.mk #[]).toList) then some ((.v (.tuple #[(.agg #[(.int .i64 ((0 : Int))), (.int .i64 ((0 : Int))), (.int .i64 ((0 : Int))), (.string ((ByteArray.mk #[])))]), (.int .i64 ((21 : Int)))]) : SV), ([] : Tab cE), 0)
      else grd (((ByteArray.mk #[])).size ≤ 140737488351232) (grd (I64 (0)) (bif (!(oL (prV (4 : Int) (0 : Int) (0 : Int) (ByteArray.mk #[]))).toList == s.toList) then some ((.v (.tuple #[(.agg #[(.int .i64 ((0 : Int))), (.int .i64 ((0 : Int))), (.int .i64 ((0 : Int))), (.string ((ByteArray.mk #[])))]), (.int .i64 ((21 : Int)))]) : SV), ([] : Tab cE), 0)
            else some ((.v (.tuple #[(.agg #[(.int .i64 ((4 : Int))), (.int .i64 ((0 : Int))), (.int .i64 ((0 : Int))), (.string ((ByteArray.mk #[])))]), (.int .i64 ((0 : Int)))]) : SV), ([] : Tab cE), 0)))
    else bif (decide ((s.size : Int) ≥ (2 : Int))) then grd ((0 : Int) ≤ (0 : Int) ∧ (0 : Int) < (s.size : Int)) (bif ((((s.data.toList.getD (Int.toNat (0 : Int)) (0 : UInt8)).toNat : Nat) : Int) == (39 : Int)) then grd ((s).size ≤ 140737488351232) (bif (s.toList == (ByteArray.mk #[]).toList) then some ((.v (.tuple #[(.agg #[(.int .i64 ((0 : Int))), (.int .i64 ((0 : Int))), (.int .i64 ((0 : Int))), (.string ((ByteArray.mk #[])))]), (.int .i64 ((21 : Int)))]) : SV), ([] : Tab cE), 0)
              else grd ((List.foldl (fun r n => r.push (UInt8.ofNat n.toNat)) ByteArray.empty (quR s (s.size + 1) 1 [])).size ≤ 140737488351232) (grd (I64 (0)) (bif (!(oL (prV (3 : Int) (0 : Int) (0 : Int) (List.foldl (fun r n => r.push (UInt8.ofNat n.toNat)) ByteArray.empty (quR s (s.size + (1 : Nat)) (1 : Nat) [])))).toList == s.toList) then some ((.v (.tuple #[(.agg #[(.int .i64 ((0 : Int))), (.int .i64 ((0 : Int))), (.int .i64 ((0 : Int))), (.string ((ByteArray.mk #[])))]), (.int .i64 ((21 : Int)))]) : SV), ([] : Tab cE), 0)
                    else some ((.v (.tuple #[(.agg #[(.int .i64 ((3 : Int))), (.int .i64 ((0 : Int))), (.int .i64 ((0 : Int))), (.string (List.foldl (fun r n => r.push (UInt8.ofNat n.toNat)) ByteArray.empty (quR s (s.size + (1 : Nat)) (1 : Nat) [])))]), (.int .i64 ((0 : Int)))]) : SV), ([] : Tab cE), 0))))
          else bif ((((s.data.toList.getD (Int.toNat (0 : Int)) (0 : UInt8)).toNat : Nat) : Int) == (60 : Int)) then grd ((s).data.toList.length ≤ 140737488355328) (bif (s.toList == (ByteArray.mk #[]).toList) then some ((.v (.tuple #[(.agg #[(.int .i64 ((0 : Int))), (.int .i64 ((0 : Int))), (.int .i64 ((0 : Int))), (.string ((ByteArray.mk #[])))]), (.int .i64 ((21 : Int)))]) : SV), ([] : Tab cE), 0)
                else grd (((ByteArray.mk #[])).size ≤ 140737488351232) (grd (I64 ((gpL (bL s)).fst)) (grd (I64 ((gpL (bL s)).snd.fst)) (bif (!(oL (prV (5 : Int) (gpL (bL s)).fst (gpL (bL s)).snd.fst (ByteArray.mk #[]))).toList == s.toList) then some ((.v (.tuple #[(.agg #[(.int .i64 ((0 : Int))), (.int .i64 ((0 : Int))), (.int .i64 ((0 : Int))), (.string ((ByteArray.mk #[])))]), (.int .i64 ((21 : Int)))]) : SV), ([] : Tab cE), 0)
                        else some ((.v (.tuple #[(.agg #[(.int .i64 ((5 : Int))), (.int .i64 ((gpL (bL s)).fst)), (.int .i64 ((gpL (bL s)).snd.fst)), (.string ((ByteArray.mk #[])))]), (.int .i64 ((0 : Int)))]) : SV), ([] : Tab cE), 0)))))
            else grd ((0 : Int) ≤ IntKind.i64.wrap ((s.size : Int) - (1 : Int)) ∧ IntKind.i64.wrap ((s.size : Int) - (1 : Int)) < (s.size : Int)) (bif ((((s.data.toList.getD (IntKind.i64.wrap ((s.size : Int) - (1 : Int))).toNat (0 : UInt8)).toNat : Nat) : Int) == (46 : Int)) then grd ((0 : Int) ≤ (0 : Int) ∧ (0 : Int) ≤ IntKind.i64.wrap ((s.size : Int) - (1 : Int)) ∧ IntKind.i64.wrap ((s.size : Int) - (1 : Int)) ≤ (s.size : Int)) (grd ((s.extract (Int.toNat 0) (IntKind.i64.wrap ((s.size : Int) - 1)).toNat).data.toList.length ≤ 9223372036854775807) (bif (s.toList == (ByteArray.mk #[]).toList) then some ((.v (.tuple #[(.agg #[(.int .i64 ((0 : Int))), (.int .i64 ((0 : Int))), (.int .i64 ((0 : Int))), (.string ((ByteArray.mk #[])))]), (.int .i64 ((21 : Int)))]) : SV), ([] : Tab cE), 0)
                      else grd (((ByteArray.mk #[])).size ≤ 140737488351232) (grd (I64 ((parseL (bL (s.extract (Int.toNat 0) (IntKind.i64.wrap ((s.size : Int) - 1)).toNat))).fst)) (grd (I64 ((parseL (bL (s.extract (Int.toNat 0) (IntKind.i64.wrap ((s.size : Int) - 1)).toNat))).snd.fst)) (bif (!(oL (prV (2 : Int) (parseL (bL (s.extract (Int.toNat (0 : Int)) (IntKind.i64.wrap ((s.size : Int) - (1 : Int))).toNat))).fst (parseL (bL (s.extract (Int.toNat (0 : Int)) (IntKind.i64.wrap ((s.size : Int) - (1 : Int))).toNat))).snd.fst (ByteArray.mk #[]))).toList == s.toList) then some ((.v (.tuple #[(.agg #[(.int .i64 ((0 : Int))), (.int .i64 ((0 : Int))), (.int .i64 ((0 : Int))), (.string ((ByteArray.mk #[])))]), (.int .i64 ((21 : Int)))]) : SV), ([] : Tab cE), 0)
                              else some ((.v (.tuple #[(.agg #[(.int .i64 ((2 : Int))), (.int .i64 ((parseL (bL (s.extract (Int.toNat (0 : Int)) (IntKind.i64.wrap ((s.size : Int) - (1 : Int))).toNat))).fst)), (.int .i64 ((parseL (bL (s.extract (Int.toNat (0 : Int)) (IntKind.i64.wrap ((s.size : Int) - (1 : Int))).toNat))).snd.fst)), (.string ((ByteArray.mk #[])))]), (.int .i64 ((0 : Int)))]) : SV), ([] : Tab cE), 0))))))
                else bif (decide ((s.size : Int) ≥ (1 : Int))) then bif (!s.toList == (ByteArray.mk #[(110 : UInt8), (117 : UInt8), (108 : UInt8), (108 : UInt8)]).toList) then grd ((s).data.toList.length ≤ 9223372036854775807) (bif (decide ((parseL (bL s)).snd.fst > (0 : Int))) then bif (s.toList == (ByteArray.mk #[]).toList) then some ((.v (.tuple #[(.agg #[(.int .i64 ((0 : Int))), (.int .i64 ((0 : Int))), (.int .i64 ((0 : Int))), (.string ((ByteArray.mk #[])))]), (.int .i64 ((21 : Int)))]) : SV), ([] : Tab cE), 0)
                          else grd (((ByteArray.mk #[])).size ≤ 140737488351232) (grd (I64 ((parseL (bL s)).fst)) (grd (I64 ((parseL (bL s)).snd.fst)) (bif (!(oL (prV (2 : Int) (parseL (bL s)).fst (parseL (bL s)).snd.fst (ByteArray.mk #[]))).toList == s.toList) then some ((.v (.tuple #[(.agg #[(.int .i64 ((0 : Int))), (.int .i64 ((0 : Int))), (.int .i64 ((0 : Int))), (.string ((ByteArray.mk #[])))]), (.int .i64 ((21 : Int)))]) : SV), ([] : Tab cE), 0)
                                  else some ((.v (.tuple #[(.agg #[(.int .i64 ((2 : Int))), (.int .i64 ((parseL (bL s)).fst)), (.int .i64 ((parseL (bL s)).snd.fst)), (.string ((ByteArray.mk #[])))]), (.int .i64 ((0 : Int)))]) : SV), ([] : Tab cE), 0))))
                        else bif (s.toList == (ByteArray.mk #[]).toList) then some ((.v (.tuple #[(.agg #[(.int .i64 ((0 : Int))), (.int .i64 ((0 : Int))), (.int .i64 ((0 : Int))), (.string ((ByteArray.mk #[])))]), (.int .i64 ((21 : Int)))]) : SV), ([] : Tab cE), 0)
                          else grd (((ByteArray.mk #[])).size ≤ 140737488351232) (grd (I64 ((parseL (bL s)).fst)) (grd (I64 (0)) (bif (!(oL (prV (1 : Int) (parseL (bL s)).fst (0 : Int) (ByteArray.mk #[]))).toList == s.toList) then some ((.v (.tuple #[(.agg #[(.int .i64 ((0 : Int))), (.int .i64 ((0 : Int))), (.int .i64 ((0 : Int))), (.string ((ByteArray.mk #[])))]), (.int .i64 ((21 : Int)))]) : SV), ([] : Tab cE), 0)
                                  else some ((.v (.tuple #[(.agg #[(.int .i64 ((1 : Int))), (.int .i64 ((parseL (bL s)).fst)), (.int .i64 ((0 : Int))), (.string ((ByteArray.mk #[])))]), (.int .i64 ((0 : Int)))]) : SV), ([] : Tab cE), 0)))))
                    else bif (s.toList == (ByteArray.mk #[]).toList) then some ((.v (.tuple #[(.agg #[(.int .i64 ((0 : Int))), (.int .i64 ((0 : Int))), (.int .i64 ((0 : Int))), (.string ((ByteArray.mk #[])))]), (.int .i64 ((21 : Int)))]) : SV), ([] : Tab cE), 0)
                      else grd (((ByteArray.mk #[])).size ≤ 140737488351232) (grd (I64 (0)) (bif (!(oL (prV (0 : Int) (0 : Int) (0 : Int) (ByteArray.mk #[]))).toList == s.toList) then some ((.v (.tuple #[(.agg #[(.int .i64 ((0 : Int))), (.int .i64 ((0 : Int))), (.int .i64 ((0 : Int))), (.string ((ByteArray.mk #[])))]), (.int .i64 ((21 : Int)))]) : SV), ([] : Tab cE), 0)
                            else some ((.v (.tuple #[(.agg #[(.int .i64 ((0 : Int))), (.int .i64 ((0 : Int))), (.int .i64 ((0 : Int))), (.string ((ByteArray.mk #[])))]), (.int .i64 ((0 : Int)))]) : SV), ([] : Tab cE), 0)))
                  else bif (s.toList == (ByteArray.mk #[]).toList) then some ((.v (.tuple #[(.agg #[(.int .i64 ((0 : Int))), (.int .i64 ((0 : Int))), (.int .i64 ((0 : Int))), (.string ((ByteArray.mk #[])))]), (.int .i64 ((21 : Int)))]) : SV), ([] : Tab cE), 0)
                    else grd (((ByteArray.mk #[])).size ≤ 140737488351232) (grd (I64 (0)) (bif (!(oL (prV (0 : Int) (0 : Int) (0 : Int) (ByteArray.mk #[]))).toList == s.toList) then some ((.v (.tuple #[(.agg #[(.int .i64 ((0 : Int))), (.int .i64 ((0 : Int))), (.int .i64 ((0 : Int))), (.string ((ByteArray.mk #[])))]), (.int .i64 ((21 : Int)))]) : SV), ([] : Tab cE), 0)
                          else some ((.v (.tuple #[(.agg #[(.int .i64 ((0 : Int))), (.int .i64 ((0 : Int))), (.int .i64 ((0 : Int))), (.string ((ByteArray.mk #[])))]), (.int .i64 ((0 : Int)))]) : SV), ([] : Tab cE), 0)))))
      else bif (decide ((s.size : Int) ≥ (1 : Int))) then bif (!s.toList == (ByteArray.mk #[(110 : UInt8), (117 : UInt8), (108 : UInt8), (108 : UInt8)]).toList) then grd ((s).data.toList.length ≤ 9223372036854775807) (bif (decide ((parseL (bL s)).snd.fst > (0 : Int))) then bif (s.toList == (ByteArray.mk #[]).toList) then some ((.v (.tuple #[(.agg #[(.int .i64 ((0 : Int))), (.int .i64 ((0 : Int))), (.int .i64 ((0 : Int))), (.string ((ByteArray.mk #[])))]), (.int .i64 ((21 : Int)))]) : SV), ([] : Tab cE), 0)
                else grd (((ByteArray.mk #[])).size ≤ 140737488351232) (grd (I64 ((parseL (bL s)).fst)) (grd (I64 ((parseL (bL s)).snd.fst)) (bif (!(oL (prV (2 : Int) (parseL (bL s)).fst (parseL (bL s)).snd.fst (ByteArray.mk #[]))).toList == s.toList) then some ((.v (.tuple #[(.agg #[(.int .i64 ((0 : Int))), (.int .i64 ((0 : Int))), (.int .i64 ((0 : Int))), (.string ((ByteArray.mk #[])))]), (.int .i64 ((21 : Int)))]) : SV), ([] : Tab cE), 0)
                        else some ((.v (.tuple #[(.agg #[(.int .i64 ((2 : Int))), (.int .i64 ((parseL (bL s)).fst)), (.int .i64 ((parseL (bL s)).snd.fst)), (.string ((ByteArray.mk #[])))]), (.int .i64 ((0 : Int)))]) : SV), ([] : Tab cE), 0))))
              else bif (s.toList == (ByteArray.mk #[]).toList) then some ((.v (.tuple #[(.agg #[(.int .i64 ((0 : Int))), (.int .i64 ((0 : Int))), (.int .i64 ((0 : Int))), (.string ((ByteArray.mk #[])))]), (.int .i64 ((21 : Int)))]) : SV), ([] : Tab cE), 0)
                else grd (((ByteArray.mk #[])).size ≤ 140737488351232) (grd (I64 ((parseL (bL s)).fst)) (grd (I64 (0)) (bif (!(oL (prV (1 : Int) (parseL (bL s)).fst (0 : Int) (ByteArray.mk #[]))).toList == s.toList) then some ((.v (.tuple #[(.agg #[(.int .i64 ((0 : Int))), (.int .i64 ((0 : Int))), (.int .i64 ((0 : Int))), (.string ((ByteArray.mk #[])))]), (.int .i64 ((21 : Int)))]) : SV), ([] : Tab cE), 0)
                        else some ((.v (.tuple #[(.agg #[(.int .i64 ((1 : Int))), (.int .i64 ((parseL (bL s)).fst)), (.int .i64 ((0 : Int))), (.string ((ByteArray.mk #[])))]), (.int .i64 ((0 : Int)))]) : SV), ([] : Tab cE), 0)))))
          else bif (s.toList == (ByteArray.mk #[]).toList) then some ((.v (.tuple #[(.agg #[(.int .i64 ((0 : Int))), (.int .i64 ((0 : Int))), (.int .i64 ((0 : Int))), (.string ((ByteArray.mk #[])))]), (.int .i64 ((21 : Int)))]) : SV), ([] : Tab cE), 0)
            else grd (((ByteArray.mk #[])).size ≤ 140737488351232) (grd (I64 (0)) (bif (!(oL (prV (0 : Int) (0 : Int) (0 : Int) (ByteArray.mk #[]))).toList == s.toList) then some ((.v (.tuple #[(.agg #[(.int .i64 ((0 : Int))), (.int .i64 ((0 : Int))), (.int .i64 ((0 : Int))), (.string ((ByteArray.mk #[])))]), (.int .i64 ((21 : Int)))]) : SV), ([] : Tab cE), 0)
                  else some ((.v (.tuple #[(.agg #[(.int .i64 ((0 : Int))), (.int .i64 ((0 : Int))), (.int .i64 ((0 : Int))), (.string ((ByteArray.mk #[])))]), (.int .i64 ((0 : Int)))]) : SV), ([] : Tab cE), 0)))
        else bif (s.toList == (ByteArray.mk #[]).toList) then some ((.v (.tuple #[(.agg #[(.int .i64 ((0 : Int))), (.int .i64 ((0 : Int))), (.int .i64 ((0 : Int))), (.string ((ByteArray.mk #[])))]), (.int .i64 ((21 : Int)))]) : SV), ([] : Tab cE), 0)
          else grd (((ByteArray.mk #[])).size ≤ 140737488351232) (grd (I64 (0)) (bif (!(oL (prV (0 : Int) (0 : Int) (0 : Int) (ByteArray.mk #[]))).toList == s.toList) then some ((.v (.tuple #[(.agg #[(.int .i64 ((0 : Int))), (.int .i64 ((0 : Int))), (.int .i64 ((0 : Int))), (.string ((ByteArray.mk #[])))]), (.int .i64 ((21 : Int)))]) : SV), ([] : Tab cE), 0)
                else some ((.v (.tuple #[(.agg #[(.int .i64 ((0 : Int))), (.int .i64 ((0 : Int))), (.int .i64 ((0 : Int))), (.string ((ByteArray.mk #[])))]), (.int .i64 ((0 : Int)))]) : SV), ([] : Tab cE), 0)))
theorem paR_does (s : ByteArray) {r : Rs} (h : paR s = some r) : Does cE 14 [] 0 [.v (st s)] r.1 r.2.1 r.2.2 := by
  unfold paR at h
  refine does_of_fin (fn := Tryz.f14) (c := bd Tryz.f14) rfl (by kernel_rfl) rfl ?_
  refine obif h (fun c1 h => ?_) (fun c1 h => ?_)
  · refine obif h (fun c2 h => ?_) (fun c2 h => ?_)
    · exact osome h (sfin (keep := []) (by decide) [.t, .t, .t, .l, .t, .t, .t, .t, .t, .t, .l] (by kernel_rfl) (cj c1 (cj c1 (cj c1 (cj c1 (cj c2 (cj c2 (cj c2 (cj c2 (cj c2 cj0))))))))))
    · refine ogrd h (fun c3 h => ?_)
      refine ogrd h (fun c4 h => ?_)
      refine ogrd h (fun c5 h => ?_)
      refine obif h (fun c6 h => ?_) (fun c6 h => ?_)
      · exact osome h (sfin (keep := []) (by decide) [.t, .t, .t, .l, .t, .f, .f, .c (.v (.string (oL (prV 4 1 0 (ByteArray.mk #[]))))) [] 0, .f, .f, .f, .t] (by kernel_rfl) (cj c1 (cj c1 (cj c1 (cj c1 (cj c2 (cj c2 (cj (rvprint_does ((4 : Int)) ((1 : Int)) ((0 : Int)) ((ByteArray.mk #[])) (by assumption) (by assumption) (by assumption)) (cj c2 (cj c2 (cj c2 (cj c6 cj0))))))))))))
      · exact osome h (sfin (keep := []) (by decide) [.t, .t, .t, .l, .t, .f, .f, .c (.v (.string (oL (prV 4 1 0 (ByteArray.mk #[]))))) [] 0, .f, .f, .f, .f] (by kernel_rfl) (cj c1 (cj c1 (cj c1 (cj c1 (cj c2 (cj c2 (cj (rvprint_does ((4 : Int)) ((1 : Int)) ((0 : Int)) ((ByteArray.mk #[])) (by assumption) (by assumption) (by assumption)) (cj c2 (cj c2 (cj c2 (cj c6 cj0))))))))))))
  · refine obif h (fun c7 h => ?_) (fun c7 h => ?_)
    · refine obif h (fun c8 h => ?_) (fun c8 h => ?_)
      · exact osome h (sfin (keep := []) (by decide) [.f, .f, .f, .t, .f, .t, .t, .t, .t, .t, .l] (by kernel_rfl) (cj c1 (cj c1 (cj c1 (cj c7 (cj c1 (cj c8 (cj c8 (cj c8 (cj c8 (cj c8 cj0)))))))))))
      · refine ogrd h (fun c9 h => ?_)
        refine ogrd h (fun c10 h => ?_)
        refine obif h (fun c11 h => ?_) (fun c11 h => ?_)
        · exact osome h (sfin (keep := []) (by decide) [.f, .f, .f, .t, .f, .f, .f, .c (.v (.string (oL (prV 4 0 0 (ByteArray.mk #[]))))) [] 0, .f, .f, .f, .t] (by kernel_rfl) (cj c1 (cj c1 (cj c1 (cj c7 (cj c1 (cj c8 (cj c8 (cj (rvprint_does ((4 : Int)) ((0 : Int)) ((0 : Int)) ((ByteArray.mk #[])) (by assumption) (by assumption) (by assumption)) (cj c8 (cj c8 (cj c8 (cj c11 cj0)))))))))))))
        · exact osome h (sfin (keep := []) (by decide) [.f, .f, .f, .t, .f, .f, .f, .c (.v (.string (oL (prV 4 0 0 (ByteArray.mk #[]))))) [] 0, .f, .f, .f, .f] (by kernel_rfl) (cj c1 (cj c1 (cj c1 (cj c7 (cj c1 (cj c8 (cj c8 (cj (rvprint_does ((4 : Int)) ((0 : Int)) ((0 : Int)) ((ByteArray.mk #[])) (by assumption) (by assumption) (by assumption)) (cj c8 (cj c8 (cj c8 (cj c11 cj0)))))))))))))
    · refine obif h (fun c12 h => ?_) (fun c12 h => ?_)
      · refine ogrd h (fun c13 h => ?_)
        refine obif h (fun c14 h => ?_) (fun c14 h => ?_)
        · refine ogrd h (fun c15 h => ?_)
          refine obif h (fun c16 h => ?_) (fun c16 h => ?_)
          · exact osome h (sfin (keep := []) (by decide) [.f, .f, .f, .f, .t, .t, .t, .t, .t, .c (.v (.string (List.foldl (fun r n => r.push (UInt8.ofNat n.toNat)) ByteArray.empty (quR s (s.size + 1) 1 [])))) [] 0, .t, .t, .t, .t, .t, .l] (by kernel_rfl) (cj c1 (cj c1 (cj c1 (cj c7 (cj c12 (cj c12 (cj c13 (cj c12 (cj c12 (cj c14 (cj (rquoted_does (s) (by assumption)) (cj c16 (cj c16 (cj c16 (cj c16 (cj c16 cj0)))))))))))))))))
          · refine ogrd h (fun c17 h => ?_)
            refine ogrd h (fun c18 h => ?_)
            refine obif h (fun c19 h => ?_) (fun c19 h => ?_)
            · exact osome h (sfin (keep := []) (by decide) [.f, .f, .f, .f, .t, .t, .t, .t, .t, .c (.v (.string (List.foldl (fun r n => r.push (UInt8.ofNat n.toNat)) ByteArray.empty (quR s (s.size + 1) 1 [])))) [] 0, .f, .f, .c (.v (.string (oL (prV 3 0 0 (List.foldl (fun r n => r.push (UInt8.ofNat n.toNat)) ByteArray.empty (quR s (s.size + 1) 1 [])))))) [] 0, .f, .f, .f, .t] (by kernel_rfl) (cj c1 (cj c1 (cj c1 (cj c7 (cj c12 (cj c12 (cj c13 (cj c12 (cj c12 (cj c14 (cj (rquoted_does (s) (by assumption)) (cj c16 (cj c16 (cj (rvprint_does ((3 : Int)) ((0 : Int)) ((0 : Int)) (List.foldl (fun r n => r.push (UInt8.ofNat n.toNat)) ByteArray.empty (quR s (s.size + (1 : Nat)) (1 : Nat) [])) (by assumption) (by assumption) (by assumption)) (cj c16 (cj c16 (cj c16 (cj c19 cj0)))))))))))))))))))
            · exact osome h (sfin (keep := []) (by decide) [.f, .f, .f, .f, .t, .t, .t, .t, .t, .c (.v (.string (List.foldl (fun r n => r.push (UInt8.ofNat n.toNat)) ByteArray.empty (quR s (s.size + 1) 1 [])))) [] 0, .f, .f, .c (.v (.string (oL (prV 3 0 0 (List.foldl (fun r n => r.push (UInt8.ofNat n.toNat)) ByteArray.empty (quR s (s.size + 1) 1 [])))))) [] 0, .f, .f, .f, .f] (by kernel_rfl) (cj c1 (cj c1 (cj c1 (cj c7 (cj c12 (cj c12 (cj c13 (cj c12 (cj c12 (cj c14 (cj (rquoted_does (s) (by assumption)) (cj c16 (cj c16 (cj (rvprint_does ((3 : Int)) ((0 : Int)) ((0 : Int)) (List.foldl (fun r n => r.push (UInt8.ofNat n.toNat)) ByteArray.empty (quR s (s.size + (1 : Nat)) (1 : Nat) [])) (by assumption) (by assumption) (by assumption)) (cj c16 (cj c16 (cj c16 (cj c19 cj0)))))))))))))))))))
        · refine obif h (fun c20 h => ?_) (fun c20 h => ?_)
          · refine ogrd h (fun c21 h => ?_)
            refine obif h (fun c22 h => ?_) (fun c22 h => ?_)
            · exact osome h (sfin (keep := []) (by decide) [.f, .f, .f, .f, .t, .t, .t, .t, .f, .t, .t, .t, .t, .t, .c (.v (.tuple #[(.agg #[(.int .i64 ((gpL (bL s)).fst)), (.int .i64 ((gpL (bL s)).snd.fst))]), (.int .i64 ((gpL (bL s)).snd.snd))])) [] 0, .t, .t, .t, .t, .t, .l] (by kernel_rfl) (cj c1 (cj c1 (cj c1 (cj c7 (cj c12 (cj c12 (cj c13 (cj c12 (cj c12 (cj c14 (cj c12 (cj c12 (cj c13 (cj c12 (cj c12 (cj c20 (cj (rgparse_does (s).data.toList (by assumption)) (cj c22 (cj c22 (cj c22 (cj c22 (cj c22 cj0)))))))))))))))))))))))
            · refine ogrd h (fun c23 h => ?_)
              refine ogrd h (fun c24 h => ?_)
              refine ogrd h (fun c25 h => ?_)
              refine obif h (fun c26 h => ?_) (fun c26 h => ?_)
              · exact osome h (sfin (keep := []) (by decide) [.f, .f, .f, .f, .t, .t, .t, .t, .f, .t, .t, .t, .t, .t, .c (.v (.tuple #[(.agg #[(.int .i64 ((gpL (bL s)).fst)), (.int .i64 ((gpL (bL s)).snd.fst))]), (.int .i64 ((gpL (bL s)).snd.snd))])) [] 0, .f, .f, .c (.v (.string (oL (prV 5 (gpL (bL s)).fst (gpL (bL s)).snd.fst (ByteArray.mk #[]))))) [] 0, .f, .f, .f, .t] (by kernel_rfl) (cj c1 (cj c1 (cj c1 (cj c7 (cj c12 (cj c12 (cj c13 (cj c12 (cj c12 (cj c14 (cj c12 (cj c12 (cj c13 (cj c12 (cj c12 (cj c20 (cj (rgparse_does (s).data.toList (by assumption)) (cj c22 (cj c22 (cj (rvprint_does ((5 : Int)) ((gpL (bL s)).fst) ((gpL (bL s)).snd.fst) ((ByteArray.mk #[])) (by assumption) (by assumption) (by assumption)) (cj c22 (cj c22 (cj c22 (cj c26 cj0)))))))))))))))))))))))))
              · exact osome h (sfin (keep := []) (by decide) [.f, .f, .f, .f, .t, .t, .t, .t, .f, .t, .t, .t, .t, .t, .c (.v (.tuple #[(.agg #[(.int .i64 ((gpL (bL s)).fst)), (.int .i64 ((gpL (bL s)).snd.fst))]), (.int .i64 ((gpL (bL s)).snd.snd))])) [] 0, .f, .f, .c (.v (.string (oL (prV 5 (gpL (bL s)).fst (gpL (bL s)).snd.fst (ByteArray.mk #[]))))) [] 0, .f, .f, .f, .f] (by kernel_rfl) (cj c1 (cj c1 (cj c1 (cj c7 (cj c12 (cj c12 (cj c13 (cj c12 (cj c12 (cj c14 (cj c12 (cj c12 (cj c13 (cj c12 (cj c12 (cj c20 (cj (rgparse_does (s).data.toList (by assumption)) (cj c22 (cj c22 (cj (rvprint_does ((5 : Int)) ((gpL (bL s)).fst) ((gpL (bL s)).snd.fst) ((ByteArray.mk #[])) (by assumption) (by assumption) (by assumption)) (cj c22 (cj c22 (cj c22 (cj c26 cj0)))))))))))))))))))))))))
          · refine ogrd h (fun c27 h => ?_)
            refine obif h (fun c28 h => ?_) (fun c28 h => ?_)
            · refine ogrd h (fun c29 h => ?_)
              refine ogrd h (fun c30 h => ?_)
              refine obif h (fun c31 h => ?_) (fun c31 h => ?_)
              · exact osome h (sfin (keep := []) (by decide) [.f, .f, .f, .f, .t, .t, .t, .t, .f, .t, .t, .t, .t, .f, .t, .t, .t, .t, .t, .t, .t, .c (.v (.tuple #[(.agg #[(.int .i64 ((parseL (bL (s.extract (Int.toNat 0) (IntKind.i64.wrap ((s.size : Int) - 1)).toNat))).fst)), (.int .i64 ((parseL (bL (s.extract (Int.toNat 0) (IntKind.i64.wrap ((s.size : Int) - 1)).toNat))).snd.fst))]), (.int .i64 ((parseL (bL (s.extract (Int.toNat 0) (IntKind.i64.wrap ((s.size : Int) - 1)).toNat))).snd.snd))])) [] 0, .t, .t, .t, .t, .t, .l] (by kernel_rfl) (cj c1 (cj c1 (cj c1 (cj c7 (cj c12 (cj c12 (cj c13 (cj c12 (cj c12 (cj c14 (cj c12 (cj c12 (cj c13 (cj c12 (cj c12 (cj c20 (cj c12 (cj c12 (cj c12 (cj c12 (cj c27 (cj c12 (cj c12 (cj c28 (cj c29 (cj (rparse_does (s.extract (Int.toNat (0 : Int)) (IntKind.i64.wrap ((s.size : Int) - (1 : Int))).toNat).data.toList (by assumption)) (cj c31 (cj c31 (cj c31 (cj c31 (cj c31 cj0))))))))))))))))))))))))))))))))
              · refine ogrd h (fun c32 h => ?_)
                refine ogrd h (fun c33 h => ?_)
                refine ogrd h (fun c34 h => ?_)
                refine obif h (fun c35 h => ?_) (fun c35 h => ?_)
                · exact osome h (sfin (keep := []) (by decide) [.f, .f, .f, .f, .t, .t, .t, .t, .f, .t, .t, .t, .t, .f, .t, .t, .t, .t, .t, .t, .t, .c (.v (.tuple #[(.agg #[(.int .i64 ((parseL (bL (s.extract (Int.toNat 0) (IntKind.i64.wrap ((s.size : Int) - 1)).toNat))).fst)), (.int .i64 ((parseL (bL (s.extract (Int.toNat 0) (IntKind.i64.wrap ((s.size : Int) - 1)).toNat))).snd.fst))]), (.int .i64 ((parseL (bL (s.extract (Int.toNat 0) (IntKind.i64.wrap ((s.size : Int) - 1)).toNat))).snd.snd))])) [] 0, .f, .f, .c (.v (.string (oL (prV 2 (parseL (bL (s.extract (Int.toNat 0) (IntKind.i64.wrap ((s.size : Int) - 1)).toNat))).fst (parseL (bL (s.extract (Int.toNat 0) (IntKind.i64.wrap ((s.size : Int) - 1)).toNat))).snd.fst (ByteArray.mk #[]))))) [] 0, .f, .f, .f, .t] (by kernel_rfl) (cj c1 (cj c1 (cj c1 (cj c7 (cj c12 (cj c12 (cj c13 (cj c12 (cj c12 (cj c14 (cj c12 (cj c12 (cj c13 (cj c12 (cj c12 (cj c20 (cj c12 (cj c12 (cj c12 (cj c12 (cj c27 (cj c12 (cj c12 (cj c28 (cj c29 (cj (rparse_does (s.extract (Int.toNat (0 : Int)) (IntKind.i64.wrap ((s.size : Int) - (1 : Int))).toNat).data.toList (by assumption)) (cj c31 (cj c31 (cj (rvprint_does ((2 : Int)) ((parseL (bL (s.extract (Int.toNat (0 : Int)) (IntKind.i64.wrap ((s.size : Int) - (1 : Int))).toNat))).fst) ((parseL (bL (s.extract (Int.toNat (0 : Int)) (IntKind.i64.wrap ((s.size : Int) - (1 : Int))).toNat))).snd.fst) ((ByteArray.mk #[])) (by assumption) (by assumption) (by assumption)) (cj c31 (cj c31 (cj c31 (cj c35 cj0))))))))))))))))))))))))))))))))))
                · exact osome h (sfin (keep := []) (by decide) [.f, .f, .f, .f, .t, .t, .t, .t, .f, .t, .t, .t, .t, .f, .t, .t, .t, .t, .t, .t, .t, .c (.v (.tuple #[(.agg #[(.int .i64 ((parseL (bL (s.extract (Int.toNat 0) (IntKind.i64.wrap ((s.size : Int) - 1)).toNat))).fst)), (.int .i64 ((parseL (bL (s.extract (Int.toNat 0) (IntKind.i64.wrap ((s.size : Int) - 1)).toNat))).snd.fst))]), (.int .i64 ((parseL (bL (s.extract (Int.toNat 0) (IntKind.i64.wrap ((s.size : Int) - 1)).toNat))).snd.snd))])) [] 0, .f, .f, .c (.v (.string (oL (prV 2 (parseL (bL (s.extract (Int.toNat 0) (IntKind.i64.wrap ((s.size : Int) - 1)).toNat))).fst (parseL (bL (s.extract (Int.toNat 0) (IntKind.i64.wrap ((s.size : Int) - 1)).toNat))).snd.fst (ByteArray.mk #[]))))) [] 0, .f, .f, .f, .f] (by kernel_rfl) (cj c1 (cj c1 (cj c1 (cj c7 (cj c12 (cj c12 (cj c13 (cj c12 (cj c12 (cj c14 (cj c12 (cj c12 (cj c13 (cj c12 (cj c12 (cj c20 (cj c12 (cj c12 (cj c12 (cj c12 (cj c27 (cj c12 (cj c12 (cj c28 (cj c29 (cj (rparse_does (s.extract (Int.toNat (0 : Int)) (IntKind.i64.wrap ((s.size : Int) - (1 : Int))).toNat).data.toList (by assumption)) (cj c31 (cj c31 (cj (rvprint_does ((2 : Int)) ((parseL (bL (s.extract (Int.toNat (0 : Int)) (IntKind.i64.wrap ((s.size : Int) - (1 : Int))).toNat))).fst) ((parseL (bL (s.extract (Int.toNat (0 : Int)) (IntKind.i64.wrap ((s.size : Int) - (1 : Int))).toNat))).snd.fst) ((ByteArray.mk #[])) (by assumption) (by assumption) (by assumption)) (cj c31 (cj c31 (cj c31 (cj c35 cj0))))))))))))))))))))))))))))))))))
            · refine obif h (fun c36 h => ?_) (fun c36 h => ?_)
              · refine obif h (fun c37 h => ?_) (fun c37 h => ?_)
                · refine ogrd h (fun c38 h => ?_)
                  refine obif h (fun c39 h => ?_) (fun c39 h => ?_)
                  · refine obif h (fun c40 h => ?_) (fun c40 h => ?_)
                    · exact osome h (sfin (keep := []) (by decide) [.f, .f, .f, .f, .t, .t, .t, .t, .f, .t, .t, .t, .t, .f, .t, .t, .t, .t, .t, .t, .f, .t, .t, .t, .t, .c (.v (.tuple #[(.agg #[(.int .i64 ((parseL (bL s)).fst)), (.int .i64 ((parseL (bL s)).snd.fst))]), (.int .i64 ((parseL (bL s)).snd.snd))])) [] 0, .t, .t, .t, .t, .t, .t, .l] (by kernel_rfl) (cj c1 (cj c1 (cj c1 (cj c7 (cj c12 (cj c12 (cj c13 (cj c12 (cj c12 (cj c14 (cj c12 (cj c12 (cj c13 (cj c12 (cj c12 (cj c20 (cj c12 (cj c12 (cj c12 (cj c12 (cj c27 (cj c12 (cj c12 (cj c28 (cj c36 (cj c36 (cj c36 (cj c37 (cj (rparse_does (s).data.toList (by assumption)) (cj c39 (cj c40 (cj c40 (cj c40 (cj c40 (cj c40 cj0))))))))))))))))))))))))))))))))))))
                    · refine ogrd h (fun c41 h => ?_)
                      refine ogrd h (fun c42 h => ?_)
                      refine ogrd h (fun c43 h => ?_)
                      refine obif h (fun c44 h => ?_) (fun c44 h => ?_)
                      · exact osome h (sfin (keep := []) (by decide) [.f, .f, .f, .f, .t, .t, .t, .t, .f, .t, .t, .t, .t, .f, .t, .t, .t, .t, .t, .t, .f, .t, .t, .t, .t, .c (.v (.tuple #[(.agg #[(.int .i64 ((parseL (bL s)).fst)), (.int .i64 ((parseL (bL s)).snd.fst))]), (.int .i64 ((parseL (bL s)).snd.snd))])) [] 0, .t, .f, .f, .c (.v (.string (oL (prV 2 (parseL (bL s)).fst (parseL (bL s)).snd.fst (ByteArray.mk #[]))))) [] 0, .f, .f, .f, .t] (by kernel_rfl) (cj c1 (cj c1 (cj c1 (cj c7 (cj c12 (cj c12 (cj c13 (cj c12 (cj c12 (cj c14 (cj c12 (cj c12 (cj c13 (cj c12 (cj c12 (cj c20 (cj c12 (cj c12 (cj c12 (cj c12 (cj c27 (cj c12 (cj c12 (cj c28 (cj c36 (cj c36 (cj c36 (cj c37 (cj (rparse_does (s).data.toList (by assumption)) (cj c39 (cj c40 (cj c40 (cj (rvprint_does ((2 : Int)) ((parseL (bL s)).fst) ((parseL (bL s)).snd.fst) ((ByteArray.mk #[])) (by assumption) (by assumption) (by assumption)) (cj c40 (cj c40 (cj c40 (cj c44 cj0))))))))))))))))))))))))))))))))))))))
                      · exact osome h (sfin (keep := []) (by decide) [.f, .f, .f, .f, .t, .t, .t, .t, .f, .t, .t, .t, .t, .f, .t, .t, .t, .t, .t, .t, .f, .t, .t, .t, .t, .c (.v (.tuple #[(.agg #[(.int .i64 ((parseL (bL s)).fst)), (.int .i64 ((parseL (bL s)).snd.fst))]), (.int .i64 ((parseL (bL s)).snd.snd))])) [] 0, .t, .f, .f, .c (.v (.string (oL (prV 2 (parseL (bL s)).fst (parseL (bL s)).snd.fst (ByteArray.mk #[]))))) [] 0, .f, .f, .f, .f] (by kernel_rfl) (cj c1 (cj c1 (cj c1 (cj c7 (cj c12 (cj c12 (cj c13 (cj c12 (cj c12 (cj c14 (cj c12 (cj c12 (cj c13 (cj c12 (cj c12 (cj c20 (cj c12 (cj c12 (cj c12 (cj c12 (cj c27 (cj c12 (cj c12 (cj c28 (cj c36 (cj c36 (cj c36 (cj c37 (cj (rparse_does (s).data.toList (by assumption)) (cj c39 (cj c40 (cj c40 (cj (rvprint_does ((2 : Int)) ((parseL (bL s)).fst) ((parseL (bL s)).snd.fst) ((ByteArray.mk #[])) (by assumption) (by assumption) (by assumption)) (cj c40 (cj c40 (cj c40 (cj c44 cj0))))))))))))))))))))))))))))))))))))))
                  · refine obif h (fun c45 h => ?_) (fun c45 h => ?_)
                    · exact osome h (sfin (keep := []) (by decide) [.f, .f, .f, .f, .t, .t, .t, .t, .f, .t, .t, .t, .t, .f, .t, .t, .t, .t, .t, .t, .f, .t, .t, .t, .t, .c (.v (.tuple #[(.agg #[(.int .i64 ((parseL (bL s)).fst)), (.int .i64 ((parseL (bL s)).snd.fst))]), (.int .i64 ((parseL (bL s)).snd.snd))])) [] 0, .f, .t, .t, .t, .t, .t, .l] (by kernel_rfl) (cj c1 (cj c1 (cj c1 (cj c7 (cj c12 (cj c12 (cj c13 (cj c12 (cj c12 (cj c14 (cj c12 (cj c12 (cj c13 (cj c12 (cj c12 (cj c20 (cj c12 (cj c12 (cj c12 (cj c12 (cj c27 (cj c12 (cj c12 (cj c28 (cj c36 (cj c36 (cj c36 (cj c37 (cj (rparse_does (s).data.toList (by assumption)) (cj c39 (cj c45 (cj c45 (cj c45 (cj c45 (cj c45 cj0))))))))))))))))))))))))))))))))))))
                    · refine ogrd h (fun c46 h => ?_)
                      refine ogrd h (fun c47 h => ?_)
                      refine ogrd h (fun c48 h => ?_)
                      refine obif h (fun c49 h => ?_) (fun c49 h => ?_)
                      · exact osome h (sfin (keep := []) (by decide) [.f, .f, .f, .f, .t, .t, .t, .t, .f, .t, .t, .t, .t, .f, .t, .t, .t, .t, .t, .t, .f, .t, .t, .t, .t, .c (.v (.tuple #[(.agg #[(.int .i64 ((parseL (bL s)).fst)), (.int .i64 ((parseL (bL s)).snd.fst))]), (.int .i64 ((parseL (bL s)).snd.snd))])) [] 0, .f, .f, .f, .c (.v (.string (oL (prV 1 (parseL (bL s)).fst 0 (ByteArray.mk #[]))))) [] 0, .f, .f, .f, .t] (by kernel_rfl) (cj c1 (cj c1 (cj c1 (cj c7 (cj c12 (cj c12 (cj c13 (cj c12 (cj c12 (cj c14 (cj c12 (cj c12 (cj c13 (cj c12 (cj c12 (cj c20 (cj c12 (cj c12 (cj c12 (cj c12 (cj c27 (cj c12 (cj c12 (cj c28 (cj c36 (cj c36 (cj c36 (cj c37 (cj (rparse_does (s).data.toList (by assumption)) (cj c39 (cj c45 (cj c45 (cj (rvprint_does ((1 : Int)) ((parseL (bL s)).fst) ((0 : Int)) ((ByteArray.mk #[])) (by assumption) (by assumption) (by assumption)) (cj c45 (cj c45 (cj c45 (cj c49 cj0))))))))))))))))))))))))))))))))))))))
                      · exact osome h (sfin (keep := []) (by decide) [.f, .f, .f, .f, .t, .t, .t, .t, .f, .t, .t, .t, .t, .f, .t, .t, .t, .t, .t, .t, .f, .t, .t, .t, .t, .c (.v (.tuple #[(.agg #[(.int .i64 ((parseL (bL s)).fst)), (.int .i64 ((parseL (bL s)).snd.fst))]), (.int .i64 ((parseL (bL s)).snd.snd))])) [] 0, .f, .f, .f, .c (.v (.string (oL (prV 1 (parseL (bL s)).fst 0 (ByteArray.mk #[]))))) [] 0, .f, .f, .f, .f] (by kernel_rfl) (cj c1 (cj c1 (cj c1 (cj c7 (cj c12 (cj c12 (cj c13 (cj c12 (cj c12 (cj c14 (cj c12 (cj c12 (cj c13 (cj c12 (cj c12 (cj c20 (cj c12 (cj c12 (cj c12 (cj c12 (cj c27 (cj c12 (cj c12 (cj c28 (cj c36 (cj c36 (cj c36 (cj c37 (cj (rparse_does (s).data.toList (by assumption)) (cj c39 (cj c45 (cj c45 (cj (rvprint_does ((1 : Int)) ((parseL (bL s)).fst) ((0 : Int)) ((ByteArray.mk #[])) (by assumption) (by assumption) (by assumption)) (cj c45 (cj c45 (cj c45 (cj c49 cj0))))))))))))))))))))))))))))))))))))))
                · refine obif h (fun c50 h => ?_) (fun c50 h => ?_)
                  · exact osome h (sfin (keep := []) (by decide) [.f, .f, .f, .f, .t, .t, .t, .t, .f, .t, .t, .t, .t, .f, .t, .t, .t, .t, .t, .t, .f, .t, .t, .t, .f, .t, .t, .t, .t, .t, .l] (by kernel_rfl) (cj c1 (cj c1 (cj c1 (cj c7 (cj c12 (cj c12 (cj c13 (cj c12 (cj c12 (cj c14 (cj c12 (cj c12 (cj c13 (cj c12 (cj c12 (cj c20 (cj c12 (cj c12 (cj c12 (cj c12 (cj c27 (cj c12 (cj c12 (cj c28 (cj c36 (cj c36 (cj c36 (cj c37 (cj c50 (cj c50 (cj c50 (cj c50 (cj c50 cj0))))))))))))))))))))))))))))))))))
                  · refine ogrd h (fun c51 h => ?_)
                    refine ogrd h (fun c52 h => ?_)
                    refine obif h (fun c53 h => ?_) (fun c53 h => ?_)
                    · exact osome h (sfin (keep := []) (by decide) [.f, .f, .f, .f, .t, .t, .t, .t, .f, .t, .t, .t, .t, .f, .t, .t, .t, .t, .t, .t, .f, .t, .t, .t, .f, .f, .f, .c (.v (.string (oL (prV 0 0 0 (ByteArray.mk #[]))))) [] 0, .f, .f, .f, .t] (by kernel_rfl) (cj c1 (cj c1 (cj c1 (cj c7 (cj c12 (cj c12 (cj c13 (cj c12 (cj c12 (cj c14 (cj c12 (cj c12 (cj c13 (cj c12 (cj c12 (cj c20 (cj c12 (cj c12 (cj c12 (cj c12 (cj c27 (cj c12 (cj c12 (cj c28 (cj c36 (cj c36 (cj c36 (cj c37 (cj c50 (cj c50 (cj (rvprint_does ((0 : Int)) ((0 : Int)) ((0 : Int)) ((ByteArray.mk #[])) (by assumption) (by assumption) (by assumption)) (cj c50 (cj c50 (cj c50 (cj c53 cj0))))))))))))))))))))))))))))))))))))
                    · exact osome h (sfin (keep := []) (by decide) [.f, .f, .f, .f, .t, .t, .t, .t, .f, .t, .t, .t, .t, .f, .t, .t, .t, .t, .t, .t, .f, .t, .t, .t, .f, .f, .f, .c (.v (.string (oL (prV 0 0 0 (ByteArray.mk #[]))))) [] 0, .f, .f, .f, .f] (by kernel_rfl) (cj c1 (cj c1 (cj c1 (cj c7 (cj c12 (cj c12 (cj c13 (cj c12 (cj c12 (cj c14 (cj c12 (cj c12 (cj c13 (cj c12 (cj c12 (cj c20 (cj c12 (cj c12 (cj c12 (cj c12 (cj c27 (cj c12 (cj c12 (cj c28 (cj c36 (cj c36 (cj c36 (cj c37 (cj c50 (cj c50 (cj (rvprint_does ((0 : Int)) ((0 : Int)) ((0 : Int)) ((ByteArray.mk #[])) (by assumption) (by assumption) (by assumption)) (cj c50 (cj c50 (cj c50 (cj c53 cj0))))))))))))))))))))))))))))))))))))
              · refine obif h (fun c54 h => ?_) (fun c54 h => ?_)
                · exact osome h (sfin (keep := []) (by decide) [.f, .f, .f, .f, .t, .t, .t, .t, .f, .t, .t, .t, .t, .f, .t, .t, .t, .t, .t, .t, .f, .f, .f, .f, .l, .t, .t, .t, .t, .t, .l] (by kernel_rfl) (cj c1 (cj c1 (cj c1 (cj c7 (cj c12 (cj c12 (cj c13 (cj c12 (cj c12 (cj c14 (cj c12 (cj c12 (cj c13 (cj c12 (cj c12 (cj c20 (cj c12 (cj c12 (cj c12 (cj c12 (cj c27 (cj c12 (cj c12 (cj c28 (cj c36 (cj c36 (cj c36 (cj c54 (cj c54 (cj c54 (cj c54 (cj c54 cj0)))))))))))))))))))))))))))))))))
                · refine ogrd h (fun c55 h => ?_)
                  refine ogrd h (fun c56 h => ?_)
                  refine obif h (fun c57 h => ?_) (fun c57 h => ?_)
                  · exact osome h (sfin (keep := []) (by decide) [.f, .f, .f, .f, .t, .t, .t, .t, .f, .t, .t, .t, .t, .f, .t, .t, .t, .t, .t, .t, .f, .f, .f, .f, .l, .f, .f, .c (.v (.string (oL (prV 0 0 0 (ByteArray.mk #[]))))) [] 0, .f, .f, .f, .t] (by kernel_rfl) (cj c1 (cj c1 (cj c1 (cj c7 (cj c12 (cj c12 (cj c13 (cj c12 (cj c12 (cj c14 (cj c12 (cj c12 (cj c13 (cj c12 (cj c12 (cj c20 (cj c12 (cj c12 (cj c12 (cj c12 (cj c27 (cj c12 (cj c12 (cj c28 (cj c36 (cj c36 (cj c36 (cj c54 (cj c54 (cj (rvprint_does ((0 : Int)) ((0 : Int)) ((0 : Int)) ((ByteArray.mk #[])) (by assumption) (by assumption) (by assumption)) (cj c54 (cj c54 (cj c54 (cj c57 cj0)))))))))))))))))))))))))))))))))))
                  · exact osome h (sfin (keep := []) (by decide) [.f, .f, .f, .f, .t, .t, .t, .t, .f, .t, .t, .t, .t, .f, .t, .t, .t, .t, .t, .t, .f, .f, .f, .f, .l, .f, .f, .c (.v (.string (oL (prV 0 0 0 (ByteArray.mk #[]))))) [] 0, .f, .f, .f, .f] (by kernel_rfl) (cj c1 (cj c1 (cj c1 (cj c7 (cj c12 (cj c12 (cj c13 (cj c12 (cj c12 (cj c14 (cj c12 (cj c12 (cj c13 (cj c12 (cj c12 (cj c20 (cj c12 (cj c12 (cj c12 (cj c12 (cj c27 (cj c12 (cj c12 (cj c28 (cj c36 (cj c36 (cj c36 (cj c54 (cj c54 (cj (rvprint_does ((0 : Int)) ((0 : Int)) ((0 : Int)) ((ByteArray.mk #[])) (by assumption) (by assumption) (by assumption)) (cj c54 (cj c54 (cj c54 (cj c57 cj0)))))))))))))))))))))))))))))))))))
      · refine obif h (fun c58 h => ?_) (fun c58 h => ?_)
        · refine obif h (fun c59 h => ?_) (fun c59 h => ?_)
          · refine ogrd h (fun c60 h => ?_)
            refine obif h (fun c61 h => ?_) (fun c61 h => ?_)
            · refine obif h (fun c62 h => ?_) (fun c62 h => ?_)
              · exact osome h (sfin (keep := []) (by decide) [.f, .f, .f, .f, .f, .f, .f, .f, .l, .f, .f, .f, .f, .l, .f, .f, .f, .f, .f, .f, .l, .t, .t, .t, .t, .c (.v (.tuple #[(.agg #[(.int .i64 ((parseL (bL s)).fst)), (.int .i64 ((parseL (bL s)).snd.fst))]), (.int .i64 ((parseL (bL s)).snd.snd))])) [] 0, .t, .t, .t, .t, .t, .t, .l] (by kernel_rfl) (cj c1 (cj c1 (cj c1 (cj c7 (cj c12 (cj c12 (cj c12 (cj c12 (cj c12 (cj c12 (cj c12 (cj c12 (cj c12 (cj c12 (cj c12 (cj c12 (cj c12 (cj c12 (cj c58 (cj c58 (cj c58 (cj c59 (cj (rparse_does (s).data.toList (by assumption)) (cj c61 (cj c62 (cj c62 (cj c62 (cj c62 (cj c62 cj0))))))))))))))))))))))))))))))
              · refine ogrd h (fun c63 h => ?_)
                refine ogrd h (fun c64 h => ?_)
                refine ogrd h (fun c65 h => ?_)
                refine obif h (fun c66 h => ?_) (fun c66 h => ?_)
                · exact osome h (sfin (keep := []) (by decide) [.f, .f, .f, .f, .f, .f, .f, .f, .l, .f, .f, .f, .f, .l, .f, .f, .f, .f, .f, .f, .l, .t, .t, .t, .t, .c (.v (.tuple #[(.agg #[(.int .i64 ((parseL (bL s)).fst)), (.int .i64 ((parseL (bL s)).snd.fst))]), (.int .i64 ((parseL (bL s)).snd.snd))])) [] 0, .t, .f, .f, .c (.v (.string (oL (prV 2 (parseL (bL s)).fst (parseL (bL s)).snd.fst (ByteArray.mk #[]))))) [] 0, .f, .f, .f, .t] (by kernel_rfl) (cj c1 (cj c1 (cj c1 (cj c7 (cj c12 (cj c12 (cj c12 (cj c12 (cj c12 (cj c12 (cj c12 (cj c12 (cj c12 (cj c12 (cj c12 (cj c12 (cj c12 (cj c12 (cj c58 (cj c58 (cj c58 (cj c59 (cj (rparse_does (s).data.toList (by assumption)) (cj c61 (cj c62 (cj c62 (cj (rvprint_does ((2 : Int)) ((parseL (bL s)).fst) ((parseL (bL s)).snd.fst) ((ByteArray.mk #[])) (by assumption) (by assumption) (by assumption)) (cj c62 (cj c62 (cj c62 (cj c66 cj0))))))))))))))))))))))))))))))))
                · exact osome h (sfin (keep := []) (by decide) [.f, .f, .f, .f, .f, .f, .f, .f, .l, .f, .f, .f, .f, .l, .f, .f, .f, .f, .f, .f, .l, .t, .t, .t, .t, .c (.v (.tuple #[(.agg #[(.int .i64 ((parseL (bL s)).fst)), (.int .i64 ((parseL (bL s)).snd.fst))]), (.int .i64 ((parseL (bL s)).snd.snd))])) [] 0, .t, .f, .f, .c (.v (.string (oL (prV 2 (parseL (bL s)).fst (parseL (bL s)).snd.fst (ByteArray.mk #[]))))) [] 0, .f, .f, .f, .f] (by kernel_rfl) (cj c1 (cj c1 (cj c1 (cj c7 (cj c12 (cj c12 (cj c12 (cj c12 (cj c12 (cj c12 (cj c12 (cj c12 (cj c12 (cj c12 (cj c12 (cj c12 (cj c12 (cj c12 (cj c58 (cj c58 (cj c58 (cj c59 (cj (rparse_does (s).data.toList (by assumption)) (cj c61 (cj c62 (cj c62 (cj (rvprint_does ((2 : Int)) ((parseL (bL s)).fst) ((parseL (bL s)).snd.fst) ((ByteArray.mk #[])) (by assumption) (by assumption) (by assumption)) (cj c62 (cj c62 (cj c62 (cj c66 cj0))))))))))))))))))))))))))))))))
            · refine obif h (fun c67 h => ?_) (fun c67 h => ?_)
              · exact osome h (sfin (keep := []) (by decide) [.f, .f, .f, .f, .f, .f, .f, .f, .l, .f, .f, .f, .f, .l, .f, .f, .f, .f, .f, .f, .l, .t, .t, .t, .t, .c (.v (.tuple #[(.agg #[(.int .i64 ((parseL (bL s)).fst)), (.int .i64 ((parseL (bL s)).snd.fst))]), (.int .i64 ((parseL (bL s)).snd.snd))])) [] 0, .f, .t, .t, .t, .t, .t, .l] (by kernel_rfl) (cj c1 (cj c1 (cj c1 (cj c7 (cj c12 (cj c12 (cj c12 (cj c12 (cj c12 (cj c12 (cj c12 (cj c12 (cj c12 (cj c12 (cj c12 (cj c12 (cj c12 (cj c12 (cj c58 (cj c58 (cj c58 (cj c59 (cj (rparse_does (s).data.toList (by assumption)) (cj c61 (cj c67 (cj c67 (cj c67 (cj c67 (cj c67 cj0))))))))))))))))))))))))))))))
              · refine ogrd h (fun c68 h => ?_)
                refine ogrd h (fun c69 h => ?_)
                refine ogrd h (fun c70 h => ?_)
                refine obif h (fun c71 h => ?_) (fun c71 h => ?_)
                · exact osome h (sfin (keep := []) (by decide) [.f, .f, .f, .f, .f, .f, .f, .f, .l, .f, .f, .f, .f, .l, .f, .f, .f, .f, .f, .f, .l, .t, .t, .t, .t, .c (.v (.tuple #[(.agg #[(.int .i64 ((parseL (bL s)).fst)), (.int .i64 ((parseL (bL s)).snd.fst))]), (.int .i64 ((parseL (bL s)).snd.snd))])) [] 0, .f, .f, .f, .c (.v (.string (oL (prV 1 (parseL (bL s)).fst 0 (ByteArray.mk #[]))))) [] 0, .f, .f, .f, .t] (by kernel_rfl) (cj c1 (cj c1 (cj c1 (cj c7 (cj c12 (cj c12 (cj c12 (cj c12 (cj c12 (cj c12 (cj c12 (cj c12 (cj c12 (cj c12 (cj c12 (cj c12 (cj c12 (cj c12 (cj c58 (cj c58 (cj c58 (cj c59 (cj (rparse_does (s).data.toList (by assumption)) (cj c61 (cj c67 (cj c67 (cj (rvprint_does ((1 : Int)) ((parseL (bL s)).fst) ((0 : Int)) ((ByteArray.mk #[])) (by assumption) (by assumption) (by assumption)) (cj c67 (cj c67 (cj c67 (cj c71 cj0))))))))))))))))))))))))))))))))
                · exact osome h (sfin (keep := []) (by decide) [.f, .f, .f, .f, .f, .f, .f, .f, .l, .f, .f, .f, .f, .l, .f, .f, .f, .f, .f, .f, .l, .t, .t, .t, .t, .c (.v (.tuple #[(.agg #[(.int .i64 ((parseL (bL s)).fst)), (.int .i64 ((parseL (bL s)).snd.fst))]), (.int .i64 ((parseL (bL s)).snd.snd))])) [] 0, .f, .f, .f, .c (.v (.string (oL (prV 1 (parseL (bL s)).fst 0 (ByteArray.mk #[]))))) [] 0, .f, .f, .f, .f] (by kernel_rfl) (cj c1 (cj c1 (cj c1 (cj c7 (cj c12 (cj c12 (cj c12 (cj c12 (cj c12 (cj c12 (cj c12 (cj c12 (cj c12 (cj c12 (cj c12 (cj c12 (cj c12 (cj c12 (cj c58 (cj c58 (cj c58 (cj c59 (cj (rparse_does (s).data.toList (by assumption)) (cj c61 (cj c67 (cj c67 (cj (rvprint_does ((1 : Int)) ((parseL (bL s)).fst) ((0 : Int)) ((ByteArray.mk #[])) (by assumption) (by assumption) (by assumption)) (cj c67 (cj c67 (cj c67 (cj c71 cj0))))))))))))))))))))))))))))))))
          · refine obif h (fun c72 h => ?_) (fun c72 h => ?_)
            · exact osome h (sfin (keep := []) (by decide) [.f, .f, .f, .f, .f, .f, .f, .f, .l, .f, .f, .f, .f, .l, .f, .f, .f, .f, .f, .f, .l, .t, .t, .t, .f, .t, .t, .t, .t, .t, .l] (by kernel_rfl) (cj c1 (cj c1 (cj c1 (cj c7 (cj c12 (cj c12 (cj c12 (cj c12 (cj c12 (cj c12 (cj c12 (cj c12 (cj c12 (cj c12 (cj c12 (cj c12 (cj c12 (cj c12 (cj c58 (cj c58 (cj c58 (cj c59 (cj c72 (cj c72 (cj c72 (cj c72 (cj c72 cj0))))))))))))))))))))))))))))
            · refine ogrd h (fun c73 h => ?_)
              refine ogrd h (fun c74 h => ?_)
              refine obif h (fun c75 h => ?_) (fun c75 h => ?_)
              · exact osome h (sfin (keep := []) (by decide) [.f, .f, .f, .f, .f, .f, .f, .f, .l, .f, .f, .f, .f, .l, .f, .f, .f, .f, .f, .f, .l, .t, .t, .t, .f, .f, .f, .c (.v (.string (oL (prV 0 0 0 (ByteArray.mk #[]))))) [] 0, .f, .f, .f, .t] (by kernel_rfl) (cj c1 (cj c1 (cj c1 (cj c7 (cj c12 (cj c12 (cj c12 (cj c12 (cj c12 (cj c12 (cj c12 (cj c12 (cj c12 (cj c12 (cj c12 (cj c12 (cj c12 (cj c12 (cj c58 (cj c58 (cj c58 (cj c59 (cj c72 (cj c72 (cj (rvprint_does ((0 : Int)) ((0 : Int)) ((0 : Int)) ((ByteArray.mk #[])) (by assumption) (by assumption) (by assumption)) (cj c72 (cj c72 (cj c72 (cj c75 cj0))))))))))))))))))))))))))))))
              · exact osome h (sfin (keep := []) (by decide) [.f, .f, .f, .f, .f, .f, .f, .f, .l, .f, .f, .f, .f, .l, .f, .f, .f, .f, .f, .f, .l, .t, .t, .t, .f, .f, .f, .c (.v (.string (oL (prV 0 0 0 (ByteArray.mk #[]))))) [] 0, .f, .f, .f, .f] (by kernel_rfl) (cj c1 (cj c1 (cj c1 (cj c7 (cj c12 (cj c12 (cj c12 (cj c12 (cj c12 (cj c12 (cj c12 (cj c12 (cj c12 (cj c12 (cj c12 (cj c12 (cj c12 (cj c12 (cj c58 (cj c58 (cj c58 (cj c59 (cj c72 (cj c72 (cj (rvprint_does ((0 : Int)) ((0 : Int)) ((0 : Int)) ((ByteArray.mk #[])) (by assumption) (by assumption) (by assumption)) (cj c72 (cj c72 (cj c72 (cj c75 cj0))))))))))))))))))))))))))))))
        · refine obif h (fun c76 h => ?_) (fun c76 h => ?_)
          · exact osome h (sfin (keep := []) (by decide) [.f, .f, .f, .f, .f, .f, .f, .f, .l, .f, .f, .f, .f, .l, .f, .f, .f, .f, .f, .f, .l, .f, .f, .f, .l, .t, .t, .t, .t, .t, .l] (by kernel_rfl) (cj c1 (cj c1 (cj c1 (cj c7 (cj c12 (cj c12 (cj c12 (cj c12 (cj c12 (cj c12 (cj c12 (cj c12 (cj c12 (cj c12 (cj c12 (cj c12 (cj c12 (cj c12 (cj c58 (cj c58 (cj c58 (cj c76 (cj c76 (cj c76 (cj c76 (cj c76 cj0)))))))))))))))))))))))))))
          · refine ogrd h (fun c77 h => ?_)
            refine ogrd h (fun c78 h => ?_)
            refine obif h (fun c79 h => ?_) (fun c79 h => ?_)
            · exact osome h (sfin (keep := []) (by decide) [.f, .f, .f, .f, .f, .f, .f, .f, .l, .f, .f, .f, .f, .l, .f, .f, .f, .f, .f, .f, .l, .f, .f, .f, .l, .f, .f, .c (.v (.string (oL (prV 0 0 0 (ByteArray.mk #[]))))) [] 0, .f, .f, .f, .t] (by kernel_rfl) (cj c1 (cj c1 (cj c1 (cj c7 (cj c12 (cj c12 (cj c12 (cj c12 (cj c12 (cj c12 (cj c12 (cj c12 (cj c12 (cj c12 (cj c12 (cj c12 (cj c12 (cj c12 (cj c58 (cj c58 (cj c58 (cj c76 (cj c76 (cj (rvprint_does ((0 : Int)) ((0 : Int)) ((0 : Int)) ((ByteArray.mk #[])) (by assumption) (by assumption) (by assumption)) (cj c76 (cj c76 (cj c76 (cj c79 cj0)))))))))))))))))))))))))))))
            · exact osome h (sfin (keep := []) (by decide) [.f, .f, .f, .f, .f, .f, .f, .f, .l, .f, .f, .f, .f, .l, .f, .f, .f, .f, .f, .f, .l, .f, .f, .f, .l, .f, .f, .c (.v (.string (oL (prV 0 0 0 (ByteArray.mk #[]))))) [] 0, .f, .f, .f, .f] (by kernel_rfl) (cj c1 (cj c1 (cj c1 (cj c7 (cj c12 (cj c12 (cj c12 (cj c12 (cj c12 (cj c12 (cj c12 (cj c12 (cj c12 (cj c12 (cj c12 (cj c12 (cj c12 (cj c12 (cj c58 (cj c58 (cj c58 (cj c76 (cj c76 (cj (rvprint_does ((0 : Int)) ((0 : Int)) ((0 : Int)) ((ByteArray.mk #[])) (by assumption) (by assumption) (by assumption)) (cj c76 (cj c76 (cj c76 (cj c79 cj0)))))))))))))))))))))))))))))
end Go.Proofs.YtpfignfgfhbblaaGreatDoorC
/- longstopref04.Parse: what it comes to; it is what datum.Parse comes to. -/
namespace Go.Proofs.YtpfignfgfhbblaaGreatDoorC
open Go.Proofs Go.Proofs.YtpfignfgfhbblaaGreatDoorSx Go.Lib
set_option maxRecDepth 100000
set_option linter.unusedVariables false
theorem bL_oL (l : List UInt8) : bL (oL l) = l := oL_data l


/-- What the reference takes a text for. -/
def rrL (l : List UInt8) : V4 :=
  bif l == truL then (4, 1, 0, bE)
  else bif l == falL then (4, 0, 0, bE)
  else bif decide (2 ≤ l.length) && l.headD 0 == 39 then (3, 0, 0, bytesOf (quR (oL l) ((oL l).size + 1) 1 []))
  else bif decide (2 ≤ l.length) && l.headD 0 == 60 then (5, (gpL l).1, (gpL l).2.1, bE)
  else bif decide (2 ≤ l.length) && l.getD (l.length - 1) 0 == 46 then (2, (parseL l.dropLast).1, (parseL l.dropLast).2.1, bE)
  else bif decide (1 ≤ l.length) && !(l == nulL) then (bif decide ((parseL l).2.1 > 0) then (2, (parseL l).1, (parseL l).2.1, bE) else (1, (parseL l).1, 0, bE))
  else (0, 0, 0, bE)
abbrev errR : Rs := (.v (.tuple #[vl 0 0 0 bE, it 21]), [], 0)
abbrev okR (v : V4) : Rs := (.v (.tuple #[vl v.1 v.2.1 v.2.2.1 v.2.2.2, it 0]), [], 0)
/-- Is the text the one that is printed? -/
def chk (l : List UInt8) (v : V4) : Rs := bif l == [] then errR else bif !(prV v.1 v.2.1 v.2.2.1 v.2.2.2 == l) then errR else okR v
theorem dropLast_ext (l : List UInt8) (h : 1 ≤ l.length) (hl : l.length ≤ 140737488351232) : bL ((oL l).extract (Int.toNat 0) (IntKind.i64.wrap (((oL l).size : Int) - 1)).toNat) = l.dropLast := by
  rw [oL_size, wrap64 (by omega) (by omega), oL_ext, bL_oL]
  have e : ((l.length : Int) - 1).toNat = l.length - 1 := by omega
  rw [e, List.dropLast_eq_take]
  rfl
theorem last_at (l : List UInt8) (h : 1 ≤ l.length) (hl : l.length ≤ 140737488351232) : (oL l).data.toList.getD (IntKind.i64.wrap (((oL l).size : Int) - 1)).toNat 0 = l.getD (l.length - 1) 0 := by
  rw [oL_size, wrap64 (by omega) (by omega), oL_data]
  have e : ((l.length : Int) - 1).toNat = l.length - 1 := by omega
  rw [e]
theorem b46 (c : UInt8) : (((c.toNat : Nat) : Int) == 46) = (c == 46) := by
  by_cases h : c = 46
  · subst h
    decide
  · rw [beq_eq_false_iff_ne.2 h]
    refine beq_eq_false_iff_ne.2 (fun e => h ?_)
    have e2 : c.toNat = 46 := by omega
    exact UInt8.toNat_inj.1 e2
/-- The end of each way: the text is held against what is printed. -/
theorem tailR {l : List UInt8} {v : V4} {k n m : Int} {b : ByteArray} {z : ByteArray} (hz : z.toList = []) (e : v = (k, n, m, b)) (x : Option Rs) (hx : (l == []) = false → x = (bif !((oL (prV k n m b)).toList == (oL l).toList) then some errR else some (okR (k, n, m, b)))) :
    (bif (oL l).toList == z.toList then some errR else x) = some (chk l v) := by
  subst e
  unfold chk
  rw [oL_toList, hz]
  cases c1 : (l == []) with
  | true => rfl
  | false =>
    rw [hx c1, oL_toList, oL_toList]
    show (bif !(prV k n m b == l) then _ else _) = some (bif !(prV k n m b == l) then _ else _)
    cases (!(prV k n m b == l)) <;> rfl
theorem e0L : (ByteArray.mk #[]).toList = [] := oL_toList []
theorem bytes_sz (a : List Int) : (bytesOf a).size = a.length := by
  have h : ∀ (a : List Int) (x : ByteArray), (List.foldl (fun (r : ByteArray) (n : Int) => r.push (UInt8.ofNat n.toNat)) x a).size = x.size + a.length := by
    intro a
    induction a with
    | nil => intro x; rfl
    | cons c a ih =>
      intro x
      rw [List.foldl_cons, ih, List.length_cons, ByteArray.size_push]
      omega
  have h1 := h a ByteArray.empty
  have e : ByteArray.empty.size = 0 := rfl
  rw [e, Nat.zero_add] at h1
  exact h1
theorem quR_len (s : ByteArray) (hs : s.size ≤ 140737488351232) : ∀ (f i : Nat) (a : List Int), (quR s f i a).length ≤ a.length + (s.size - i)
  | 0, i, a => by simp [quR]
  | f + 1, i, a => by
    show (bif inQ s i then quR s f _ _ else a).length ≤ _
    cases hq : inQ s i with
    | true =>
      have hi := inQ_sz hs hq
      have := quR_len s hs f (bif byN s i == 39 then i + 2 else i + 1) (a ++ [byN s i])
      rw [List.length_append, List.length_singleton] at this
      show (quR s f _ _).length ≤ _
      have h2 : i + 1 ≤ (bif byN s i == 39 then i + 2 else i + 1) := by
        cases (byN s i == 39)
        · exact Nat.le_refl _
        · exact Nat.le_succ _
      omega
    | false =>
      show a.length ≤ _
      omega
theorem i0 : I64 0 := ⟨by decide, by decide⟩
theorem i1 : I64 1 := ⟨by decide, by decide⟩
/-- What is neither a word, nor quoted, nor a point, nor ends in a dot. -/
def lowV (l : List UInt8) : V4 := bif decide (1 ≤ l.length) && !(l == nulL) then (bif decide ((parseL l).2.1 > 0) then (2, (parseL l).1, (parseL l).2.1, bE) else (1, (parseL l).1, 0, bE)) else (0, 0, 0, bE)
theorem paR_low (l : List UInt8) (hl : l.length ≤ 140737488351232) (v : V4) (hv : v = lowV l) :
  (bif (decide (((oL l).size : Int) ≥ (1 : Int))) then bif (!(oL l).toList == (ByteArray.mk #[(110 : UInt8), (117 : UInt8), (108 : UInt8), (108 : UInt8)]).toList) then grd (((oL l)).data.toList.length ≤ 9223372036854775807) (bif (decide ((parseL (bL (oL l))).snd.fst > (0 : Int))) then bif ((oL l).toList == (ByteArray.mk #[]).toList) then some ((.v (.tuple #[(.agg #[(.int .i64 ((0 : Int))), (.int .i64 ((0 : Int))), (.int .i64 ((0 : Int))), (.string ((ByteArray.mk #[])))]), (.int .i64 ((21 : Int)))]) : SV), ([] : Tab cE), 0)
                else grd (((ByteArray.mk #[])).size ≤ 140737488351232) (grd (I64 ((parseL (bL (oL l))).fst)) (grd (I64 ((parseL (bL (oL l))).snd.fst)) (bif (!(oL (prV (2 : Int) (parseL (bL (oL l))).fst (parseL (bL (oL l))).snd.fst (ByteArray.mk #[]))).toList == (oL l).toList) then some ((.v (.tuple #[(.agg #[(.int .i64 ((0 : Int))), (.int .i64 ((0 : Int))), (.int .i64 ((0 : Int))), (.string ((ByteArray.mk #[])))]), (.int .i64 ((21 : Int)))]) : SV), ([] : Tab cE), 0)
                        else some ((.v (.tuple #[(.agg #[(.int .i64 ((2 : Int))), (.int .i64 ((parseL (bL (oL l))).fst)), (.int .i64 ((parseL (bL (oL l))).snd.fst)), (.string ((ByteArray.mk #[])))]), (.int .i64 ((0 : Int)))]) : SV), ([] : Tab cE), 0))))
              else bif ((oL l).toList == (ByteArray.mk #[]).toList) then some ((.v (.tuple #[(.agg #[(.int .i64 ((0 : Int))), (.int .i64 ((0 : Int))), (.int .i64 ((0 : Int))), (.string ((ByteArray.mk #[])))]), (.int .i64 ((21 : Int)))]) : SV), ([] : Tab cE), 0)
                else grd (((ByteArray.mk #[])).size ≤ 140737488351232) (grd (I64 ((parseL (bL (oL l))).fst)) (grd (I64 (0)) (bif (!(oL (prV (1 : Int) (parseL (bL (oL l))).fst (0 : Int) (ByteArray.mk #[]))).toList == (oL l).toList) then some ((.v (.tuple #[(.agg #[(.int .i64 ((0 : Int))), (.int .i64 ((0 : Int))), (.int .i64 ((0 : Int))), (.string ((ByteArray.mk #[])))]), (.int .i64 ((21 : Int)))]) : SV), ([] : Tab cE), 0)
                        else some ((.v (.tuple #[(.agg #[(.int .i64 ((1 : Int))), (.int .i64 ((parseL (bL (oL l))).fst)), (.int .i64 ((0 : Int))), (.string ((ByteArray.mk #[])))]), (.int .i64 ((0 : Int)))]) : SV), ([] : Tab cE), 0)))))
          else bif ((oL l).toList == (ByteArray.mk #[]).toList) then some ((.v (.tuple #[(.agg #[(.int .i64 ((0 : Int))), (.int .i64 ((0 : Int))), (.int .i64 ((0 : Int))), (.string ((ByteArray.mk #[])))]), (.int .i64 ((21 : Int)))]) : SV), ([] : Tab cE), 0)
            else grd (((ByteArray.mk #[])).size ≤ 140737488351232) (grd (I64 (0)) (bif (!(oL (prV (0 : Int) (0 : Int) (0 : Int) (ByteArray.mk #[]))).toList == (oL l).toList) then some ((.v (.tuple #[(.agg #[(.int .i64 ((0 : Int))), (.int .i64 ((0 : Int))), (.int .i64 ((0 : Int))), (.string ((ByteArray.mk #[])))]), (.int .i64 ((21 : Int)))]) : SV), ([] : Tab cE), 0)
                  else some ((.v (.tuple #[(.agg #[(.int .i64 ((0 : Int))), (.int .i64 ((0 : Int))), (.int .i64 ((0 : Int))), (.string ((ByteArray.mk #[])))]), (.int .i64 ((0 : Int)))]) : SV), ([] : Tab cE), 0)))
        else bif ((oL l).toList == (ByteArray.mk #[]).toList) then some ((.v (.tuple #[(.agg #[(.int .i64 ((0 : Int))), (.int .i64 ((0 : Int))), (.int .i64 ((0 : Int))), (.string ((ByteArray.mk #[])))]), (.int .i64 ((21 : Int)))]) : SV), ([] : Tab cE), 0)
          else grd (((ByteArray.mk #[])).size ≤ 140737488351232) (grd (I64 (0)) (bif (!(oL (prV (0 : Int) (0 : Int) (0 : Int) (ByteArray.mk #[]))).toList == (oL l).toList) then some ((.v (.tuple #[(.agg #[(.int .i64 ((0 : Int))), (.int .i64 ((0 : Int))), (.int .i64 ((0 : Int))), (.string ((ByteArray.mk #[])))]), (.int .i64 ((21 : Int)))]) : SV), ([] : Tab cE), 0)
                else some ((.v (.tuple #[(.agg #[(.int .i64 ((0 : Int))), (.int .i64 ((0 : Int))), (.int .i64 ((0 : Int))), (.string ((ByteArray.mk #[])))]), (.int .i64 ((0 : Int)))]) : SV), ([] : Tab cE), 0)))) = some (chk l v) := by
  have en : (ByteArray.mk #[110, 117, 108, 108]).toList = nulL := oL_toList nulL
  have hz : ((oL l).size : Int) = l.length := by rw [oL_size]
  have e1 : decide (((oL l).size : Int) ≥ 1) = decide (1 ≤ l.length) := decide_eq_decide.2 (by omega)
  have en2 : ((oL l).toList == (ByteArray.mk #[110, 117, 108, 108]).toList) = (l == nulL) := by rw [oL_toList, en]
  have hp := parseL_rng l
  have h64 : I64 (parseL l).2.1 := ⟨by omega, by omega⟩
  rw [e1, en2, bL_oL]
  unfold lowV at hv
  cases c1 : decide (1 ≤ l.length) with
  | false =>
    rw [c1] at hv
    exact bf rfl (tailR e0L hv _ (fun _ => gp (by decide) (gp i0 rfl)))
  | true =>
    rw [c1] at hv
    refine bt rfl ?_
    cases c2 : (l == nulL) with
    | true =>
      rw [c2] at hv
      exact bf rfl (tailR e0L hv _ (fun _ => gp (by decide) (gp i0 rfl)))
    | false =>
      rw [c2] at hv
      refine bt rfl (gp (by rw [oL_data]; omega) ?_)
      cases c3 : decide ((parseL l).2.1 > 0) with
      | true =>
        rw [c3] at hv
        exact bt rfl (tailR e0L hv _ (fun _ => gp (by decide) (gp hp.1 (gp h64 rfl))))
      | false =>
        rw [c3] at hv
        exact bf rfl (tailR e0L hv _ (fun _ => gp (by decide) (gp hp.1 (gp i0 rfl))))
theorem paR_eq (l : List UInt8) (hl : l.length ≤ 140737488351232) : paR (oL l) = some (chk l (rrL l)) := by
  have t1 : ((oL l).toList == (ByteArray.mk #[116, 114, 117, 101]).toList) = (l == truL) := by rw [oL_toList]; exact congrArg (l == ·) (oL_toList truL)
  have t2 : ((oL l).toList == (ByteArray.mk #[102, 97, 108, 115, 101]).toList) = (l == falL) := by rw [oL_toList]; exact congrArg (l == ·) (oL_toList falL)
  have hz : ((oL l).size : Int) = l.length := by rw [oL_size]
  unfold paR
  rw [t1, t2]
  cases c1 : (l == truL) with
  | true => exact bt rfl (tailR e0L (by unfold rrL; rw [c1]; rfl) _ (fun _ => gp (by decide) (gp i1 (gp i0 rfl))))
  | false =>
  cases c2 : (l == falL) with
  | true => exact bf rfl (bt rfl (tailR e0L (by unfold rrL; rw [c1, c2]; rfl) _ (fun _ => gp (by decide) (gp i0 rfl))))
  | false =>
  have d2 : decide (((oL l).size : Int) ≥ 2) = decide (2 ≤ l.length) := decide_eq_decide.2 (by omega)
  rw [d2]
  have rr : rrL l = (bif decide (2 ≤ l.length) && l.headD 0 == 39 then (3, 0, 0, bytesOf (quR (oL l) ((oL l).size + 1) 1 []))
  else bif decide (2 ≤ l.length) && l.headD 0 == 60 then (5, (gpL l).1, (gpL l).2.1, bE)
  else bif decide (2 ≤ l.length) && l.getD (l.length - 1) 0 == 46 then (2, (parseL l.dropLast).1, (parseL l.dropLast).2.1, bE)
  else lowV l) := by
    unfold rrL lowV
    rw [c1, c2]
    rfl
  cases c3 : decide (2 ≤ l.length) with
  | false =>
    rw [c3] at rr
    exact bf rfl (bf rfl (bf rfl (paR_low l hl _ rr)))
  | true =>
  rw [c3] at rr
  have h2 := of_decide_eq_true c3
  rw [last_at l (by omega) (by omega), b46, dropLast_ext l (by omega) (by omega)]
  refine bf rfl (bf rfl (bt rfl (gp (by omega) ?_)))
  have hh : (oL l).data.toList.getD (Int.toNat 0) 0 = l.headD 0 := by
    rw [oL_data]
    cases l with
    | nil => rfl
    | cons c r => rfl
  rw [hh, b39, b60, bL_oL]
  cases c4 : (l.headD 0 == 39) with
  | true =>
    rw [c4] at rr
    have hb := bytes_sz (quR (oL l) ((oL l).size + 1) 1 [])
    have hq := quR_len (oL l) (by rw [oL_size]; omega) ((oL l).size + 1) 1 []
    rw [List.length_nil] at hq
    refine bt rfl (gp (by rw [oL_size]; omega) (tailR e0L rr _ (fun _ => gp ?_ (gp i0 rfl))))
    show (bytesOf _).size ≤ _
    rw [oL_size] at hq hb
    rw [oL_size]
    omega
  | false =>
  rw [c4] at rr
  cases c5 : (l.headD 0 == 60) with
  | true =>
    rw [c5] at rr
    exact bf rfl (bt rfl (gp (by rw [oL_data]; omega) (tailR e0L rr _ (fun _ => gp (by decide) (gp (gpL_rng l).1 (gp (gpL_rng l).2 rfl))))))
  | false =>
  rw [c5] at rr
  have hw : IntKind.i64.wrap (((oL l).size : Int) - 1) = (l.length : Int) - 1 := by rw [hz]; exact wrap64 (by omega) (by omega)
  refine bf rfl (bf rfl (gp (by rw [hw]; omega) ?_))
  cases c6 : (l.getD (l.length - 1) 0 == 46) with
  | true =>
    rw [c6] at rr
    have hp := parseL_rng l.dropLast
    have h64 : I64 (parseL l.dropLast).2.1 := ⟨by omega, by omega⟩
    have hx := congrArg List.length (dropLast_ext l (by omega) (by omega))
    rw [List.length_dropLast] at hx
    exact bt rfl (gp (by rw [hw]; omega) (gp (by change (bL _).length ≤ _; rw [hx]; omega) (tailR e0L rr _ (fun _ => gp (by decide) (gp hp.1 (gp h64 rfl))))))
  | false =>
    rw [c6] at rr
    exact bf rfl (paR_low l hl _ rr)
end Go.Proofs.YtpfignfgfhbblaaGreatDoorC
/- Both Parse of values come to the same. Plain law. -/
namespace Go.Proofs.YtpfignfgfhbblaaGreatDoorC
open Go.Proofs Go.Proofs.YtpfignfgfhbblaaGreatDoorSx Go.Lib
set_option maxRecDepth 100000
set_option linter.unusedVariables false
theorem rrL_num {c : UInt8} {r : List UInt8} (hc : c = 45 ∨ dgC c) : rrL (c :: r) =
    bif decide (2 ≤ (c :: r).length) && (c :: r).getD ((c :: r).length - 1) 0 == 46 then (2, (parseL (c :: r).dropLast).1, (parseL (c :: r).dropLast).2.1, bE)
    else (bif decide ((parseL (c :: r)).2.1 > 0) then (2, (parseL (c :: r)).1, (parseL (c :: r)).2.1, bE) else (1, (parseL (c :: r)).1, 0, bE)) := by
  have ne : ∀ (d : UInt8) (q : List UInt8), d ≠ 45 → ¬ dgC d → ((c :: r) == d :: q) = false := by
    intro d q h1 h2
    refine beq_eq_false_iff_ne.2 (fun e => ?_)
    injection e with e1 _
    subst e1
    exact hc.elim h1 h2
  have nh : ∀ d : UInt8, d ≠ 45 → ¬ dgC d → ((c :: r).headD 0 == d) = false := by
    intro d h1 h2
    refine beq_eq_false_iff_ne.2 (fun e => ?_)
    have e1 : c = d := e
    subst e1
    exact hc.elim h1 h2
  unfold rrL
  rw [ne 116 _ (by decide) (by decide), ne 102 _ (by decide) (by decide), nh 39 (by decide) (by decide), nh 60 (by decide) (by decide), ne 110 _ (by decide) (by decide), decide_eq_true (by simp : 1 ≤ (c :: r).length), Bool.and_false]
  rfl
theorem getD_last (r : List UInt8) (c : UInt8) : (r ++ [c]).getD ((r ++ [c]).length - 1) 0 = c := by
  have e : (r ++ [c]).length - 1 = r.length := by simp
  rw [e, List.getD_eq_getElem?_getD, List.getElem?_append_right (Nat.le_refl _)]
  simp
theorem rr_back {k n m : Int} {s : ByteArray} (h : okV k n m s = true) (hn : I64 n) : rrL (prV k n m s) = (k, n, m, s) := by
  have hp : prV k n m s = (bif k == 1 then printL n m
  else bif k == 2 then (bif m == 0 then printL n m ++ [46] else printL n m)
  else bif k == 3 then 39 :: (dbl s.data.toList ++ [39])
  else bif k == 4 then (bif n == 1 then [116, 114, 117, 101] else [102, 97, 108, 115, 101])
  else bif k == 5 then prG n m
  else [110, 117, 108, 108]) := by
    unfold prV
    rw [h]
    rfl
  rw [hp]
  rcases okk h with rfl | rfl | rfl | rfl | rfl | rfl
  · obtain ⟨rfl, rfl, rfl⟩ := okn h
    rfl
  · have h' : (m == 0 && eqE s) = true := h
    simp only [Bool.and_eq_true, beq_iff_eq] at h'
    obtain ⟨rfl, hs⟩ := h'
    have es := eqE_of hs
    subst es
    show rrL (printL n 0) = _
    obtain ⟨c, r, e, hc⟩ := pl_head (u := n) (sc := 0) ⟨by decide, by decide⟩
    obtain ⟨r2, c2, e2, hc2⟩ := pl_last (u := n) (sc := 0) ⟨by decide, by decide⟩
    have hpp := parse_print n 0 (by decide) (by decide) hn.1 (by have := hn.2; omega)
    have hl : (printL n 0).getD ((printL n 0).length - 1) 0 = c2 := by rw [e2]; exact getD_last r2 c2
    have h46 : (c2 == 46) = false := beq_eq_false_iff_ne.2 (fun e => by rw [e] at hc2; exact absurd hc2 (by decide))
    have hr := rrL_num (r := r) hc
    rw [← e, hl, h46, Bool.and_false, hpp] at hr
    exact hr
  · have h' : (decide (0 ≤ m) && decide (m ≤ 6) && eqE s) = true := h
    simp only [Bool.and_eq_true, decide_eq_true_eq] at h'
    obtain ⟨⟨h0, h6⟩, hs⟩ := h'
    have es := eqE_of hs
    subst es
    show rrL (bif m == 0 then printL n m ++ [46] else printL n m) = _
    obtain ⟨c, r, e, hc⟩ := pl_head (u := n) (sc := m) ⟨h0, h6⟩
    have hpp := parse_print n m h0 h6 hn.1 (by have := hn.2; omega)
    by_cases hm : m = 0
    · subst hm
      show rrL (printL n 0 ++ [46]) = _
      have hr := rrL_num (r := r ++ [46]) hc
      rw [← List.cons_append, ← e, getD_last, List.dropLast_concat, hpp, decide_eq_true (by rw [e]; simp)] at hr
      exact hr
    · have e1 : (m == 0) = false := beq_eq_false_iff_ne.2 hm
      rw [e1]
      show rrL (printL n m) = _
      obtain ⟨r2, c2, e2, hc2⟩ := pl_last (u := n) (sc := m) ⟨h0, h6⟩
      have hl : (printL n m).getD ((printL n m).length - 1) 0 = c2 := by rw [e2]; exact getD_last r2 c2
      have h46 : (c2 == 46) = false := beq_eq_false_iff_ne.2 (fun e => by rw [e] at hc2; exact absurd hc2 (by decide))
      have hr := rrL_num (r := r) hc
      rw [← e, hl, h46, Bool.and_false, hpp] at hr
      have hg : decide (m > 0) = true := decide_eq_true (by omega)
      refine hr.trans ?_
      show (bif decide (m > 0) then _ else _) = _
      rw [hg]
      rfl
  · have h' : (n == 0 && m == 0 && decide ((s.size : Int) ≤ 256) && validD s.data.toList) = true := h
    simp only [Bool.and_eq_true, beq_iff_eq, decide_eq_true_eq] at h'
    obtain ⟨⟨⟨rfl, rfl⟩, hsz⟩, _⟩ := h'
    show rrL (39 :: (dbl s.data.toList ++ [39])) = _
    have ne : ∀ (d : UInt8) (q : List UInt8), d ≠ 39 → ((39 :: (dbl s.data.toList ++ [39])) == d :: q) = false := by
      intro d q h1
      refine beq_eq_false_iff_ne.2 (fun e => ?_)
      injection e with e1 _
      exact h1 e1.symm
    have hq := quR_text s.data.toList (by
      have e : s.data.toList.length = s.size := rfl
      omega)
    have hq2 : bytesOf (quR (oL (39 :: (dbl s.data.toList ++ [39]))) ((oL (39 :: (dbl s.data.toList ++ [39]))).size + 1) 1 []) = s := (Go.Value.string.inj hq).trans (oL_of s).symm
    unfold rrL
    rw [ne 116 _ (by decide), ne 102 _ (by decide), hq2, decide_eq_true (by rw [List.length_cons, List.length_append]; simp : 2 ≤ (39 :: (dbl s.data.toList ++ [39])).length)]
    rfl
  · have h' : ((n == 0 || n == 1) && m == 0 && eqE s) = true := h
    simp only [Bool.and_eq_true, Bool.or_eq_true, beq_iff_eq] at h'
    obtain ⟨⟨hn', rfl⟩, hs⟩ := h'
    have es := eqE_of hs
    subst es
    rcases hn' with rfl | rfl <;> rfl
  · have h' : (rt n m && eqE s) = true := h
    simp only [Bool.and_eq_true] at h'
    obtain ⟨hr, hs⟩ := h'
    have es := eqE_of hs
    subst es
    show rrL (prG n m) = _
    have hb := gp_back hr
    have ep : prG n m = 60 :: ((Lib.itoa n ++ 44 :: Lib.itoa m) ++ [62]) := by
      unfold prG
      rw [hr]
      simp
    rw [ep] at hb ⊢
    have hlen : 2 ≤ (60 :: ((Lib.itoa n ++ 44 :: Lib.itoa m) ++ [62])).length := by
      rw [List.length_cons, List.length_append]
      simp only [List.length_cons, List.length_nil]
      omega
    generalize ((Lib.itoa n ++ 44 :: Lib.itoa m) ++ [62]) = q at *
    have ne : ∀ (d : UInt8) (r : List UInt8), d ≠ 60 → ((60 :: q) == d :: r) = false := by
      intro d r h1
      refine beq_eq_false_iff_ne.2 (fun e => ?_)
      injection e with e1 _
      exact h1 e1.symm
    unfold rrL
    rw [ne 116 _ (by decide), ne 102 _ (by decide), hb, decide_eq_true hlen]
    rfl
theorem rdL_rng (l : List UInt8) : I64 (rdL l).2.1 ∧ I64 (rdL l).2.2.1 := by
  have hg := gpL_rng l
  have hp := parseL_rng (Lib.trimSuffix l [46])
  have h6 : I64 (parseL (Lib.trimSuffix l [46])).2.1 := ⟨by omega, by omega⟩
  unfold rdL
  cases (l == []) with
  | true => exact ⟨i0, i0⟩
  | false =>
  cases (l == nulL) with
  | true => exact ⟨i0, i0⟩
  | false =>
  cases (l == truL) with
  | true => exact ⟨i1, i0⟩
  | false =>
  cases (l == falL) with
  | true => exact ⟨i0, i0⟩
  | false =>
  cases (l.headD 0 == 39) with
  | true => exact ⟨i0, i0⟩
  | false =>
  cases (l.headD 0 == 60) with
  | true => exact hg
  | false =>
  cases (!decide (0 ≤ Lib.indexByte l 46)) with
  | true => exact ⟨hp.1, h6⟩
  | false => exact ⟨hp.1, h6⟩
theorem rrL_rng (l : List UInt8) : I64 (rrL l).2.1 := by
  have hg := gpL_rng l
  have hp := parseL_rng l
  have hd := parseL_rng l.dropLast
  unfold rrL
  cases (l == truL) with
  | true => exact i1
  | false =>
  cases (l == falL) with
  | true => exact i0
  | false =>
  cases (decide (2 ≤ l.length) && l.headD 0 == 39) with
  | true => exact i0
  | false =>
  cases (decide (2 ≤ l.length) && l.headD 0 == 60) with
  | true => exact hg.1
  | false =>
  cases (decide (2 ≤ l.length) && l.getD (l.length - 1) 0 == 46) with
  | true => exact hd.1
  | false =>
  cases (decide (1 ≤ l.length) && !(l == nulL)) with
  | true =>
    cases (decide ((parseL l).2.1 > 0)) with
    | true => exact hp.1
    | false => exact hp.1
  | false => exact i0
theorem prV_bad {k n m : Int} {s : ByteArray} (h : okV k n m s = false) : prV k n m s = [] := by
  unfold prV
  rw [h]
  rfl
/-- A text is read as a value just if the value's text is this one. -/
theorem pv_iff (l : List UInt8) (hl : l ≠ []) {k n m : Int} {s : ByteArray} (hn : I64 n) (e : prV k n m s = l) : pvL l = (k, n, m, s, 0) := by
  have hok : okV k n m s = true := by
    cases h : okV k n m s with
    | true => rfl
    | false => exact absurd ((prV_bad h).symm.trans e) (fun e => hl e.symm)
  have hr := rd_back hok hn
  rw [e] at hr
  unfold pvL
  rw [hr]
  simp only
  rw [hok, e]
  simp
theorem pv_val {l : List UInt8} (h : (pvL l).2.2.2.2 = 0) : okV (pvL l).1 (pvL l).2.1 (pvL l).2.2.1 (pvL l).2.2.2.1 = true ∧ prV (pvL l).1 (pvL l).2.1 (pvL l).2.2.1 (pvL l).2.2.2.1 = l ∧ I64 (pvL l).2.1 ∧ I64 (pvL l).2.2.1 := by
  have hr := rdL_rng l
  unfold pvL at h ⊢
  generalize hc : ((rdL l).2.2.2.2 && (okV (rdL l).1 (rdL l).2.1 (rdL l).2.2.1 (rdL l).2.2.2.1 && prV (rdL l).1 (rdL l).2.1 (rdL l).2.2.1 (rdL l).2.2.2.1 == l)) = c at *
  cases c with
  | false =>
    have h' : (21 : Int) = 0 := h
    exact absurd h' (by decide)
  | true =>
    simp only [Bool.and_eq_true, beq_iff_eq] at hc
    exact ⟨hc.2.1, hc.2.2, hr⟩
theorem pv_err {l : List UInt8} (h : (pvL l).2.2.2.2 ≠ 0) : pvL l = (0, 0, 0, bE, 21) := by
  unfold pvL at h ⊢
  generalize ((rdL l).2.2.2.2 && (okV (rdL l).1 (rdL l).2.1 (rdL l).2.2.1 (rdL l).2.2.2.1 && prV (rdL l).1 (rdL l).2.1 (rdL l).2.2.1 (rdL l).2.2.2.1 == l)) = c at *
  cases c with
  | false => rfl
  | true => exact absurd rfl h
abbrev pvR (l : List UInt8) : Rs := (.v (.tuple #[vl (pvL l).1 (pvL l).2.1 (pvL l).2.2.1 (pvL l).2.2.2.1, it (pvL l).2.2.2.2]), [], 0)
theorem paP_eq (l : List UInt8) (hl : l.length ≤ 140737488351232) : paP (oL l) = some (pvR l) := by
  have hr := rdL_rng l
  unfold paP
  rw [oL_data, oL_toList]
  refine gp (by omega) ?_
  unfold pvR pvL
  cases c1 : (rdL l).2.2.2.2 with
  | false => exact bf rfl rfl
  | true =>
    have hsz : (rdL l).2.2.2.1.size ≤ 140737488351232 := by
      unfold rdL
      have hq := qsP_len (l.drop 1).length (l.drop 1) (Nat.le_refl _) []
      rw [List.length_drop, List.length_nil] at hq
      cases (l == []) <;> cases (l == nulL) <;> cases (l == truL) <;> cases (l == falL) <;> cases (l.headD 0 == 39) <;> cases (l.headD 0 == 60) <;> cases (!decide (0 ≤ Lib.indexByte l 46)) <;> first | (show bE.size ≤ _; decide) | (show (oL _).size ≤ _; rw [oL_size]; omega)
    refine bt rfl (gp hsz ?_)
    cases c2 : okV (rdL l).1 (rdL l).2.1 (rdL l).2.2.1 (rdL l).2.2.2.1 with
    | false => exact bf rfl rfl
    | true =>
      refine bt rfl (gp hr.1 (gp hr.2 ?_))
      rw [oL_toList]
      cases (prV (rdL l).1 (rdL l).2.1 (rdL l).2.2.1 (rdL l).2.2.2.1 == l) with
      | false => exact bf rfl rfl
      | true => exact bt rfl rfl
theorem parse4_does (l : List UInt8) (hl : l.length ≤ 140737488351232) : Does cE 13 [] 0 [.v (st (oL l))] (.v (.tuple #[vl (pvL l).1 (pvL l).2.1 (pvL l).2.2.1 (pvL l).2.2.2.1, it (pvL l).2.2.2.2])) [] 0 :=
  Does.of (paP_does (oL l) (r := (_, _, _)) (paP_eq l hl)) rfl
theorem chk_pv (l : List UInt8) : chk l (rrL l) = pvR l := by
  unfold chk
  cases h0 : (l == []) with
  | true =>
    have e := eq_of_beq h0
    subst e
    rfl
  | false =>
    have hne : l ≠ [] := fun e => by rw [e] at h0; cases h0
    cases hc : (prV (rrL l).1 (rrL l).2.1 (rrL l).2.2.1 (rrL l).2.2.2 == l) with
    | true =>
      have h := pv_iff l hne (rrL_rng l) (eq_of_beq hc)
      unfold pvR
      rw [h]
      rfl
    | false =>
      show errR = _
      by_cases hz : (pvL l).2.2.2.2 = 0
      · obtain ⟨h1, h2, h3, h4⟩ := pv_val hz
        have hb := rr_back h1 h3
        rw [h2] at hb
        rw [hb] at hc
        exact absurd h2 (beq_eq_false_iff_ne.1 hc)
      · unfold pvR
        rw [pv_err hz]
theorem rparse4_does (l : List UInt8) (hl : l.length ≤ 140737488351232) : Does cE 14 [] 0 [.v (st (oL l))] (.v (.tuple #[vl (pvL l).1 (pvL l).2.1 (pvL l).2.2.1 (pvL l).2.2.2.1, it (pvL l).2.2.2.2])) [] 0 :=
  Does.of (paR_does (oL l) (r := pvR l) ((paR_eq l hl).trans (congrArg some (chk_pv l)))) rfl
end Go.Proofs.YtpfignfgfhbblaaGreatDoorC
/- For datum's closed run: utf8.ValidString and strings.ReplaceAll, told. -/
namespace Go.Proofs.YtpfignfgfhbblaaGreatDoorC
open Go.Proofs Go.Proofs.YtpfignfgfhbblaaGreatDoorSx Go.RowKit Go.Lib
set_option maxRecDepth 100000
abbrev itsq : ByteArray := ByteArray.mk #[105, 116, 39, 39, 115]
abbrev itq : ByteArray := ByteArray.mk #[105, 116, 39, 115]
theorem kn_rep : Does cE 52 [] 0 [.v (st itq), .v (st (ByteArray.mk #[39])), .v (st (ByteArray.mk #[39, 39]))] (.v (st itsq)) [] 0 :=
  replaceAll_does itq (ByteArray.mk #[39]) (ByteArray.mk #[39, 39]) (by decide) (by decide) (by decide)
theorem kn_valid : Does cE 98 [] 0 [.v (st itq)] (.v (.bool true)) [] 0 := vstr_does itq (by decide)
theorem rp_of {s : ByteArray} (h : s = itq) : Does cE 52 [] 0 [.v (.string s), .v (.string (ByteArray.mk #[39])), .v (.string (ByteArray.mk #[39, 39]))] (.v (.string itsq)) [] 0 := h ▸ kn_rep
theorem vd_of {s : ByteArray} (h : s = itq) : Does cE 98 [] 0 [.v (.string s)] (.v (.bool true)) [] 0 := h ▸ kn_valid
end Go.Proofs.YtpfignfgfhbblaaGreatDoorC
/- datum.Parse of a text with a quote. Printed by a program (wip/tools); Lean checks each. -/
namespace Go.Proofs.YtpfignfgfhbblaaGreatDoorC
open Go.Proofs Go.Proofs.YtpfignfgfhbblaaGreatDoorSx Go.Lib
set_option maxRecDepth 100000
set_option linter.unusedVariables false
def kDp (z : Nat) : Value :=
  (.tuple #[(.agg #[(.int .i64 (3)), (.int .i64 (0)), (.int .i64 (0)), (.string (ByteArray.mk #[105, 116, 39, 115]))]), (.int .i64 (0))])
theorem kDp_does (z : Nat) : Does cE 13 [] 0 [.v (st (ByteArray.mk #[39, 105, 116, 39, 39, 115, 39]))] (.v (kDp z)) [] 0 := by
  unfold kDp
  exact pth (fn := Tryz.f13) rfl (by kernel_rfl) [.e, .l, .l, .l, .l, .l, .l, .l, .e, .n 30, .l, .l, .l, .l, .l, .l, .l, .l, .l, .l, .l, .l, .l, .l, .l, .l, .l, .l, .l, .l, .l, .l, .l, .l, .l, .l, .l, .l, .e, .l, .l, .l, .l, .l, .l, .l, .l, .l, .l, .l, .l, .c (.v (.bool (true))) [] 0, .l, .l, .l, .l, .e, .e, .l, .l, .l, .l, .l, .l, .l, .l, .l, .l, .l, .l, .c (.v (.bool (true))) [] 0, .l, .l, .l, .l, .l, .c (.v (.string ((ByteArray.mk #[105, 116, 39, 39, 115])))) [] 0, .l, .l, .l, .l] (by kernel_rfl) (cj (by first | decide | exact ⟨by decide, by decide⟩ | exact Nat.le_of_ble_eq_true rfl : (0 : Int) ≤ 0 ∧ (0 : Int) < (((ByteArray.mk #[39, 105, 116, 39, 39, 115, 39]).size : Nat) : Int)) (cj (by first | decide | exact ⟨by decide, by decide⟩ | exact Nat.le_of_ble_eq_true rfl : (0 : Int) ≤ 1 ∧ (1 : Int) < (((ByteArray.mk #[39, 105, 116, 39, 39, 115, 39]).size : Nat) : Int)) (cj (by first | decide | exact ⟨by decide, by decide⟩ | exact Nat.le_of_ble_eq_true rfl : Room (([] : List Int).length + [(((([39, 105, 116, 39, 39, 115, 39] : List UInt8).getD (Int.toNat 1) 0).toNat : Nat) : Int)].length) 1) (cj (by first | decide | exact ⟨by decide, by decide⟩ | exact Nat.le_of_ble_eq_true rfl : (0 : Int) ≤ IntKind.i64.wrap (1 + 1) ∧ IntKind.i64.wrap (1 + 1) < (((ByteArray.mk #[39, 105, 116, 39, 39, 115, 39]).size : Nat) : Int)) (cj (by first | decide | exact ⟨by decide, by decide⟩ | exact Nat.le_of_ble_eq_true rfl : Room (([] ++ [(((([39, 105, 116, 39, 39, 115, 39] : List UInt8).getD (Int.toNat 1) 0).toNat : Nat) : Int)]).length + [(((([39, 105, 116, 39, 39, 115, 39] : List UInt8).getD (IntKind.i64.wrap (1 + 1)).toNat 0).toNat : Nat) : Int)].length) 1) (cj (by first | decide | exact ⟨by decide, by decide⟩ | exact Nat.le_of_ble_eq_true rfl : (0 : Int) ≤ IntKind.i64.wrap (IntKind.i64.wrap (1 + 1) + 1) ∧ IntKind.i64.wrap (IntKind.i64.wrap (1 + 1) + 1) < (((ByteArray.mk #[39, 105, 116, 39, 39, 115, 39]).size : Nat) : Int)) (cj (by first | decide | exact ⟨by decide, by decide⟩ | exact Nat.le_of_ble_eq_true rfl : (0 : Int) ≤ IntKind.i64.wrap (IntKind.i64.wrap (IntKind.i64.wrap (1 + 1) + 1) + 1) ∧ IntKind.i64.wrap (IntKind.i64.wrap (IntKind.i64.wrap (1 + 1) + 1) + 1) < (((ByteArray.mk #[39, 105, 116, 39, 39, 115, 39]).size : Nat) : Int)) (cj (by first | decide | exact ⟨by decide, by decide⟩ | exact Nat.le_of_ble_eq_true rfl : Room (([] ++ [(((([39, 105, 116, 39, 39, 115, 39] : List UInt8).getD (Int.toNat 1) 0).toNat : Nat) : Int)] ++ [(((([39, 105, 116, 39, 39, 115, 39] : List UInt8).getD (IntKind.i64.wrap (1 + 1)).toNat 0).toNat : Nat) : Int)]).length + [(((([39, 105, 116, 39, 39, 115, 39] : List UInt8).getD (IntKind.i64.wrap (IntKind.i64.wrap (1 + 1) + 1)).toNat 0).toNat : Nat) : Int)].length) 1) (cj (by first | decide | exact ⟨by decide, by decide⟩ | exact Nat.le_of_ble_eq_true rfl : (0 : Int) ≤ IntKind.i64.wrap (IntKind.i64.wrap (IntKind.i64.wrap (IntKind.i64.wrap (1 + 1) + 1) + 1) + 1) ∧ IntKind.i64.wrap (IntKind.i64.wrap (IntKind.i64.wrap (IntKind.i64.wrap (1 + 1) + 1) + 1) + 1) < (((ByteArray.mk #[39, 105, 116, 39, 39, 115, 39]).size : Nat) : Int)) (cj (by first | decide | exact ⟨by decide, by decide⟩ | exact Nat.le_of_ble_eq_true rfl : Room (([] ++ [(((([39, 105, 116, 39, 39, 115, 39] : List UInt8).getD (Int.toNat 1) 0).toNat : Nat) : Int)] ++ [(((([39, 105, 116, 39, 39, 115, 39] : List UInt8).getD (IntKind.i64.wrap (1 + 1)).toNat 0).toNat : Nat) : Int)] ++ [(((([39, 105, 116, 39, 39, 115, 39] : List UInt8).getD (IntKind.i64.wrap (IntKind.i64.wrap (1 + 1) + 1)).toNat 0).toNat : Nat) : Int)]).length + [(((([39, 105, 116, 39, 39, 115, 39] : List UInt8).getD (IntKind.i64.wrap (IntKind.i64.wrap (IntKind.i64.wrap (IntKind.i64.wrap (1 + 1) + 1) + 1) + 1)).toNat 0).toNat : Nat) : Int)].length) 1) (cj (by first | decide | exact ⟨by decide, by decide⟩ | exact Nat.le_of_ble_eq_true rfl : (0 : Int) ≤ IntKind.i64.wrap (IntKind.i64.wrap (IntKind.i64.wrap (IntKind.i64.wrap (IntKind.i64.wrap (1 + 1) + 1) + 1) + 1) + 1) ∧ IntKind.i64.wrap (IntKind.i64.wrap (IntKind.i64.wrap (IntKind.i64.wrap (IntKind.i64.wrap (1 + 1) + 1) + 1) + 1) + 1) < (((ByteArray.mk #[39, 105, 116, 39, 39, 115, 39]).size : Nat) : Int)) (cj (by first | exact kn_rep | exact kn_valid | exact kn_parse | exact kn_print | exact rp_of (by kernel_rfl) | exact vd_of (by kernel_rfl) | decide | omega : Does cE 98 [] 0 [.v (.string (bytesOf ([] ++ [(((([39, 105, 116, 39, 39, 115, 39] : List UInt8).getD (Int.toNat 1) 0).toNat : Nat) : Int)] ++ [(((([39, 105, 116, 39, 39, 115, 39] : List UInt8).getD (IntKind.i64.wrap (1 + 1)).toNat 0).toNat : Nat) : Int)] ++ [(((([39, 105, 116, 39, 39, 115, 39] : List UInt8).getD (IntKind.i64.wrap (IntKind.i64.wrap (1 + 1) + 1)).toNat 0).toNat : Nat) : Int)] ++ [(((([39, 105, 116, 39, 39, 115, 39] : List UInt8).getD (IntKind.i64.wrap (IntKind.i64.wrap (IntKind.i64.wrap (IntKind.i64.wrap (1 + 1) + 1) + 1) + 1)).toNat 0).toNat : Nat) : Int)])))] (.v (.bool (true))) [] 0) (cj (by first | exact kn_rep | exact kn_valid | exact kn_parse | exact kn_print | exact rp_of (by kernel_rfl) | exact vd_of (by kernel_rfl) | decide | omega : Does cE 98 [] 0 [.v (.string (bytesOf ([] ++ [(((([39, 105, 116, 39, 39, 115, 39] : List UInt8).getD (Int.toNat 1) 0).toNat : Nat) : Int)] ++ [(((([39, 105, 116, 39, 39, 115, 39] : List UInt8).getD (IntKind.i64.wrap (1 + 1)).toNat 0).toNat : Nat) : Int)] ++ [(((([39, 105, 116, 39, 39, 115, 39] : List UInt8).getD (IntKind.i64.wrap (IntKind.i64.wrap (1 + 1) + 1)).toNat 0).toNat : Nat) : Int)] ++ [(((([39, 105, 116, 39, 39, 115, 39] : List UInt8).getD (IntKind.i64.wrap (IntKind.i64.wrap (IntKind.i64.wrap (IntKind.i64.wrap (1 + 1) + 1) + 1) + 1)).toNat 0).toNat : Nat) : Int)])))] (.v (.bool (true))) [] 0) (cj (by first | exact kn_rep | exact kn_valid | exact kn_parse | exact kn_print | exact rp_of (by kernel_rfl) | exact vd_of (by kernel_rfl) | decide | omega : Does cE 52 [] 0 [.v (.string (bytesOf ([] ++ [(((([39, 105, 116, 39, 39, 115, 39] : List UInt8).getD (Int.toNat 1) 0).toNat : Nat) : Int)] ++ [(((([39, 105, 116, 39, 39, 115, 39] : List UInt8).getD (IntKind.i64.wrap (1 + 1)).toNat 0).toNat : Nat) : Int)] ++ [(((([39, 105, 116, 39, 39, 115, 39] : List UInt8).getD (IntKind.i64.wrap (IntKind.i64.wrap (1 + 1) + 1)).toNat 0).toNat : Nat) : Int)] ++ [(((([39, 105, 116, 39, 39, 115, 39] : List UInt8).getD (IntKind.i64.wrap (IntKind.i64.wrap (IntKind.i64.wrap (IntKind.i64.wrap (1 + 1) + 1) + 1) + 1)).toNat 0).toNat : Nat) : Int)]))), .v (.string ((ByteArray.mk #[39]))), .v (.string ((ByteArray.mk #[39, 39])))] (.v (.string ((ByteArray.mk #[105, 116, 39, 39, 115])))) [] 0) (cj (by first | decide | exact ⟨by decide, by decide⟩ | exact Nat.le_of_ble_eq_true rfl : (ByteArray.mk #[39]).size + (ByteArray.mk #[105, 116, 39, 39, 115]).size ≤ 9223372036854775807) (cj (by first | decide | exact ⟨by decide, by decide⟩ | exact Nat.le_of_ble_eq_true rfl : ((ByteArray.mk #[39]) ++ (ByteArray.mk #[105, 116, 39, 39, 115])).size + (ByteArray.mk #[39]).size ≤ 9223372036854775807) cj0))))))))))))))))
end Go.Proofs.YtpfignfgfhbblaaGreatDoorC
/- datum.Print of a text with a quote. Printed by a program (wip/tools); Lean checks each. -/
namespace Go.Proofs.YtpfignfgfhbblaaGreatDoorC
open Go.Proofs Go.Proofs.YtpfignfgfhbblaaGreatDoorSx Go.Lib
set_option maxRecDepth 100000
set_option linter.unusedVariables false
def kDr (z : Nat) : Value :=
  (.string ((ByteArray.mk #[39]) ++ (ByteArray.mk #[105, 116, 39, 39, 115]) ++ (ByteArray.mk #[39])))
theorem kDr_does (z : Nat) : Does cE 15 [] 0 [.v (vl 3 0 0 (ByteArray.mk #[105, 116, 39, 115]))] (.v (kDr z)) [] 0 := by
  unfold kDr
  exact pth (fn := Tryz.f15) rfl (by kernel_rfl) [.e, .l, .l, .l, .l, .l, .l, .l, .l, .l, .l, .l, .l, .c (.v (.bool (true))) [] 0, .l, .l, .l, .l, .l, .c (.v (.string ((ByteArray.mk #[105, 116, 39, 39, 115])))) [] 0] (by kernel_rfl) (cj (by first | exact kn_rep | exact kn_valid | exact kn_parse | exact kn_print | exact rp_of (by kernel_rfl) | exact vd_of (by kernel_rfl) | decide | omega : Does cE 98 [] 0 [.v (.string ((ByteArray.mk #[105, 116, 39, 115])))] (.v (.bool (true))) [] 0) (cj (by first | exact kn_rep | exact kn_valid | exact kn_parse | exact kn_print | exact rp_of (by kernel_rfl) | exact vd_of (by kernel_rfl) | decide | omega : Does cE 52 [] 0 [.v (.string ((ByteArray.mk #[105, 116, 39, 115]))), .v (.string ((ByteArray.mk #[39]))), .v (.string ((ByteArray.mk #[39, 39])))] (.v (.string ((ByteArray.mk #[105, 116, 39, 39, 115])))) [] 0) (cj (by first | decide | exact ⟨by decide, by decide⟩ | exact Nat.le_of_ble_eq_true rfl : (ByteArray.mk #[39]).size + (ByteArray.mk #[105, 116, 39, 39, 115]).size ≤ 9223372036854775807) (cj (by first | decide | exact ⟨by decide, by decide⟩ | exact Nat.le_of_ble_eq_true rfl : ((ByteArray.mk #[39]) ++ (ByteArray.mk #[105, 116, 39, 39, 115])).size + (ByteArray.mk #[39]).size ≤ 9223372036854775807) cj0))))
end Go.Proofs.YtpfignfgfhbblaaGreatDoorC
/- For datum's closed run: the text that is read, and the value that is printed. -/
namespace Go.Proofs.YtpfignfgfhbblaaGreatDoorC
open Go.Proofs Go.Proofs.YtpfignfgfhbblaaGreatDoorSx Go.Lib
set_option maxRecDepth 100000
theorem kn_parse : Does cE 13 [] 0 [.v (st (ByteArray.mk #[39, 105, 116, 39, 39, 115, 39]))] (.v (.tuple #[vl 3 0 0 (ByteArray.mk #[105, 116, 39, 115]), it 0])) [] 0 := kDp_does 0
theorem kn_print : Does cE 15 [] 0 [.v (vl 3 0 0 (ByteArray.mk #[105, 116, 39, 115]))] (.v (st (ByteArray.mk #[39, 105, 116, 39, 39, 115, 39]))) [] 0 := kDr_does 0
end Go.Proofs.YtpfignfgfhbblaaGreatDoorC
/- What the laws of datum know. Printed by a program (wip/tools); Lean checks each. -/
namespace Go.Proofs.YtpfignfgfhbblaaGreatDoorC
open Go.Proofs Go.Proofs.YtpfignfgfhbblaaGreatDoorSx Go.Lib
set_option maxRecDepth 100000
set_option linter.unusedVariables false
def kDk (z : Nat) : Value :=
  (.bool (IntKind.i64.wrap (1 - 0) == 1))
theorem kDk_does (z : Nat) : Does cE 19 [] 0 [] (.v (kDk z)) [] 0 := by
  unfold kDk
  exact pth (fn := Tryz.f19) rfl (by kernel_rfl) [.c (.v (.tuple #[(.agg #[(.int .i64 (3)), (.int .i64 (0)), (.int .i64 (0)), (.string ((ByteArray.mk #[105, 116, 39, 115])))]), (.int .i64 (0))])) [] 0, .e, .e, .l, .e, .l, .l, .e, .e, .n 30, .l, .l, .e, .e, .l, .l, .l, .l, .l, .l, .l, .l, .l, .l, .l, .l, .c (.v (.bool (true))) [] 0, .l, .l, .l, .l, .l, .l, .l, .l, .e, .l, .l, .n 30, .l, .l, .n 30, .l, .l, .e, .l, .l, .n 30, .l, .l, .l, .l, .l, .l, .l, .e, .l, .e, .l, .l, .n 30, .l, .l, .l, .l, .e, .e, .l, .l, .l, .l, .l, .l, .c (.v (.string ((ByteArray.mk #[39, 105, 116, 39, 39, 115, 39])))) [] 0, .l, .l, .l, .l, .l, .l, .l, .e, .e, .e, .l, .l, .l, .l, .l, .e, .e, .l, .l, .l, .l, .l, .e, .e, .l, .l, .l, .l, .e, .l, .l, .l, .l, .l, .l, .l, .l, .e, .e, .l, .l, .l, .l, .l, .l, .l, .l, .e, .e, .l, .l, .l, .l, .e, .l, .l, .l, .l, .l, .l, .l, .l, .l, .l, .l, .e, .e, .l, .l, .l, .l, .l, .l, .l] (by kernel_rfl) (cj (by first | exact kn_rep | exact kn_valid | exact kn_parse | exact kn_print | exact rp_of (by kernel_rfl) | exact vd_of (by kernel_rfl) | decide | omega : Does cE 13 [] 0 [.v (.string ((ByteArray.mk #[39, 105, 116, 39, 39, 115, 39])))] (.v (.tuple #[(.agg #[(.int .i64 (3)), (.int .i64 (0)), (.int .i64 (0)), (.string ((ByteArray.mk #[105, 116, 39, 115])))]), (.int .i64 (0))])) [] 0) (cj (by first | decide | exact ⟨by decide, by decide⟩ | exact Nat.le_of_ble_eq_true rfl : (0 : Int) ≤ 0 ∧ (0 : Int) < ((1 : Nat) : Int)) (cj (by first | exact kn_rep | exact kn_valid | exact kn_parse | exact kn_print | exact rp_of (by kernel_rfl) | exact vd_of (by kernel_rfl) | decide | omega : Does cE 98 [] 0 [.v (.string ((ByteArray.mk #[105, 116, 39, 115])))] (.v (.bool (true))) [] 0) (cj (by first | decide | exact ⟨by decide, by decide⟩ | exact Nat.le_of_ble_eq_true rfl : Room (([] : List Int).length + [IntKind.u8.wrap (IntKind.u64.wrap (((BitVec.ofInt 64 (IntKind.u64.wrap (IntKind.u64.wrap ((1 : Nat) : Int) * 2 ^ 1)) ^^^ BitVec.ofInt 64 (IntKind.u64.wrap ((((1 : Nat) : Int)).fdiv (2 ^ 63)))).toNat : Nat) : Int))].length) 1) (cj (by first | decide | exact ⟨by decide, by decide⟩ | exact Nat.le_of_ble_eq_true rfl : (0 : Int) ≤ 0 ∧ (0 : Int) < ((1 : Nat) : Int)) (cj (by first | decide | exact ⟨by decide, by decide⟩ | exact Nat.le_of_ble_eq_true rfl : Room (([] : List Int).length + [IntKind.u8.wrap (IntKind.u64.wrap (((BitVec.ofInt 64 (IntKind.u64.wrap (IntKind.u64.wrap 3 * 2 ^ 1)) ^^^ BitVec.ofInt 64 (IntKind.u64.wrap (Int.fdiv 3 (2 ^ 63)))).toNat : Nat) : Int))].length) 1) (cj (by first | decide | exact ⟨by decide, by decide⟩ | exact Nat.le_of_ble_eq_true rfl : Room (([] ++ [IntKind.u8.wrap (IntKind.u64.wrap (((BitVec.ofInt 64 (IntKind.u64.wrap (IntKind.u64.wrap ((1 : Nat) : Int) * 2 ^ 1)) ^^^ BitVec.ofInt 64 (IntKind.u64.wrap ((((1 : Nat) : Int)).fdiv (2 ^ 63)))).toNat : Nat) : Int))]).length + ([] ++ [IntKind.u8.wrap (IntKind.u64.wrap (((BitVec.ofInt 64 (IntKind.u64.wrap (IntKind.u64.wrap 3 * 2 ^ 1)) ^^^ BitVec.ofInt 64 (IntKind.u64.wrap (Int.fdiv 3 (2 ^ 63)))).toNat : Nat) : Int))]).length) 1) (cj (by first | decide | exact ⟨by decide, by decide⟩ | exact Nat.le_of_ble_eq_true rfl : Room (([] : List Int).length + [IntKind.u8.wrap (IntKind.u64.wrap (((BitVec.ofInt 64 (IntKind.u64.wrap (IntKind.u64.wrap (((ByteArray.mk #[105, 116, 39, 115]).size : Nat) : Int) * 2 ^ 1)) ^^^ BitVec.ofInt 64 (IntKind.u64.wrap (((((ByteArray.mk #[105, 116, 39, 115]).size : Nat) : Int)).fdiv (2 ^ 63)))).toNat : Nat) : Int))].length) 1) (cj (by first | decide | exact ⟨by decide, by decide⟩ | exact Nat.le_of_ble_eq_true rfl : Room (([] ++ [IntKind.u8.wrap (IntKind.u64.wrap (((BitVec.ofInt 64 (IntKind.u64.wrap (IntKind.u64.wrap (((ByteArray.mk #[105, 116, 39, 115]).size : Nat) : Int) * 2 ^ 1)) ^^^ BitVec.ofInt 64 (IntKind.u64.wrap (((((ByteArray.mk #[105, 116, 39, 115]).size : Nat) : Int)).fdiv (2 ^ 63)))).toNat : Nat) : Int))]).length + (strL (ByteArray.mk #[105, 116, 39, 115])).length) 1) (cj (by first | decide | exact ⟨by decide, by decide⟩ | exact Nat.le_of_ble_eq_true rfl : Room (([] ++ [IntKind.u8.wrap (IntKind.u64.wrap (((BitVec.ofInt 64 (IntKind.u64.wrap (IntKind.u64.wrap ((1 : Nat) : Int) * 2 ^ 1)) ^^^ BitVec.ofInt 64 (IntKind.u64.wrap ((((1 : Nat) : Int)).fdiv (2 ^ 63)))).toNat : Nat) : Int))] ++ ([] ++ [IntKind.u8.wrap (IntKind.u64.wrap (((BitVec.ofInt 64 (IntKind.u64.wrap (IntKind.u64.wrap 3 * 2 ^ 1)) ^^^ BitVec.ofInt 64 (IntKind.u64.wrap (Int.fdiv 3 (2 ^ 63)))).toNat : Nat) : Int))])).length + ([] ++ [IntKind.u8.wrap (IntKind.u64.wrap (((BitVec.ofInt 64 (IntKind.u64.wrap (IntKind.u64.wrap (((ByteArray.mk #[105, 116, 39, 115]).size : Nat) : Int) * 2 ^ 1)) ^^^ BitVec.ofInt 64 (IntKind.u64.wrap (((((ByteArray.mk #[105, 116, 39, 115]).size : Nat) : Int)).fdiv (2 ^ 63)))).toNat : Nat) : Int))] ++ strL (ByteArray.mk #[105, 116, 39, 115])).length) 1) (cj (by first | exact kn_rep | exact kn_valid | exact kn_parse | exact kn_print | exact rp_of (by kernel_rfl) | exact vd_of (by kernel_rfl) | decide | omega : Does cE 15 [] 0 [.v (.agg #[(.int .i64 (3)), (.int .i64 (0)), (.int .i64 (0)), (.string ((ByteArray.mk #[105, 116, 39, 115])))])] (.v (.string ((ByteArray.mk #[39, 105, 116, 39, 39, 115, 39])))) [] 0) cj0)))))))))))
end Go.Proofs.YtpfignfgfhbblaaGreatDoorC
/- What the laws of datum know. -/
namespace Go.Proofs.YtpfignfgfhbblaaGreatDoorC
open Go.Proofs Go.Proofs.YtpfignfgfhbblaaGreatDoorSx Go.Lib
theorem dknows_does : Does cE 19 [] 0 [] (.v (.bool true)) [] 0 := kDk_does 0
end Go.Proofs.YtpfignfgfhbblaaGreatDoorC
/- DatumTexts, walked. Printed by a program (wip/tools); Lean checks each. -/
namespace Go.Proofs.YtpfignfgfhbblaaGreatDoorC
open Go.Proofs Go.Proofs.YtpfignfgfhbblaaGreatDoorSx Go.Lib
set_option maxRecDepth 100000
set_option maxHeartbeats 4000000
set_option linter.unusedVariables false
noncomputable def laT (k n m : Int) (s t : ByteArray) : Option Rs :=
  grd ((t).data.toList.length ≤ 140737488351232) (grd ((s).size ≤ 140737488351232) (grd (I64 (n)) (grd (I64 (m)) (bif ((oL (prV k n m s)).toList == (oL (prV k n m s)).toList) then bif ((pvL (bL t)).fst == (pvL (bL t)).fst) then bif ((pvL (bL t)).snd.fst == (pvL (bL t)).snd.fst) then bif ((pvL (bL t)).snd.snd.fst == (pvL (bL t)).snd.snd.fst) then bif ((pvL (bL t)).snd.snd.snd.fst.toList == (pvL (bL t)).snd.snd.snd.fst.toList) then bif ((pvL (bL t)).snd.snd.snd.snd == (pvL (bL t)).snd.snd.snd.snd) then some ((.v (.bool (true)) : SV), ([] : Tab cE), 0)
                    else some ((.v (.bool (false)) : SV), ([] : Tab cE), 0)
                  else some ((.v (.bool (false)) : SV), ([] : Tab cE), 0)
                else some ((.v (.bool (false)) : SV), ([] : Tab cE), 0)
              else some ((.v (.bool (false)) : SV), ([] : Tab cE), 0)
            else some ((.v (.bool (false)) : SV), ([] : Tab cE), 0)
          else some ((.v (.bool (false)) : SV), ([] : Tab cE), 0)))))
theorem laT_does (k n m : Int) (s t : ByteArray) {r : Rs} (h : laT k n m s t = some r) : Does cE 3 [] 0 [.v (vl k n m s), .v (st t)] r.1 r.2.1 r.2.2 := by
  unfold laT at h
  refine does_of_fin (fn := Tryz.f3) (c := bd Tryz.f3) rfl (by kernel_rfl) rfl ?_
  refine ogrd h (fun c1 h => ?_)
  refine ogrd h (fun c2 h => ?_)
  refine ogrd h (fun c3 h => ?_)
  refine ogrd h (fun c4 h => ?_)
  refine obif h (fun c5 h => ?_) (fun c5 h => ?_)
  · refine obif h (fun c6 h => ?_) (fun c6 h => ?_)
    · refine obif h (fun c7 h => ?_) (fun c7 h => ?_)
      · refine obif h (fun c8 h => ?_) (fun c8 h => ?_)
        · refine obif h (fun c9 h => ?_) (fun c9 h => ?_)
          · refine obif h (fun c10 h => ?_) (fun c10 h => ?_)
            · exact osome h (sfin (keep := []) (by decide) [.c (.v (.tuple #[(.agg #[(.int .i64 ((pvL (bL t)).fst)), (.int .i64 ((pvL (bL t)).snd.fst)), (.int .i64 ((pvL (bL t)).snd.snd.fst)), (.string ((pvL (bL t)).snd.snd.snd.fst))]), (.int .i64 ((pvL (bL t)).snd.snd.snd.snd))])) [] 0, .c (.v (.tuple #[(.agg #[(.int .i64 ((pvL (bL t)).fst)), (.int .i64 ((pvL (bL t)).snd.fst)), (.int .i64 ((pvL (bL t)).snd.snd.fst)), (.string ((pvL (bL t)).snd.snd.snd.fst))]), (.int .i64 ((pvL (bL t)).snd.snd.snd.snd))])) [] 0, .c (.v (.string (oL (prV k n m s)))) [] 0, .c (.v (.string (oL (prV k n m s)))) [] 0, .t, .t, .t, .e, .t, .t, .t, .t, .t, .t, .t, .t, .t, .t, .t, .t, .t, .t, .t, .t, .t, .t, .t, .t, .t, .e, .t, .t, .t, .t, .c (.v (.bool (true))) [] 0, .t] (by kernel_rfl) (cj (parse4_does (t).data.toList (by assumption)) (cj (rparse4_does (t).data.toList (by assumption)) (cj (vprint_does (k) (n) (m) (s) (by assumption) (by assumption) (by assumption)) (cj (rvprint_does (k) (n) (m) (s) (by assumption) (by assumption) (by assumption)) (cj c5 (cj c5 (cj c5 (cj c6 (cj c6 (cj c6 (cj c6 (cj c6 (cj c6 (cj c7 (cj c7 (cj c7 (cj c7 (cj c7 (cj c7 (cj c8 (cj c8 (cj c8 (cj c8 (cj c8 (cj c8 (cj c5 (cj c9 (cj c9 (cj c9 (cj c9 (cj c9 (cj c10 (cj (dknows_does) (cj c10 cj0)))))))))))))))))))))))))))))))))))
            · exact osome h (sfin (keep := []) (by decide) [.c (.v (.tuple #[(.agg #[(.int .i64 ((pvL (bL t)).fst)), (.int .i64 ((pvL (bL t)).snd.fst)), (.int .i64 ((pvL (bL t)).snd.snd.fst)), (.string ((pvL (bL t)).snd.snd.snd.fst))]), (.int .i64 ((pvL (bL t)).snd.snd.snd.snd))])) [] 0, .c (.v (.tuple #[(.agg #[(.int .i64 ((pvL (bL t)).fst)), (.int .i64 ((pvL (bL t)).snd.fst)), (.int .i64 ((pvL (bL t)).snd.snd.fst)), (.string ((pvL (bL t)).snd.snd.snd.fst))]), (.int .i64 ((pvL (bL t)).snd.snd.snd.snd))])) [] 0, .c (.v (.string (oL (prV k n m s)))) [] 0, .c (.v (.string (oL (prV k n m s)))) [] 0, .t, .t, .t, .e, .t, .t, .t, .t, .t, .t, .t, .t, .t, .t, .t, .t, .t, .t, .t, .t, .t, .t, .t, .t, .t, .e, .t, .t, .t, .f, .f] (by kernel_rfl) (cj (parse4_does (t).data.toList (by assumption)) (cj (rparse4_does (t).data.toList (by assumption)) (cj (vprint_does (k) (n) (m) (s) (by assumption) (by assumption) (by assumption)) (cj (rvprint_does (k) (n) (m) (s) (by assumption) (by assumption) (by assumption)) (cj c5 (cj c5 (cj c5 (cj c6 (cj c6 (cj c6 (cj c6 (cj c6 (cj c6 (cj c7 (cj c7 (cj c7 (cj c7 (cj c7 (cj c7 (cj c8 (cj c8 (cj c8 (cj c8 (cj c8 (cj c8 (cj c5 (cj c9 (cj c9 (cj c9 (cj c9 (cj c9 (cj c10 (cj c10 cj0))))))))))))))))))))))))))))))))))
          · exact osome h (sfin (keep := []) (by decide) [.c (.v (.tuple #[(.agg #[(.int .i64 ((pvL (bL t)).fst)), (.int .i64 ((pvL (bL t)).snd.fst)), (.int .i64 ((pvL (bL t)).snd.snd.fst)), (.string ((pvL (bL t)).snd.snd.snd.fst))]), (.int .i64 ((pvL (bL t)).snd.snd.snd.snd))])) [] 0, .c (.v (.tuple #[(.agg #[(.int .i64 ((pvL (bL t)).fst)), (.int .i64 ((pvL (bL t)).snd.fst)), (.int .i64 ((pvL (bL t)).snd.snd.fst)), (.string ((pvL (bL t)).snd.snd.snd.fst))]), (.int .i64 ((pvL (bL t)).snd.snd.snd.snd))])) [] 0, .c (.v (.string (oL (prV k n m s)))) [] 0, .c (.v (.string (oL (prV k n m s)))) [] 0, .t, .t, .t, .e, .t, .t, .t, .t, .t, .t, .t, .t, .t, .t, .t, .t, .t, .t, .t, .t, .t, .t, .t, .f, .f, .f, .f, .f, .l, .l] (by kernel_rfl) (cj (parse4_does (t).data.toList (by assumption)) (cj (rparse4_does (t).data.toList (by assumption)) (cj (vprint_does (k) (n) (m) (s) (by assumption) (by assumption) (by assumption)) (cj (rvprint_does (k) (n) (m) (s) (by assumption) (by assumption) (by assumption)) (cj c5 (cj c5 (cj c5 (cj c6 (cj c6 (cj c6 (cj c6 (cj c6 (cj c6 (cj c7 (cj c7 (cj c7 (cj c7 (cj c7 (cj c7 (cj c8 (cj c8 (cj c8 (cj c8 (cj c8 (cj c8 (cj c5 (cj c9 (cj c9 (cj c9 (cj c9 (cj c9 cj0))))))))))))))))))))))))))))))))
        · exact osome h (sfin (keep := []) (by decide) [.c (.v (.tuple #[(.agg #[(.int .i64 ((pvL (bL t)).fst)), (.int .i64 ((pvL (bL t)).snd.fst)), (.int .i64 ((pvL (bL t)).snd.snd.fst)), (.string ((pvL (bL t)).snd.snd.snd.fst))]), (.int .i64 ((pvL (bL t)).snd.snd.snd.snd))])) [] 0, .c (.v (.tuple #[(.agg #[(.int .i64 ((pvL (bL t)).fst)), (.int .i64 ((pvL (bL t)).snd.fst)), (.int .i64 ((pvL (bL t)).snd.snd.fst)), (.string ((pvL (bL t)).snd.snd.snd.fst))]), (.int .i64 ((pvL (bL t)).snd.snd.snd.snd))])) [] 0, .c (.v (.string (oL (prV k n m s)))) [] 0, .c (.v (.string (oL (prV k n m s)))) [] 0, .t, .t, .t, .e, .t, .t, .t, .t, .t, .t, .t, .t, .t, .t, .t, .t, .f, .f, .f, .f, .f, .f, .t, .l, .l, .l, .l, .l, .l, .l] (by kernel_rfl) (cj (parse4_does (t).data.toList (by assumption)) (cj (rparse4_does (t).data.toList (by assumption)) (cj (vprint_does (k) (n) (m) (s) (by assumption) (by assumption) (by assumption)) (cj (rvprint_does (k) (n) (m) (s) (by assumption) (by assumption) (by assumption)) (cj c5 (cj c5 (cj c5 (cj c6 (cj c6 (cj c6 (cj c6 (cj c6 (cj c6 (cj c7 (cj c7 (cj c7 (cj c7 (cj c7 (cj c7 (cj c8 (cj c8 (cj c8 (cj c8 (cj c8 (cj c8 (cj c5 cj0)))))))))))))))))))))))))))
      · exact osome h (sfin (keep := []) (by decide) [.c (.v (.tuple #[(.agg #[(.int .i64 ((pvL (bL t)).fst)), (.int .i64 ((pvL (bL t)).snd.fst)), (.int .i64 ((pvL (bL t)).snd.snd.fst)), (.string ((pvL (bL t)).snd.snd.snd.fst))]), (.int .i64 ((pvL (bL t)).snd.snd.snd.snd))])) [] 0, .c (.v (.tuple #[(.agg #[(.int .i64 ((pvL (bL t)).fst)), (.int .i64 ((pvL (bL t)).snd.fst)), (.int .i64 ((pvL (bL t)).snd.snd.fst)), (.string ((pvL (bL t)).snd.snd.snd.fst))]), (.int .i64 ((pvL (bL t)).snd.snd.snd.snd))])) [] 0, .c (.v (.string (oL (prV k n m s)))) [] 0, .c (.v (.string (oL (prV k n m s)))) [] 0, .t, .t, .t, .e, .t, .t, .t, .t, .t, .t, .f, .f, .f, .f, .f, .f, .l, .l, .l, .l, .l, .l, .t, .l, .l, .l, .l, .l, .l, .l] (by kernel_rfl) (cj (parse4_does (t).data.toList (by assumption)) (cj (rparse4_does (t).data.toList (by assumption)) (cj (vprint_does (k) (n) (m) (s) (by assumption) (by assumption) (by assumption)) (cj (rvprint_does (k) (n) (m) (s) (by assumption) (by assumption) (by assumption)) (cj c5 (cj c5 (cj c5 (cj c6 (cj c6 (cj c6 (cj c6 (cj c6 (cj c6 (cj c7 (cj c7 (cj c7 (cj c7 (cj c7 (cj c7 (cj c5 cj0)))))))))))))))))))))
    · exact osome h (sfin (keep := []) (by decide) [.c (.v (.tuple #[(.agg #[(.int .i64 ((pvL (bL t)).fst)), (.int .i64 ((pvL (bL t)).snd.fst)), (.int .i64 ((pvL (bL t)).snd.snd.fst)), (.string ((pvL (bL t)).snd.snd.snd.fst))]), (.int .i64 ((pvL (bL t)).snd.snd.snd.snd))])) [] 0, .c (.v (.tuple #[(.agg #[(.int .i64 ((pvL (bL t)).fst)), (.int .i64 ((pvL (bL t)).snd.fst)), (.int .i64 ((pvL (bL t)).snd.snd.fst)), (.string ((pvL (bL t)).snd.snd.snd.fst))]), (.int .i64 ((pvL (bL t)).snd.snd.snd.snd))])) [] 0, .c (.v (.string (oL (prV k n m s)))) [] 0, .c (.v (.string (oL (prV k n m s)))) [] 0, .t, .t, .t, .e, .f, .f, .f, .f, .f, .f, .l, .l, .l, .l, .l, .l, .l, .l, .l, .l, .l, .l, .t, .l, .l, .l, .l, .l, .l, .l] (by kernel_rfl) (cj (parse4_does (t).data.toList (by assumption)) (cj (rparse4_does (t).data.toList (by assumption)) (cj (vprint_does (k) (n) (m) (s) (by assumption) (by assumption) (by assumption)) (cj (rvprint_does (k) (n) (m) (s) (by assumption) (by assumption) (by assumption)) (cj c5 (cj c5 (cj c5 (cj c6 (cj c6 (cj c6 (cj c6 (cj c6 (cj c6 (cj c5 cj0)))))))))))))))
  · exact osome h (sfin (keep := []) (by decide) [.c (.v (.tuple #[(.agg #[(.int .i64 ((pvL (bL t)).fst)), (.int .i64 ((pvL (bL t)).snd.fst)), (.int .i64 ((pvL (bL t)).snd.snd.fst)), (.string ((pvL (bL t)).snd.snd.snd.fst))]), (.int .i64 ((pvL (bL t)).snd.snd.snd.snd))])) [] 0, .c (.v (.tuple #[(.agg #[(.int .i64 ((pvL (bL t)).fst)), (.int .i64 ((pvL (bL t)).snd.fst)), (.int .i64 ((pvL (bL t)).snd.snd.fst)), (.string ((pvL (bL t)).snd.snd.snd.fst))]), (.int .i64 ((pvL (bL t)).snd.snd.snd.snd))])) [] 0, .c (.v (.string (oL (prV k n m s)))) [] 0, .c (.v (.string (oL (prV k n m s)))) [] 0, .f, .f, .f, .f, .l, .l, .l, .l, .l, .l, .l] (by kernel_rfl) (cj (parse4_does (t).data.toList (by assumption)) (cj (rparse4_does (t).data.toList (by assumption)) (cj (vprint_does (k) (n) (m) (s) (by assumption) (by assumption) (by assumption)) (cj (rvprint_does (k) (n) (m) (s) (by assumption) (by assumption) (by assumption)) (cj c5 (cj c5 (cj c5 (cj c5 cj0)))))))))
end Go.Proofs.YtpfignfgfhbblaaGreatDoorC
/- DatumTexts: true at every value and text. -/
namespace Go.Proofs.YtpfignfgfhbblaaGreatDoorC
open Go.Proofs Go.Proofs.YtpfignfgfhbblaaGreatDoorSx Go.RowKit Go.Lib
set_option maxRecDepth 100000
set_option linter.unusedVariables false
theorem laT_eq (k n m : Int) (s t : ByteArray) (hn : I64 n) (hm : I64 m) (hs : s.size ≤ 140737488351232) (ht : t.size ≤ 140737488351232) : laT k n m s t = some (.v (.bool true), [], 0) := by
  unfold laT
  exact gp ht (gp hs (gp hn (gp hm (bt (by simp) (bt (by simp) (bt (by simp) (bt (by simp) (bt (by simp) (bt (by simp) rfl)))))))))
theorem i64_of {n : Int} (h : (Lit.int .i64 n).wf = true) : I64 n := by simpa [Lit.wf, IntKind.min, IntKind.max, IntKind.signed, IntKind.bits] using h
theorem texts_true (k n m : Int) (s t : ByteArray) (hk : (Lit.int .i64 k).wf = true) (hn : (Lit.int .i64 n).wf = true) (hm : (Lit.int .i64 m).wf = true) (hs : s.size ≤ 140737488351232) (ht : t.size ≤ 140737488351232) (w : World) (hg : GlobIn cE w) :
    Calls Tryz.prog 3 #[vl k n m s, st t] w fun e w' => e = .returned (.bool true) ∧ Below w.heap.size w w' :=
  law_calls (E := cE) (l := [vl k n m s, st t]) (enters (fn := Tryz.f3) rfl (by kernel_rfl) rfl) (Does.of (laT_does k n m s t (r := (_, _, _)) (laT_eq k n m s t (i64_of hn) (i64_of hm) hs ht)) rfl) w hg
end Go.Proofs.YtpfignfgfhbblaaGreatDoorC
/- What the rows say of the whole program: each a closed fact, apart. -/
namespace Go.Proofs.YtpfignfgfhbblaaGreatDoorJ
open Go.Proofs.YtpfignfgfhbblaaGreatDoor
set_option maxRecDepth 100000
theorem bt {a b : Bool} (h : a = true) (k : b = true) : (a && b) = true := by rw [h, k]; rfl
theorem pLaid : laidOutB Tryz.prog = true := by kernel_rfl
theorem pMaps : mapsRowed Tryz.prog = true := by kernel_rfl
theorem pStops : (Tryz.prog.stops == []) = true := by kernel_rfl
theorem pKnobs : (Tryz.prog.stopKnobs == []) = true := by kernel_rfl
theorem pKeys : (Rows.datumTextsRow.plainKeys == Tryz.prog.plainKeys) = true := by kernel_rfl
theorem pHeard : Tryz.prog.stopsHeard = true := by kernel_rfl
theorem pMay : Tryz.prog.mayEnter = true := by kernel_rfl
theorem pLifts : (Rows.datumTextsRow.lifted == Tryz.prog.liftsFinal) = true := by kernel_rfl
theorem pMake : (Tryz.prog.make == some Rows.datumTextsRow.make) = true := by kernel_rfl
theorem pLooks : true = Tryz.prog.looks [] := by kernel_rfl
theorem pMain : Tryz.pinned.checked.prog.mainIs = some (true, "feaf21c062311904bfd92c7785647edaee1d9319c4fe03e55dc6c16d2606d535".toList) := by kernel_rfl
end Go.Proofs.YtpfignfgfhbblaaGreatDoorJ
