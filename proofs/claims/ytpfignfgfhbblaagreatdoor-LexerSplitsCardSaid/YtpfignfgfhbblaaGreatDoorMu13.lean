import Derived.Test.YtpfignfgfhbblaaGreatDoorMu12
import Derived.KernelRfl
/- lexer.scan, walked. Printed by a program (wip/tools); Lean checks each. -/
namespace Go.Proofs.YtpfignfgfhbblaaGreatDoorC
open Go.Proofs Go.Proofs.YtpfignfgfhbblaaGreatDoorSx Go.Lib
set_option maxRecDepth 100000
set_option maxHeartbeats 4000000
set_option linter.unusedVariables false
inductive scP_S where
  | st
  | l1 (xi0 : Int)
  | l2 (xi9 : Int)
  | l3 (xi18 : Int)
  | l4 (xi27 : Int)
noncomputable def scP_K1 : List It := stackAt [1] (bd Tryz.f61) [] []
noncomputable def scP_K2 : List It := stackAt [1] (bd Tryz.f61) [] []
noncomputable def scP_K3 : List It := stackAt [1] (bd Tryz.f61) [] []
noncomputable def scP_K4 : List It := stackAt [1] (bd Tryz.f61) [] []
def scP_Fin (s : ByteArray) (i : Int) (f : Nat) (r : Rs) : scP_S → Prop
  | .st => FinR Tryz.f61 0 r [.code (bd Tryz.f61)] (argsS [.v (st s), .v (it i)] Tryz.f61.ntmps) [] 0
  | .l1 xi0 => ∀ m0 : Nat, f ≤ m0 → FinR Tryz.f61 0 r (labK (scP_K1) 0 m0) ([.v (.string (s)), .v (.int .i64 (xi0)), .na, .na, .p 0 0, .na, .v (.int .i64 (i))] ++ List.replicate 156 .na) [(0, .box 45 [.v (.int .i64 ((0 : Int))), .v (.string ((ByteArray.mk #[]))), .v (.int .i64 ((0 : Int))), .v (.int .i64 ((0 : Int))), .v (.int .i64 ((0 : Int))), .v (.string ((ByteArray.mk #[]))), .v (.int .i64 ((0 : Int)))])] 1
  | .l2 xi9 => ∀ m0 : Nat, f ≤ m0 → FinR Tryz.f61 0 r (labK (scP_K2) 1 m0) ([.v (.string (s)), .v (.int .i64 (xi9)), .na, .na, .p 0 0, .na, .v (.int .i64 (i))] ++ List.replicate 156 .na) [(0, .box 45 [.v (.int .i64 ((0 : Int))), .v (.string ((ByteArray.mk #[]))), .v (.int .i64 ((0 : Int))), .v (.int .i64 ((0 : Int))), .v (.int .i64 ((0 : Int))), .v (.string ((ByteArray.mk #[]))), .v (.int .i64 ((0 : Int)))])] 1
  | .l3 xi18 => ∀ m0 : Nat, f ≤ m0 → FinR Tryz.f61 0 r (labK (scP_K3) 2 m0) ([.v (.string (s)), .v (.int .i64 (xi18)), .na, .na, .p 0 0, .na, .v (.int .i64 (i))] ++ List.replicate 156 .na) [(0, .box 45 [.v (.int .i64 ((0 : Int))), .v (.string ((ByteArray.mk #[]))), .v (.int .i64 ((0 : Int))), .v (.int .i64 ((0 : Int))), .v (.int .i64 ((0 : Int))), .v (.string ((ByteArray.mk #[]))), .v (.int .i64 ((0 : Int)))])] 1
  | .l4 xi27 => ∀ m0 : Nat, f ≤ m0 → FinR Tryz.f61 0 r (labK (scP_K4) 3 m0) ([.v (.string (s)), .v (.int .i64 (xi27)), .na, .na, .p 0 0, .na, .v (.int .i64 (i))] ++ List.replicate 156 .na) [(0, .box 45 [.v (.int .i64 ((0 : Int))), .v (.string ((ByteArray.mk #[]))), .v (.int .i64 ((0 : Int))), .v (.int .i64 ((0 : Int))), .v (.int .i64 ((0 : Int))), .v (.string ((ByteArray.mk #[]))), .v (.int .i64 ((0 : Int)))])] 1
noncomputable def scP_st (s : ByteArray) (i : Int) (rec : scP_S → Option Rs) : Option Rs :=
  grd ((0 : Int) ≤ i ∧ i < (s.size : Int)) (bif (decide (IntKind.u8.wrap ((((s.data.toList.getD i.toNat (0 : UInt8)).toNat : Nat) : Int) - (97 : Int)) < (26 : Int))) then rec (.l1 (i))
    else bif ((((s.data.toList.getD i.toNat (0 : UInt8)).toNat : Nat) : Int) == (95 : Int)) then rec (.l1 (i))
      else bif (decide (IntKind.u8.wrap ((((s.data.toList.getD i.toNat (0 : UInt8)).toNat : Nat) : Int) - (48 : Int)) < (10 : Int))) then rec (.l2 (i))
        else bif ((((s.data.toList.getD i.toNat (0 : UInt8)).toNat : Nat) : Int) == (39 : Int)) then rec (.l3 (i))
          else bif (decide (IntKind.i64.wrap (i + (1 : Int)) < (s.size : Int))) then grd ((0 : Int) ≤ i ∧ i ≤ IntKind.i64.wrap (i + (2 : Int)) ∧ IntKind.i64.wrap (i + (2 : Int)) ≤ (s.size : Int)) (grd (([(ByteArray.mk #[60, 62]), (ByteArray.mk #[60, 61]), (ByteArray.mk #[62, 61])]).length ≤ 140737488355328) (bif (decide (idxFrom (s.extract i.toNat (IntKind.i64.wrap (i + (2 : Int))).toNat) [(ByteArray.mk #[(60 : UInt8), (62 : UInt8)]), (ByteArray.mk #[(60 : UInt8), (61 : UInt8)]), (ByteArray.mk #[(62 : UInt8), (61 : UInt8)])] (0 : Nat) ≥ (0 : Int))) then some ((.v (.tuple #[(.agg #[(.int .i64 ((2 : Int))), (.string (s.extract i.toNat (IntKind.i64.wrap (i + (2 : Int))).toNat)), (.int .i64 ((0 : Int))), (.int .i64 ((0 : Int))), (.int .i64 ((0 : Int))), (.string ((ByteArray.mk #[]))), (.int .i64 (i))]), (.int .i64 (IntKind.i64.wrap (i + (2 : Int))))]) : SV), ([] : Tab cE), 0)
                  else grd (0 ≤ ((((s.data.toList.getD i.toNat 0).toNat : Nat) : Int)) ∧ ((((s.data.toList.getD i.toNat 0).toNat : Nat) : Int)) < 256) (bif (decide (Go.Lib.indexByte (bL (ByteArray.mk #[(40 : UInt8), (41 : UInt8), (44 : UInt8), (46 : UInt8), (59 : UInt8), (42 : UInt8), (43 : UInt8), (45 : UInt8), (47 : UInt8), (37 : UInt8), (61 : UInt8), (60 : UInt8), (62 : UInt8)])) (UInt8.ofNat ((((s.data.toList.getD i.toNat (0 : UInt8)).toNat : Nat) : Int)).toNat) ≥ (0 : Int))) then grd ((0 : Int) ≤ i ∧ i ≤ IntKind.i64.wrap (i + (1 : Int)) ∧ IntKind.i64.wrap (i + (1 : Int)) ≤ (s.size : Int)) (some ((.v (.tuple #[(.agg #[(.int .i64 ((2 : Int))), (.string (s.extract i.toNat (IntKind.i64.wrap (i + (1 : Int))).toNat)), (.int .i64 ((0 : Int))), (.int .i64 ((0 : Int))), (.int .i64 ((0 : Int))), (.string ((ByteArray.mk #[]))), (.int .i64 (i))]), (.int .i64 (IntKind.i64.wrap (i + (1 : Int))))]) : SV), ([] : Tab cE), 0))
                      else some ((.v (.tuple #[(.agg #[(.int .i64 ((0 : Int))), (.string ((ByteArray.mk #[]))), (.int .i64 ((0 : Int))), (.int .i64 ((0 : Int))), (.int .i64 ((0 : Int))), (.string ((ByteArray.mk #[]))), (.int .i64 ((0 : Int)))]), (.int .i64 (i))]) : SV), ([] : Tab cE), 0))))
            else grd (0 ≤ ((((s.data.toList.getD i.toNat 0).toNat : Nat) : Int)) ∧ ((((s.data.toList.getD i.toNat 0).toNat : Nat) : Int)) < 256) (bif (decide (Go.Lib.indexByte (bL (ByteArray.mk #[(40 : UInt8), (41 : UInt8), (44 : UInt8), (46 : UInt8), (59 : UInt8), (42 : UInt8), (43 : UInt8), (45 : UInt8), (47 : UInt8), (37 : UInt8), (61 : UInt8), (60 : UInt8), (62 : UInt8)])) (UInt8.ofNat ((((s.data.toList.getD i.toNat (0 : UInt8)).toNat : Nat) : Int)).toNat) ≥ (0 : Int))) then grd ((0 : Int) ≤ i ∧ i ≤ IntKind.i64.wrap (i + (1 : Int)) ∧ IntKind.i64.wrap (i + (1 : Int)) ≤ (s.size : Int)) (some ((.v (.tuple #[(.agg #[(.int .i64 ((2 : Int))), (.string (s.extract i.toNat (IntKind.i64.wrap (i + (1 : Int))).toNat)), (.int .i64 ((0 : Int))), (.int .i64 ((0 : Int))), (.int .i64 ((0 : Int))), (.string ((ByteArray.mk #[]))), (.int .i64 (i))]), (.int .i64 (IntKind.i64.wrap (i + (1 : Int))))]) : SV), ([] : Tab cE), 0))
                else some ((.v (.tuple #[(.agg #[(.int .i64 ((0 : Int))), (.string ((ByteArray.mk #[]))), (.int .i64 ((0 : Int))), (.int .i64 ((0 : Int))), (.int .i64 ((0 : Int))), (.string ((ByteArray.mk #[]))), (.int .i64 ((0 : Int)))]), (.int .i64 (i))]) : SV), ([] : Tab cE), 0)))
noncomputable def scP_l1 (s : ByteArray) (i : Int) (rec : scP_S → Option Rs) (xi0 : Int) : Option Rs :=
  bif (decide (IntKind.i64.wrap (xi0 + (1 : Int)) < (s.size : Int))) then grd ((0 : Int) ≤ IntKind.i64.wrap (xi0 + (1 : Int)) ∧ IntKind.i64.wrap (xi0 + (1 : Int)) < (s.size : Int)) (bif (decide (IntKind.u8.wrap ((((s.data.toList.getD (IntKind.i64.wrap (xi0 + (1 : Int))).toNat (0 : UInt8)).toNat : Nat) : Int) - (97 : Int)) < (26 : Int))) then rec (.l1 (IntKind.i64.wrap (xi0 + (1 : Int))))
      else bif ((((s.data.toList.getD (IntKind.i64.wrap (xi0 + (1 : Int))).toNat (0 : UInt8)).toNat : Nat) : Int) == (95 : Int)) then rec (.l1 (IntKind.i64.wrap (xi0 + (1 : Int))))
        else bif (decide (IntKind.u8.wrap ((((s.data.toList.getD (IntKind.i64.wrap (xi0 + (1 : Int))).toNat (0 : UInt8)).toNat : Nat) : Int) - (48 : Int)) < (10 : Int))) then rec (.l1 (IntKind.i64.wrap (xi0 + (1 : Int))))
          else grd ((0 : Int) ≤ i ∧ i ≤ IntKind.i64.wrap (xi0 + (1 : Int)) ∧ IntKind.i64.wrap (xi0 + (1 : Int)) ≤ (s.size : Int)) (grd ((s.extract i.toNat (IntKind.i64.wrap (xi0 + 1)).toNat).size ≤ 140737488351232) (bif (!wordL (bL (s.extract i.toNat (IntKind.i64.wrap (xi0 + (1 : Int))).toNat))) then some ((.v (.tuple #[(.agg #[(.int .i64 ((0 : Int))), (.string ((ByteArray.mk #[]))), (.int .i64 ((0 : Int))), (.int .i64 ((0 : Int))), (.int .i64 ((0 : Int))), (.string ((ByteArray.mk #[]))), (.int .i64 ((0 : Int)))]), (.int .i64 (IntKind.i64.wrap (xi0 + (1 : Int))))]) : SV), ([] : Tab cE), 0)
                else some ((.v (.tuple #[(.agg #[(.int .i64 ((1 : Int))), (.string (s.extract i.toNat (IntKind.i64.wrap (xi0 + (1 : Int))).toNat)), (.int .i64 ((0 : Int))), (.int .i64 ((0 : Int))), (.int .i64 ((0 : Int))), (.string ((ByteArray.mk #[]))), (.int .i64 (i))]), (.int .i64 (IntKind.i64.wrap (xi0 + (1 : Int))))]) : SV), ([] : Tab cE), 0))))
  else grd ((0 : Int) ≤ i ∧ i ≤ IntKind.i64.wrap (xi0 + (1 : Int)) ∧ IntKind.i64.wrap (xi0 + (1 : Int)) ≤ (s.size : Int)) (grd ((s.extract i.toNat (IntKind.i64.wrap (xi0 + 1)).toNat).size ≤ 140737488351232) (bif (!wordL (bL (s.extract i.toNat (IntKind.i64.wrap (xi0 + (1 : Int))).toNat))) then some ((.v (.tuple #[(.agg #[(.int .i64 ((0 : Int))), (.string ((ByteArray.mk #[]))), (.int .i64 ((0 : Int))), (.int .i64 ((0 : Int))), (.int .i64 ((0 : Int))), (.string ((ByteArray.mk #[]))), (.int .i64 ((0 : Int)))]), (.int .i64 (IntKind.i64.wrap (xi0 + (1 : Int))))]) : SV), ([] : Tab cE), 0)
        else some ((.v (.tuple #[(.agg #[(.int .i64 ((1 : Int))), (.string (s.extract i.toNat (IntKind.i64.wrap (xi0 + (1 : Int))).toNat)), (.int .i64 ((0 : Int))), (.int .i64 ((0 : Int))), (.int .i64 ((0 : Int))), (.string ((ByteArray.mk #[]))), (.int .i64 (i))]), (.int .i64 (IntKind.i64.wrap (xi0 + (1 : Int))))]) : SV), ([] : Tab cE), 0)))
noncomputable def scP_l2 (s : ByteArray) (i : Int) (rec : scP_S → Option Rs) (xi9 : Int) : Option Rs :=
  bif (decide (IntKind.i64.wrap (xi9 + (1 : Int)) < (s.size : Int))) then grd ((0 : Int) ≤ IntKind.i64.wrap (xi9 + (1 : Int)) ∧ IntKind.i64.wrap (xi9 + (1 : Int)) < (s.size : Int)) (bif (decide (IntKind.u8.wrap ((((s.data.toList.getD (IntKind.i64.wrap (xi9 + (1 : Int))).toNat (0 : UInt8)).toNat : Nat) : Int) - (48 : Int)) < (10 : Int))) then rec (.l2 (IntKind.i64.wrap (xi9 + (1 : Int))))
      else bif ((((s.data.toList.getD (IntKind.i64.wrap (xi9 + (1 : Int))).toNat (0 : UInt8)).toNat : Nat) : Int) == (46 : Int)) then grd ((0 : Int) ≤ i ∧ i ≤ IntKind.i64.wrap (xi9 + (1 : Int)) ∧ IntKind.i64.wrap (xi9 + (1 : Int)) ≤ (s.size : Int)) (bif (!decide ((0 : Int) ≤ Go.Lib.indexByte (bL (s.extract i.toNat (IntKind.i64.wrap (xi9 + (1 : Int))).toNat)) (46 : UInt8))) then rec (.l2 (IntKind.i64.wrap (xi9 + (1 : Int))))
            else rec (.l4 (IntKind.i64.wrap (xi9 + (1 : Int)))))
        else rec (.l4 (IntKind.i64.wrap (xi9 + (1 : Int)))))
  else rec (.l4 (IntKind.i64.wrap (xi9 + (1 : Int))))
noncomputable def scP_l3 (s : ByteArray) (i : Int) (rec : scP_S → Option Rs) (xi18 : Int) : Option Rs :=
  bif (decide (IntKind.i64.wrap (xi18 + (1 : Int)) ≥ (s.size : Int))) then some ((.v (.tuple #[(.agg #[(.int .i64 ((0 : Int))), (.string ((ByteArray.mk #[]))), (.int .i64 ((0 : Int))), (.int .i64 ((0 : Int))), (.int .i64 ((0 : Int))), (.string ((ByteArray.mk #[]))), (.int .i64 ((0 : Int)))]), (.int .i64 (IntKind.i64.wrap (xi18 + (1 : Int))))]) : SV), ([] : Tab cE), 0)
  else grd ((0 : Int) ≤ IntKind.i64.wrap (xi18 + (1 : Int)) ∧ IntKind.i64.wrap (xi18 + (1 : Int)) < (s.size : Int)) (bif ((((s.data.toList.getD (IntKind.i64.wrap (xi18 + (1 : Int))).toNat (0 : UInt8)).toNat : Nat) : Int) != (39 : Int)) then rec (.l3 (IntKind.i64.wrap (xi18 + (1 : Int))))
      else bif (decide (IntKind.i64.wrap (IntKind.i64.wrap (xi18 + (1 : Int)) + (1 : Int)) < (s.size : Int))) then grd ((0 : Int) ≤ IntKind.i64.wrap (IntKind.i64.wrap (xi18 + (1 : Int)) + (1 : Int)) ∧ IntKind.i64.wrap (IntKind.i64.wrap (xi18 + (1 : Int)) + (1 : Int)) < (s.size : Int)) (bif ((((s.data.toList.getD (IntKind.i64.wrap (IntKind.i64.wrap (xi18 + (1 : Int)) + (1 : Int))).toNat (0 : UInt8)).toNat : Nat) : Int) == (39 : Int)) then rec (.l3 (IntKind.i64.wrap (IntKind.i64.wrap (xi18 + (1 : Int)) + (1 : Int))))
            else grd ((0 : Int) ≤ i ∧ i ≤ IntKind.i64.wrap (IntKind.i64.wrap (xi18 + (1 : Int)) + (1 : Int)) ∧ IntKind.i64.wrap (IntKind.i64.wrap (xi18 + (1 : Int)) + (1 : Int)) ≤ (s.size : Int)) (grd ((s.extract i.toNat (IntKind.i64.wrap (IntKind.i64.wrap (xi18 + 1) + 1)).toNat).data.toList.length ≤ 140737488351232) (bif ((pvL (bL (s.extract i.toNat (IntKind.i64.wrap (IntKind.i64.wrap (xi18 + (1 : Int)) + (1 : Int))).toNat))).snd.snd.snd.snd != (0 : Int)) then some ((.v (.tuple #[(.agg #[(.int .i64 ((0 : Int))), (.string ((ByteArray.mk #[]))), (.int .i64 ((0 : Int))), (.int .i64 ((0 : Int))), (.int .i64 ((0 : Int))), (.string ((ByteArray.mk #[]))), (.int .i64 ((0 : Int)))]), (.int .i64 (IntKind.i64.wrap (IntKind.i64.wrap (xi18 + (1 : Int)) + (1 : Int))))]) : SV), ([] : Tab cE), 0)
                  else some ((.v (.tuple #[(.agg #[(.int .i64 ((3 : Int))), (.string (s.extract i.toNat (IntKind.i64.wrap (IntKind.i64.wrap (xi18 + (1 : Int)) + (1 : Int))).toNat)), (.int .i64 ((pvL (bL (s.extract i.toNat (IntKind.i64.wrap (IntKind.i64.wrap (xi18 + (1 : Int)) + (1 : Int))).toNat))).fst)), (.int .i64 ((pvL (bL (s.extract i.toNat (IntKind.i64.wrap (IntKind.i64.wrap (xi18 + (1 : Int)) + (1 : Int))).toNat))).snd.fst)), (.int .i64 ((pvL (bL (s.extract i.toNat (IntKind.i64.wrap (IntKind.i64.wrap (xi18 + (1 : Int)) + (1 : Int))).toNat))).snd.snd.fst)), (.string ((pvL (bL (s.extract i.toNat (IntKind.i64.wrap (IntKind.i64.wrap (xi18 + (1 : Int)) + (1 : Int))).toNat))).snd.snd.snd.fst)), (.int .i64 (i))]), (.int .i64 (IntKind.i64.wrap (IntKind.i64.wrap (xi18 + (1 : Int)) + (1 : Int))))]) : SV), ([] : Tab cE), 0))))
        else grd ((0 : Int) ≤ i ∧ i ≤ IntKind.i64.wrap (IntKind.i64.wrap (xi18 + (1 : Int)) + (1 : Int)) ∧ IntKind.i64.wrap (IntKind.i64.wrap (xi18 + (1 : Int)) + (1 : Int)) ≤ (s.size : Int)) (grd ((s.extract i.toNat (IntKind.i64.wrap (IntKind.i64.wrap (xi18 + 1) + 1)).toNat).data.toList.length ≤ 140737488351232) (bif ((pvL (bL (s.extract i.toNat (IntKind.i64.wrap (IntKind.i64.wrap (xi18 + (1 : Int)) + (1 : Int))).toNat))).snd.snd.snd.snd != (0 : Int)) then some ((.v (.tuple #[(.agg #[(.int .i64 ((0 : Int))), (.string ((ByteArray.mk #[]))), (.int .i64 ((0 : Int))), (.int .i64 ((0 : Int))), (.int .i64 ((0 : Int))), (.string ((ByteArray.mk #[]))), (.int .i64 ((0 : Int)))]), (.int .i64 (IntKind.i64.wrap (IntKind.i64.wrap (xi18 + (1 : Int)) + (1 : Int))))]) : SV), ([] : Tab cE), 0)
              else some ((.v (.tuple #[(.agg #[(.int .i64 ((3 : Int))), (.string (s.extract i.toNat (IntKind.i64.wrap (IntKind.i64.wrap (xi18 + (1 : Int)) + (1 : Int))).toNat)), (.int .i64 ((pvL (bL (s.extract i.toNat (IntKind.i64.wrap (IntKind.i64.wrap (xi18 + (1 : Int)) + (1 : Int))).toNat))).fst)), (.int .i64 ((pvL (bL (s.extract i.toNat (IntKind.i64.wrap (IntKind.i64.wrap (xi18 + (1 : Int)) + (1 : Int))).toNat))).snd.fst)), (.int .i64 ((pvL (bL (s.extract i.toNat (IntKind.i64.wrap (IntKind.i64.wrap (xi18 + (1 : Int)) + (1 : Int))).toNat))).snd.snd.fst)), (.string ((pvL (bL (s.extract i.toNat (IntKind.i64.wrap (IntKind.i64.wrap (xi18 + (1 : Int)) + (1 : Int))).toNat))).snd.snd.snd.fst)), (.int .i64 (i))]), (.int .i64 (IntKind.i64.wrap (IntKind.i64.wrap (xi18 + (1 : Int)) + (1 : Int))))]) : SV), ([] : Tab cE), 0))))
noncomputable def scP_l4 (s : ByteArray) (i : Int) (rec : scP_S → Option Rs) (xi27 : Int) : Option Rs :=
  grd ((0 : Int) ≤ i ∧ i ≤ xi27 ∧ xi27 ≤ (s.size : Int)) (grd ((s.extract i.toNat xi27.toNat).data.toList.length ≤ 140737488351232) (bif ((pvL (bL (s.extract i.toNat xi27.toNat))).snd.snd.snd.snd != (0 : Int)) then some ((.v (.tuple #[(.agg #[(.int .i64 ((0 : Int))), (.string ((ByteArray.mk #[]))), (.int .i64 ((0 : Int))), (.int .i64 ((0 : Int))), (.int .i64 ((0 : Int))), (.string ((ByteArray.mk #[]))), (.int .i64 ((0 : Int)))]), (.int .i64 (xi27))]) : SV), ([] : Tab cE), 0)
      else some ((.v (.tuple #[(.agg #[(.int .i64 ((3 : Int))), (.string (s.extract i.toNat xi27.toNat)), (.int .i64 ((pvL (bL (s.extract i.toNat xi27.toNat))).fst)), (.int .i64 ((pvL (bL (s.extract i.toNat xi27.toNat))).snd.fst)), (.int .i64 ((pvL (bL (s.extract i.toNat xi27.toNat))).snd.snd.fst)), (.string ((pvL (bL (s.extract i.toNat xi27.toNat))).snd.snd.snd.fst)), (.int .i64 (i))]), (.int .i64 (xi27))]) : SV), ([] : Tab cE), 0)))
noncomputable def scP (s : ByteArray) (i : Int) : Nat → scP_S → Option Rs
  | 0, _ => none
  | f + 1, .st => scP_st s i (fun q => scP s i f q)
  | f + 1, .l1 xi0 => scP_l1 s i (fun q => scP s i f q) xi0
  | f + 1, .l2 xi9 => scP_l2 s i (fun q => scP s i f q) xi9
  | f + 1, .l3 xi18 => scP_l3 s i (fun q => scP s i f q) xi18
  | f + 1, .l4 xi27 => scP_l4 s i (fun q => scP s i f q) xi27
theorem scP_st_fin (s : ByteArray) (i : Int) (rec : scP_S → Option Rs) (f : Nat) (ih : ∀ q r, rec q = some r → scP_Fin s i f r q) (r : Rs) (h : scP_st s i rec = some r) : scP_Fin s i (f + 1) r .st := by
  unfold scP_st at h
  show FinR _ _ _ _ _ _ _
  refine ogrd h (fun c1 h => ?_)
  refine obif h (fun c2 h => ?_) (fun c2 h => ?_)
  · exact sat (keep := [0, 1, 4, 6]) (by decide) [.n (f + 1), .e, .t, .t, .t, .l] (by kernel_rfl) (cj c1 (cj c2 (cj c2 (cj c2 cj0)))) (ih _ _ h (f) (by omega))
  · refine obif h (fun c3 h => ?_) (fun c3 h => ?_)
    · exact sat (keep := [0, 1, 4, 6]) (by decide) [.n (f + 1), .e, .f, .f, .f, .t] (by kernel_rfl) (cj c1 (cj c2 (cj c2 (cj c2 (cj c3 cj0))))) (ih _ _ h (f) (by omega))
    · refine obif h (fun c4 h => ?_) (fun c4 h => ?_)
      · exact sat (keep := [0, 1, 4, 6]) (by decide) [.n (f + 1), .e, .f, .f, .f, .f, .e, .t] (by kernel_rfl) (cj c1 (cj c2 (cj c2 (cj c2 (cj c3 (cj c4 cj0)))))) (ih _ _ h (f) (by omega))
      · refine obif h (fun c5 h => ?_) (fun c5 h => ?_)
        · exact sat (keep := [0, 1, 4, 6]) (by decide) [.n (f + 1), .e, .f, .f, .f, .f, .e, .f, .t] (by kernel_rfl) (cj c1 (cj c2 (cj c2 (cj c2 (cj c3 (cj c4 (cj c5 cj0))))))) (ih _ _ h (f) (by omega))
        · refine obif h (fun c6 h => ?_) (fun c6 h => ?_)
          · refine ogrd h (fun c7 h => ?_)
            refine ogrd h (fun c8 h => ?_)
            refine obif h (fun c9 h => ?_) (fun c9 h => ?_)
            · exact osome h (sfin (keep := []) (by decide) [.n (f + 1), .e, .f, .f, .f, .f, .e, .f, .f, .t, .t, .t, .t, .t, .t, .t, .c (.v (.bool (decide (idxFrom (s.extract i.toNat (IntKind.i64.wrap (i + 2)).toNat) [(ByteArray.mk #[60, 62]), (ByteArray.mk #[60, 61]), (ByteArray.mk #[62, 61])] 0 ≥ 0)))) [] 1, .t, .t] (by kernel_rfl) (cj c1 (cj c2 (cj c2 (cj c2 (cj c3 (cj c4 (cj c5 (cj c6 (cj c6 (cj c6 (cj c6 (cj c6 (cj c6 (cj c7 (cj c6 (cj (contains_does ([(ByteArray.mk #[(60 : UInt8), (62 : UInt8)]), (ByteArray.mk #[(60 : UInt8), (61 : UInt8)]), (ByteArray.mk #[(62 : UInt8), (61 : UInt8)])]) (s.extract i.toNat (IntKind.i64.wrap (i + (2 : Int))).toNat) (by assumption)) (cj c6 (cj c9 (cj c7 cj0))))))))))))))))))))
            · refine ogrd h (fun c10 h => ?_)
              refine obif h (fun c11 h => ?_) (fun c11 h => ?_)
              · refine ogrd h (fun c12 h => ?_)
                exact osome h (sfin (keep := []) (by decide) [.n (f + 1), .e, .f, .f, .f, .f, .e, .f, .f, .t, .t, .t, .t, .t, .t, .t, .c (.v (.bool (decide (idxFrom (s.extract i.toNat (IntKind.i64.wrap (i + 2)).toNat) [(ByteArray.mk #[60, 62]), (ByteArray.mk #[60, 61]), (ByteArray.mk #[62, 61])] 0 ≥ 0)))) [] 1, .t, .f, .c (.v (.int .i64 (Go.Lib.indexByte (bL (ByteArray.mk #[40, 41, 44, 46, 59, 42, 43, 45, 47, 37, 61, 60, 62])) (UInt8.ofNat ((((s.data.toList.getD i.toNat 0).toNat : Nat) : Int)).toNat)))) [] 0, .t] (by kernel_rfl) (cj c1 (cj c2 (cj c2 (cj c2 (cj c3 (cj c4 (cj c5 (cj c6 (cj c6 (cj c6 (cj c6 (cj c6 (cj c6 (cj c7 (cj c6 (cj (contains_does ([(ByteArray.mk #[(60 : UInt8), (62 : UInt8)]), (ByteArray.mk #[(60 : UInt8), (61 : UInt8)]), (ByteArray.mk #[(62 : UInt8), (61 : UInt8)])]) (s.extract i.toNat (IntKind.i64.wrap (i + (2 : Int))).toNat) (by assumption)) (cj c6 (cj c9 (cj (ixb_does ((ByteArray.mk #[(40 : UInt8), (41 : UInt8), (44 : UInt8), (46 : UInt8), (59 : UInt8), (42 : UInt8), (43 : UInt8), (45 : UInt8), (47 : UInt8), (37 : UInt8), (61 : UInt8), (60 : UInt8), (62 : UInt8)])) ((((s.data.toList.getD i.toNat (0 : UInt8)).toNat : Nat) : Int)) (by assumption)) (cj c11 (cj c12 cj0))))))))))))))))))))))
              · exact osome h (sfin (keep := []) (by decide) [.n (f + 1), .e, .f, .f, .f, .f, .e, .f, .f, .t, .t, .t, .t, .t, .t, .t, .c (.v (.bool (decide (idxFrom (s.extract i.toNat (IntKind.i64.wrap (i + 2)).toNat) [(ByteArray.mk #[60, 62]), (ByteArray.mk #[60, 61]), (ByteArray.mk #[62, 61])] 0 ≥ 0)))) [] 1, .t, .f, .c (.v (.int .i64 (Go.Lib.indexByte (bL (ByteArray.mk #[40, 41, 44, 46, 59, 42, 43, 45, 47, 37, 61, 60, 62])) (UInt8.ofNat ((((s.data.toList.getD i.toNat 0).toNat : Nat) : Int)).toNat)))) [] 0, .f] (by kernel_rfl) (cj c1 (cj c2 (cj c2 (cj c2 (cj c3 (cj c4 (cj c5 (cj c6 (cj c6 (cj c6 (cj c6 (cj c6 (cj c6 (cj c7 (cj c6 (cj (contains_does ([(ByteArray.mk #[(60 : UInt8), (62 : UInt8)]), (ByteArray.mk #[(60 : UInt8), (61 : UInt8)]), (ByteArray.mk #[(62 : UInt8), (61 : UInt8)])]) (s.extract i.toNat (IntKind.i64.wrap (i + (2 : Int))).toNat) (by assumption)) (cj c6 (cj c9 (cj (ixb_does ((ByteArray.mk #[(40 : UInt8), (41 : UInt8), (44 : UInt8), (46 : UInt8), (59 : UInt8), (42 : UInt8), (43 : UInt8), (45 : UInt8), (47 : UInt8), (37 : UInt8), (61 : UInt8), (60 : UInt8), (62 : UInt8)])) ((((s.data.toList.getD i.toNat (0 : UInt8)).toNat : Nat) : Int)) (by assumption)) (cj c11 cj0)))))))))))))))))))))
          · refine ogrd h (fun c13 h => ?_)
            refine obif h (fun c14 h => ?_) (fun c14 h => ?_)
            · refine ogrd h (fun c15 h => ?_)
              exact osome h (sfin (keep := []) (by decide) [.n (f + 1), .e, .f, .f, .f, .f, .e, .f, .f, .f, .f, .f, .f, .f, .f, .f, .f, .l, .c (.v (.int .i64 (Go.Lib.indexByte (bL (ByteArray.mk #[40, 41, 44, 46, 59, 42, 43, 45, 47, 37, 61, 60, 62])) (UInt8.ofNat ((((s.data.toList.getD i.toNat 0).toNat : Nat) : Int)).toNat)))) [] 0, .t] (by kernel_rfl) (cj c1 (cj c2 (cj c2 (cj c2 (cj c3 (cj c4 (cj c5 (cj c6 (cj c6 (cj c6 (cj c6 (cj c6 (cj c6 (cj c6 (cj c6 (cj (ixb_does ((ByteArray.mk #[(40 : UInt8), (41 : UInt8), (44 : UInt8), (46 : UInt8), (59 : UInt8), (42 : UInt8), (43 : UInt8), (45 : UInt8), (47 : UInt8), (37 : UInt8), (61 : UInt8), (60 : UInt8), (62 : UInt8)])) ((((s.data.toList.getD i.toNat (0 : UInt8)).toNat : Nat) : Int)) (by assumption)) (cj c14 (cj c15 cj0)))))))))))))))))))
            · exact osome h (sfin (keep := []) (by decide) [.n (f + 1), .e, .f, .f, .f, .f, .e, .f, .f, .f, .f, .f, .f, .f, .f, .f, .f, .l, .c (.v (.int .i64 (Go.Lib.indexByte (bL (ByteArray.mk #[40, 41, 44, 46, 59, 42, 43, 45, 47, 37, 61, 60, 62])) (UInt8.ofNat ((((s.data.toList.getD i.toNat 0).toNat : Nat) : Int)).toNat)))) [] 0, .f] (by kernel_rfl) (cj c1 (cj c2 (cj c2 (cj c2 (cj c3 (cj c4 (cj c5 (cj c6 (cj c6 (cj c6 (cj c6 (cj c6 (cj c6 (cj c6 (cj c6 (cj (ixb_does ((ByteArray.mk #[(40 : UInt8), (41 : UInt8), (44 : UInt8), (46 : UInt8), (59 : UInt8), (42 : UInt8), (43 : UInt8), (45 : UInt8), (47 : UInt8), (37 : UInt8), (61 : UInt8), (60 : UInt8), (62 : UInt8)])) ((((s.data.toList.getD i.toNat (0 : UInt8)).toNat : Nat) : Int)) (by assumption)) (cj c14 cj0))))))))))))))))))
theorem scP_l1_fin (s : ByteArray) (i : Int) (rec : scP_S → Option Rs) (f : Nat) (ih : ∀ q r, rec q = some r → scP_Fin s i f r q) (xi0 : Int) (r : Rs) (h : scP_l1 s i rec xi0 = some r) : scP_Fin s i (f + 1) r (.l1 xi0) := by
  unfold scP_l1 at h
  intro m0 m0h
  obtain ⟨m0, rfl⟩ : ∃ k, m0 = k + 1 := ⟨m0 - 1, by omega⟩
  refine obif h (fun c1 h => ?_) (fun c1 h => ?_)
  · refine ogrd h (fun c2 h => ?_)
    refine obif h (fun c3 h => ?_) (fun c3 h => ?_)
    · exact sat (keep := [0, 1, 4, 6]) (by decide) [.l, .t, .t, .t, .t, .e, .t, .t, .t, .t, .l, .l, .l, .l, .t, .l, .t, .l] (by kernel_rfl) (cj c1 (cj c1 (cj c1 (cj c2 (cj c1 (cj c3 (cj c3 (cj c3 (cj c1 (cj c1 (cj c1 cj0))))))))))) (ih _ _ h (m0) (by omega))
    · refine obif h (fun c4 h => ?_) (fun c4 h => ?_)
      · exact sat (keep := [0, 1, 4, 6]) (by decide) [.l, .t, .t, .t, .t, .e, .f, .f, .f, .t, .t, .t, .t, .t, .t, .t, .t, .l] (by kernel_rfl) (cj c1 (cj c1 (cj c1 (cj c2 (cj c1 (cj c3 (cj c3 (cj c3 (cj c1 (cj c4 (cj c4 (cj c4 (cj c4 (cj c1 (cj c4 (cj c1 cj0)))))))))))))))) (ih _ _ h (m0) (by omega))
      · refine obif h (fun c5 h => ?_) (fun c5 h => ?_)
        · exact sat (keep := [0, 1, 4, 6]) (by decide) [.l, .t, .t, .t, .t, .e, .f, .f, .f, .t, .f, .f, .f, .f, .e, .t, .f, .t, .t] (by kernel_rfl) (cj c1 (cj c1 (cj c1 (cj c2 (cj c1 (cj c3 (cj c3 (cj c3 (cj c1 (cj c4 (cj c4 (cj c4 (cj c2 (cj c4 (cj c1 (cj c4 (cj c1 (cj c5 cj0)))))))))))))))))) (ih _ _ h (m0) (by omega))
        · refine ogrd h (fun c6 h => ?_)
          refine ogrd h (fun c7 h => ?_)
          refine obif h (fun c8 h => ?_) (fun c8 h => ?_)
          · exact osome h (sfin (keep := []) (by decide) [.l, .t, .t, .t, .t, .e, .f, .f, .f, .t, .f, .f, .f, .f, .e, .t, .f, .t, .f, .c (.v (.bool (wordL (bL (s.extract i.toNat (IntKind.i64.wrap (xi0 + 1)).toNat))))) [] 0, .t] (by kernel_rfl) (cj c1 (cj c1 (cj c1 (cj c2 (cj c1 (cj c3 (cj c3 (cj c3 (cj c1 (cj c4 (cj c4 (cj c4 (cj c2 (cj c4 (cj c1 (cj c4 (cj c1 (cj c5 (cj c6 (cj (word_does (s.extract i.toNat (IntKind.i64.wrap (xi0 + (1 : Int))).toNat) (by assumption)) (cj c8 cj0))))))))))))))))))))))
          · exact osome h (sfin (keep := []) (by decide) [.l, .t, .t, .t, .t, .e, .f, .f, .f, .t, .f, .f, .f, .f, .e, .t, .f, .t, .f, .c (.v (.bool (wordL (bL (s.extract i.toNat (IntKind.i64.wrap (xi0 + 1)).toNat))))) [] 0, .f] (by kernel_rfl) (cj c1 (cj c1 (cj c1 (cj c2 (cj c1 (cj c3 (cj c3 (cj c3 (cj c1 (cj c4 (cj c4 (cj c4 (cj c2 (cj c4 (cj c1 (cj c4 (cj c1 (cj c5 (cj c6 (cj (word_does (s.extract i.toNat (IntKind.i64.wrap (xi0 + (1 : Int))).toNat) (by assumption)) (cj c8 (cj c6 cj0)))))))))))))))))))))))
  · refine ogrd h (fun c9 h => ?_)
    refine ogrd h (fun c10 h => ?_)
    refine obif h (fun c11 h => ?_) (fun c11 h => ?_)
    · exact osome h (sfin (keep := []) (by decide) [.l, .f, .f, .f, .f, .f, .f, .f, .l, .c (.v (.bool (wordL (bL (s.extract i.toNat (IntKind.i64.wrap (xi0 + 1)).toNat))))) [] 0, .t] (by kernel_rfl) (cj c1 (cj c1 (cj c1 (cj c1 (cj c1 (cj c1 (cj c1 (cj c9 (cj (word_does (s.extract i.toNat (IntKind.i64.wrap (xi0 + (1 : Int))).toNat) (by assumption)) (cj c11 cj0)))))))))))
    · exact osome h (sfin (keep := []) (by decide) [.l, .f, .f, .f, .f, .f, .f, .f, .l, .c (.v (.bool (wordL (bL (s.extract i.toNat (IntKind.i64.wrap (xi0 + 1)).toNat))))) [] 0, .f] (by kernel_rfl) (cj c1 (cj c1 (cj c1 (cj c1 (cj c1 (cj c1 (cj c1 (cj c9 (cj (word_does (s.extract i.toNat (IntKind.i64.wrap (xi0 + (1 : Int))).toNat) (by assumption)) (cj c11 (cj c9 cj0))))))))))))
theorem scP_l2_fin (s : ByteArray) (i : Int) (rec : scP_S → Option Rs) (f : Nat) (ih : ∀ q r, rec q = some r → scP_Fin s i f r q) (xi9 : Int) (r : Rs) (h : scP_l2 s i rec xi9 = some r) : scP_Fin s i (f + 1) r (.l2 xi9) := by
  unfold scP_l2 at h
  intro m0 m0h
  obtain ⟨m0, rfl⟩ : ∃ k, m0 = k + 1 := ⟨m0 - 1, by omega⟩
  refine obif h (fun c1 h => ?_) (fun c1 h => ?_)
  · refine ogrd h (fun c2 h => ?_)
    refine obif h (fun c3 h => ?_) (fun c3 h => ?_)
    · exact sat (keep := [0, 1, 4, 6]) (by decide) [.l, .t, .t, .t, .t, .e, .t, .t, .t, .t, .t, .t, .t, .t, .t, .t, .l] (by kernel_rfl) (cj c1 (cj c1 (cj c1 (cj c2 (cj c1 (cj c1 (cj c3 (cj c3 (cj c3 (cj c3 (cj c3 (cj c3 (cj c1 (cj c3 (cj c1 cj0))))))))))))))) (ih _ _ h (m0) (by omega))
    · refine obif h (fun c4 h => ?_) (fun c4 h => ?_)
      · refine ogrd h (fun c5 h => ?_)
        refine obif h (fun c6 h => ?_) (fun c6 h => ?_)
        · exact sat (keep := [0, 1, 4, 6]) (by decide) [.l, .t, .t, .t, .t, .e, .t, .f, .f, .f, .f, .f, .t, .t, .t, .t, .t, .c (.v (.bool (decide (0 ≤ Go.Lib.indexByte (bL (s.extract i.toNat (IntKind.i64.wrap (xi9 + 1)).toNat)) 46)))) [] 0, .t, .f, .t, .t, .f, .t, .t] (by kernel_rfl) (cj c1 (cj c1 (cj c1 (cj c2 (cj c1 (cj c1 (cj c3 (cj c3 (cj c3 (cj c2 (cj c3 (cj c3 (cj c4 (cj c4 (cj c4 (cj c4 (cj c5 (cj c4 (cj (cont46_does (s.extract i.toNat (IntKind.i64.wrap (xi9 + (1 : Int))).toNat).data.toList) (cj c4 (cj c3 (cj c4 (cj c1 (cj c3 (cj c1 (cj c6 cj0)))))))))))))))))))))))))) (ih _ _ h (m0) (by omega))
        · exact sat (keep := [0, 1, 4, 6]) (by decide) [.l, .t, .t, .t, .t, .e, .t, .f, .f, .f, .f, .f, .t, .t, .t, .t, .t, .c (.v (.bool (decide (0 ≤ Go.Lib.indexByte (bL (s.extract i.toNat (IntKind.i64.wrap (xi9 + 1)).toNat)) 46)))) [] 0, .t, .f, .t, .t, .f, .t, .f] (by kernel_rfl) (cj c1 (cj c1 (cj c1 (cj c2 (cj c1 (cj c1 (cj c3 (cj c3 (cj c3 (cj c2 (cj c3 (cj c3 (cj c4 (cj c4 (cj c4 (cj c4 (cj c5 (cj c4 (cj (cont46_does (s.extract i.toNat (IntKind.i64.wrap (xi9 + (1 : Int))).toNat).data.toList) (cj c4 (cj c3 (cj c4 (cj c1 (cj c3 (cj c1 (cj c6 cj0)))))))))))))))))))))))))) (ih _ _ h (m0) (by omega))
      · exact sat (keep := [0, 1, 4, 6]) (by decide) [.l, .t, .t, .t, .t, .e, .t, .f, .f, .f, .f, .f, .f, .f, .f, .f, .f, .f, .f, .f, .t, .f, .t, .l] (by kernel_rfl) (cj c1 (cj c1 (cj c1 (cj c2 (cj c1 (cj c1 (cj c3 (cj c3 (cj c3 (cj c2 (cj c3 (cj c3 (cj c4 (cj c4 (cj c4 (cj c4 (cj c4 (cj c4 (cj c3 (cj c4 (cj c1 (cj c3 (cj c1 cj0))))))))))))))))))))))) (ih _ _ h (m0) (by omega))
  · exact sat (keep := [0, 1, 4, 6]) (by decide) [.l, .f, .f, .f, .f, .f, .f, .f, .l] (by kernel_rfl) (cj c1 (cj c1 (cj c1 (cj c1 (cj c1 (cj c1 (cj c1 cj0))))))) (ih _ _ h (m0) (by omega))
theorem scP_l3_fin (s : ByteArray) (i : Int) (rec : scP_S → Option Rs) (f : Nat) (ih : ∀ q r, rec q = some r → scP_Fin s i f r q) (xi18 : Int) (r : Rs) (h : scP_l3 s i rec xi18 = some r) : scP_Fin s i (f + 1) r (.l3 xi18) := by
  unfold scP_l3 at h
  intro m0 m0h
  obtain ⟨m0, rfl⟩ : ∃ k, m0 = k + 1 := ⟨m0 - 1, by omega⟩
  refine obif h (fun c1 h => ?_) (fun c1 h => ?_)
  · exact osome h (sfin (keep := []) (by decide) [.l, .t] (by kernel_rfl) (cj c1 cj0))
  · refine ogrd h (fun c2 h => ?_)
    refine obif h (fun c3 h => ?_) (fun c3 h => ?_)
    · exact sat (keep := [0, 1, 4, 6]) (by decide) [.l, .f, .t] (by kernel_rfl) (cj c1 (cj c2 (cj c3 cj0))) (ih _ _ h (m0) (by omega))
    · refine obif h (fun c4 h => ?_) (fun c4 h => ?_)
      · refine ogrd h (fun c5 h => ?_)
        refine obif h (fun c6 h => ?_) (fun c6 h => ?_)
        · exact sat (keep := [0, 1, 4, 6]) (by decide) [.l, .f, .f, .t, .t, .t, .t, .t, .t] (by kernel_rfl) (cj c1 (cj c2 (cj c3 (cj c4 (cj c4 (cj c4 (cj c5 (cj c4 (cj c4 (cj c6 cj0)))))))))) (ih _ _ h (m0) (by omega))
        · refine ogrd h (fun c7 h => ?_)
          refine ogrd h (fun c8 h => ?_)
          refine obif h (fun c9 h => ?_) (fun c9 h => ?_)
          · exact osome h (sfin (keep := []) (by decide) [.l, .f, .f, .t, .t, .t, .t, .t, .f, .c (.v (.tuple #[(.agg #[(.int .i64 ((pvL (bL (s.extract i.toNat (IntKind.i64.wrap (IntKind.i64.wrap (xi18 + 1) + 1)).toNat))).fst)), (.int .i64 ((pvL (bL (s.extract i.toNat (IntKind.i64.wrap (IntKind.i64.wrap (xi18 + 1) + 1)).toNat))).snd.fst)), (.int .i64 ((pvL (bL (s.extract i.toNat (IntKind.i64.wrap (IntKind.i64.wrap (xi18 + 1) + 1)).toNat))).snd.snd.fst)), (.string ((pvL (bL (s.extract i.toNat (IntKind.i64.wrap (IntKind.i64.wrap (xi18 + 1) + 1)).toNat))).snd.snd.snd.fst))]), (.int .i64 ((pvL (bL (s.extract i.toNat (IntKind.i64.wrap (IntKind.i64.wrap (xi18 + 1) + 1)).toNat))).snd.snd.snd.snd))])) [] 0, .t] (by kernel_rfl) (cj c1 (cj c2 (cj c3 (cj c4 (cj c4 (cj c4 (cj c5 (cj c4 (cj c4 (cj c6 (cj c7 (cj (parse4_does (s.extract i.toNat (IntKind.i64.wrap (IntKind.i64.wrap (xi18 + (1 : Int)) + (1 : Int))).toNat).data.toList (by assumption)) (cj c9 cj0))))))))))))))
          · exact osome h (sfin (keep := []) (by decide) [.l, .f, .f, .t, .t, .t, .t, .t, .f, .c (.v (.tuple #[(.agg #[(.int .i64 ((pvL (bL (s.extract i.toNat (IntKind.i64.wrap (IntKind.i64.wrap (xi18 + 1) + 1)).toNat))).fst)), (.int .i64 ((pvL (bL (s.extract i.toNat (IntKind.i64.wrap (IntKind.i64.wrap (xi18 + 1) + 1)).toNat))).snd.fst)), (.int .i64 ((pvL (bL (s.extract i.toNat (IntKind.i64.wrap (IntKind.i64.wrap (xi18 + 1) + 1)).toNat))).snd.snd.fst)), (.string ((pvL (bL (s.extract i.toNat (IntKind.i64.wrap (IntKind.i64.wrap (xi18 + 1) + 1)).toNat))).snd.snd.snd.fst))]), (.int .i64 ((pvL (bL (s.extract i.toNat (IntKind.i64.wrap (IntKind.i64.wrap (xi18 + 1) + 1)).toNat))).snd.snd.snd.snd))])) [] 0, .f] (by kernel_rfl) (cj c1 (cj c2 (cj c3 (cj c4 (cj c4 (cj c4 (cj c5 (cj c4 (cj c4 (cj c6 (cj c7 (cj (parse4_does (s.extract i.toNat (IntKind.i64.wrap (IntKind.i64.wrap (xi18 + (1 : Int)) + (1 : Int))).toNat).data.toList (by assumption)) (cj c9 (cj c7 cj0)))))))))))))))
      · refine ogrd h (fun c10 h => ?_)
        refine ogrd h (fun c11 h => ?_)
        refine obif h (fun c12 h => ?_) (fun c12 h => ?_)
        · exact osome h (sfin (keep := []) (by decide) [.l, .f, .f, .f, .f, .f, .f, .f, .l, .c (.v (.tuple #[(.agg #[(.int .i64 ((pvL (bL (s.extract i.toNat (IntKind.i64.wrap (IntKind.i64.wrap (xi18 + 1) + 1)).toNat))).fst)), (.int .i64 ((pvL (bL (s.extract i.toNat (IntKind.i64.wrap (IntKind.i64.wrap (xi18 + 1) + 1)).toNat))).snd.fst)), (.int .i64 ((pvL (bL (s.extract i.toNat (IntKind.i64.wrap (IntKind.i64.wrap (xi18 + 1) + 1)).toNat))).snd.snd.fst)), (.string ((pvL (bL (s.extract i.toNat (IntKind.i64.wrap (IntKind.i64.wrap (xi18 + 1) + 1)).toNat))).snd.snd.snd.fst))]), (.int .i64 ((pvL (bL (s.extract i.toNat (IntKind.i64.wrap (IntKind.i64.wrap (xi18 + 1) + 1)).toNat))).snd.snd.snd.snd))])) [] 0, .t] (by kernel_rfl) (cj c1 (cj c2 (cj c3 (cj c4 (cj c4 (cj c4 (cj c4 (cj c4 (cj c10 (cj (parse4_does (s.extract i.toNat (IntKind.i64.wrap (IntKind.i64.wrap (xi18 + (1 : Int)) + (1 : Int))).toNat).data.toList (by assumption)) (cj c12 cj0))))))))))))
        · exact osome h (sfin (keep := []) (by decide) [.l, .f, .f, .f, .f, .f, .f, .f, .l, .c (.v (.tuple #[(.agg #[(.int .i64 ((pvL (bL (s.extract i.toNat (IntKind.i64.wrap (IntKind.i64.wrap (xi18 + 1) + 1)).toNat))).fst)), (.int .i64 ((pvL (bL (s.extract i.toNat (IntKind.i64.wrap (IntKind.i64.wrap (xi18 + 1) + 1)).toNat))).snd.fst)), (.int .i64 ((pvL (bL (s.extract i.toNat (IntKind.i64.wrap (IntKind.i64.wrap (xi18 + 1) + 1)).toNat))).snd.snd.fst)), (.string ((pvL (bL (s.extract i.toNat (IntKind.i64.wrap (IntKind.i64.wrap (xi18 + 1) + 1)).toNat))).snd.snd.snd.fst))]), (.int .i64 ((pvL (bL (s.extract i.toNat (IntKind.i64.wrap (IntKind.i64.wrap (xi18 + 1) + 1)).toNat))).snd.snd.snd.snd))])) [] 0, .f] (by kernel_rfl) (cj c1 (cj c2 (cj c3 (cj c4 (cj c4 (cj c4 (cj c4 (cj c4 (cj c10 (cj (parse4_does (s.extract i.toNat (IntKind.i64.wrap (IntKind.i64.wrap (xi18 + (1 : Int)) + (1 : Int))).toNat).data.toList (by assumption)) (cj c12 (cj c10 cj0)))))))))))))
theorem scP_l4_fin (s : ByteArray) (i : Int) (rec : scP_S → Option Rs) (f : Nat) (ih : ∀ q r, rec q = some r → scP_Fin s i f r q) (xi27 : Int) (r : Rs) (h : scP_l4 s i rec xi27 = some r) : scP_Fin s i (f + 1) r (.l4 xi27) := by
  unfold scP_l4 at h
  intro m0 m0h
  obtain ⟨m0, rfl⟩ : ∃ k, m0 = k + 1 := ⟨m0 - 1, by omega⟩
  refine ogrd h (fun c1 h => ?_)
  refine ogrd h (fun c2 h => ?_)
  refine obif h (fun c3 h => ?_) (fun c3 h => ?_)
  · exact osome h (sfin (keep := []) (by decide) [.l, .c (.v (.tuple #[(.agg #[(.int .i64 ((pvL (bL (s.extract i.toNat xi27.toNat))).fst)), (.int .i64 ((pvL (bL (s.extract i.toNat xi27.toNat))).snd.fst)), (.int .i64 ((pvL (bL (s.extract i.toNat xi27.toNat))).snd.snd.fst)), (.string ((pvL (bL (s.extract i.toNat xi27.toNat))).snd.snd.snd.fst))]), (.int .i64 ((pvL (bL (s.extract i.toNat xi27.toNat))).snd.snd.snd.snd))])) [] 0, .t] (by kernel_rfl) (cj c1 (cj (parse4_does (s.extract i.toNat xi27.toNat).data.toList (by assumption)) (cj c3 cj0))))
  · exact osome h (sfin (keep := []) (by decide) [.l, .c (.v (.tuple #[(.agg #[(.int .i64 ((pvL (bL (s.extract i.toNat xi27.toNat))).fst)), (.int .i64 ((pvL (bL (s.extract i.toNat xi27.toNat))).snd.fst)), (.int .i64 ((pvL (bL (s.extract i.toNat xi27.toNat))).snd.snd.fst)), (.string ((pvL (bL (s.extract i.toNat xi27.toNat))).snd.snd.snd.fst))]), (.int .i64 ((pvL (bL (s.extract i.toNat xi27.toNat))).snd.snd.snd.snd))])) [] 0, .f] (by kernel_rfl) (cj c1 (cj (parse4_does (s.extract i.toNat xi27.toNat).data.toList (by assumption)) (cj c3 (cj c1 cj0)))))
theorem scP_ok (s : ByteArray) (i : Int) : ∀ f q r, scP s i f q = some r → scP_Fin s i f r q := by
  intro f
  induction f with
  | zero => intro q r h; cases h
  | succ f ih =>
    intro q r h
    cases q with
    | st => exact scP_st_fin s i _ f ih r h
    | l1 xi0 => exact scP_l1_fin s i _ f ih xi0 r h
    | l2 xi9 => exact scP_l2_fin s i _ f ih xi9 r h
    | l3 xi18 => exact scP_l3_fin s i _ f ih xi18 r h
    | l4 xi27 => exact scP_l4_fin s i _ f ih xi27 r h
theorem scP_does (s : ByteArray) (i : Int) (k : Nat) {r : Rs} (h : scP s i k .st = some r) : Does cE 61 [] 0 [.v (st s), .v (it i)] r.1 r.2.1 r.2.2 :=
  does_of_fin (fn := Tryz.f61) (c := bd Tryz.f61) rfl (by kernel_rfl) rfl (scP_ok s i k .st r h)
end Go.Proofs.YtpfignfgfhbblaaGreatDoorC
/- lexer.scan: what it comes to. -/
namespace Go.Proofs.YtpfignfgfhbblaaGreatDoorC
open Go.Proofs Go.Proofs.YtpfignfgfhbblaaGreatDoorSx Go.Lib
set_option maxRecDepth 100000
set_option linter.unusedVariables false
theorem letP (c : UInt8) : decide (IntKind.u8.wrap (((c.toNat : Nat) : Int) - 97) < 26) = (decide (97 ≤ c.toNat) && decide (c.toNat ≤ 122)) := by
  have h := u8_sub c 97 26 (by decide) (by decide)
  refine h.trans ?_
  have h122 : decide (c.toNat < 97 + 26) = decide (c.toNat ≤ 122) := decide_eq_decide.2 (by omega)
  rw [h122]
theorem digP (c : UInt8) : decide (IntKind.u8.wrap (((c.toNat : Nat) : Int) - 48) < 10) = digB c := by
  have h := u8_sub c 48 10 (by decide) (by decide)
  refine h.trans ?_
  have h122 : decide (c.toNat < 48 + 10) = decide (c.toNat ≤ 57) := decide_eq_decide.2 (by omega)
  rw [h122]
  rfl
theorem b95 (c : UInt8) : (((c.toNat : Nat) : Int) == 95) = (c == 95) := cI_eq c 95
/-- From one place to another. -/
abbrev cutL (L : List UInt8) (a b : Nat) : List UInt8 := (L.drop a).take (b - a)
theorem ext_at (L : List UInt8) (a b : Nat) : (oL L).extract ((a : Int)).toNat ((b : Int)).toNat = oL (cutL L a b) := by
  rw [oL_ext]
  rfl
theorem cut_len (L : List UInt8) (a b : Nat) : (cutL L a b).length ≤ L.length := by
  rw [List.length_take, List.length_drop]
  omega
theorem wm {n : Nat} (h : n ≤ 140737488355328) : IntKind.i64.wrap (((n : Nat) : Int) - 1 + 1) = ((n : Nat) : Int) := (wrap64 (by omega) (by omega)).trans (by omega)
abbrev noTk (E : Int) : Rs := (.v (.tuple #[tkS 0 bE zV 0, it E]), [], 0)
def wrdS (L : List UInt8) (a E : Nat) : Rs := bif !wordL (cutL L a E) then noTk E else (.v (.tuple #[tkS 1 (oL (cutL L a E)) zV a, it E]), [], 0)
def litS (L : List UInt8) (a E : Nat) : Rs := bif (pvL (cutL L a E)).2.2.2.2 != 0 then noTk E else (.v (.tuple #[tkS 3 (oL (cutL L a E)) (pv4 (cutL L a E)) a, it E]), [], 0)
theorem wrd_fin (L : List UInt8) (a E : Nat) (ha : a ≤ E) (hE : E ≤ L.length) (hl : L.length ≤ 140737488351232) :
    grd ((0 : Int) ≤ (a : Int) ∧ (a : Int) ≤ (E : Int) ∧ (E : Int) ≤ ((oL L).size : Int)) (grd (((oL L).extract ((a : Int)).toNat ((E : Int)).toNat).size ≤ 140737488351232) (bif (!wordL (bL ((oL L).extract ((a : Int)).toNat ((E : Int)).toNat))) then some ((.v (.tuple #[(.agg #[(.int .i64 0), (.string (ByteArray.mk #[])), (.int .i64 0), (.int .i64 0), (.int .i64 0), (.string (ByteArray.mk #[])), (.int .i64 0)]), (.int .i64 (E : Int))]) : SV), ([] : Tab cE), 0)
      else some ((.v (.tuple #[(.agg #[(.int .i64 1), (.string ((oL L).extract ((a : Int)).toNat ((E : Int)).toNat)), (.int .i64 0), (.int .i64 0), (.int .i64 0), (.string (ByteArray.mk #[])), (.int .i64 (a : Int))]), (.int .i64 (E : Int))]) : SV), ([] : Tab cE), 0))) = some (wrdS L a E) := by
  have hc := cut_len L a E
  rw [ext_at]
  refine gp (by rw [oL_size]; omega) (gp (by rw [oL_size]; omega) ?_)
  rw [show bL (oL (cutL L a E)) = cutL L a E from oL_data _]
  unfold wrdS
  cases (!wordL (cutL L a E)) <;> rfl
theorem lit_fin (L : List UInt8) (a E : Nat) (ha : a ≤ E) (hE : E ≤ L.length) (hl : L.length ≤ 140737488351232) :
    grd ((0 : Int) ≤ (a : Int) ∧ (a : Int) ≤ (E : Int) ∧ (E : Int) ≤ ((oL L).size : Int)) (grd (((oL L).extract ((a : Int)).toNat ((E : Int)).toNat).data.toList.length ≤ 140737488351232) (bif ((pvL (bL ((oL L).extract ((a : Int)).toNat ((E : Int)).toNat))).2.2.2.2 != 0) then some ((.v (.tuple #[(.agg #[(.int .i64 0), (.string (ByteArray.mk #[])), (.int .i64 0), (.int .i64 0), (.int .i64 0), (.string (ByteArray.mk #[])), (.int .i64 0)]), (.int .i64 (E : Int))]) : SV), ([] : Tab cE), 0)
      else some ((.v (.tuple #[(.agg #[(.int .i64 3), (.string ((oL L).extract ((a : Int)).toNat ((E : Int)).toNat)), (.int .i64 ((pvL (bL ((oL L).extract ((a : Int)).toNat ((E : Int)).toNat))).1)), (.int .i64 ((pvL (bL ((oL L).extract ((a : Int)).toNat ((E : Int)).toNat))).2.1)), (.int .i64 ((pvL (bL ((oL L).extract ((a : Int)).toNat ((E : Int)).toNat))).2.2.1)), (.string ((pvL (bL ((oL L).extract ((a : Int)).toNat ((E : Int)).toNat))).2.2.2.1)), (.int .i64 (a : Int))]), (.int .i64 (E : Int))]) : SV), ([] : Tab cE), 0))) = some (litS L a E) := by
  have hc := cut_len L a E
  rw [ext_at]
  refine gp (by rw [oL_size]; omega) (gp (by rw [oL_data]; omega) ?_)
  rw [show bL (oL (cutL L a E)) = cutL L a E from oL_data _]
  unfold litS
  cases ((pvL (cutL L a E)).2.2.2.2 != 0) <;> rfl
theorem scW_loop (a : Nat) : ∀ (r P : List UInt8) (f : Nat), r.length + 1 ≤ f → a ≤ P.length → P.length + r.length ≤ 140737488351232 →
    scP (oL (P ++ r)) (a : Int) f (.l1 ((P.length : Int) - 1)) = some (wrdS (P ++ r) a (P.length + (r.takeWhile wrdB).length))
  | [], P, f, hf, ha, hs => by
    obtain ⟨f, rfl⟩ : ∃ k, f = k + 1 := ⟨f - 1, by omega⟩
    simp only [List.length_nil] at hs
    show scP_l1 _ _ _ _ = _
    unfold scP_l1
    rw [wm (by omega)]
    refine bf (decide_eq_false (by rw [oL_size]; simp)) ?_
    exact wrd_fin (P ++ []) a P.length ha (by simp) (by simp; omega)
  | c :: r, P, f, hf, ha, hs => by
    simp only [List.length_cons] at hf hs
    obtain ⟨f, rfl⟩ : ∃ k, f = k + 1 := ⟨f - 1, by omega⟩
    show scP_l1 _ _ _ _ = _
    unfold scP_l1
    have hz : ((oL (P ++ c :: r)).size : Int) = P.length + r.length + 1 := by rw [oL_size]; simp; omega
    have ih := scW_loop a r (P ++ [c]) f (by omega) (by simp; omega) (by simp; omega)
    have e1 : P ++ [c] ++ r = P ++ c :: r := by simp
    have e2 : (((P ++ [c]).length : Nat) : Int) - 1 = (P.length : Int) := by simp
    have e3 : (P ++ [c]).length = P.length + 1 := by simp
    rw [e1, e2, e3] at ih
    rw [wm (by omega)]
    refine bt (decide_eq_true (by omega)) (gp (by omega) ?_)
    have hf := wrd_fin (P ++ c :: r) a P.length ha (by simp) (by simp; omega)
    rw [hf, getD_of, letP, digP, b95, List.takeWhile_cons]
    have hl : letB c = (decide (97 ≤ c.toNat) && decide (c.toNat ≤ 122) || c == 95) := rfl
    have hw : wrdB c = (letB c || digB c) := rfl
    have ih' : (fun q => scP (oL (P ++ c :: r)) (a : Int) f q) (.l1 (P.length : Int)) = some (wrdS (P ++ c :: r) a (P.length + 1 + (r.takeWhile wrdB).length)) := ih
    rw [ih', hw, hl]
    cases (decide (97 ≤ c.toNat) && decide (c.toNat ≤ 122)) <;> cases (c == 95) <;> cases digB c <;> first
      | rfl
      | exact congrArg (fun n => some (wrdS (P ++ c :: r) a n)) (by simp; omega)
theorem scL_fin (L : List UInt8) (a E f : Nat) (ha : a ≤ E) (hE : E ≤ L.length) (hl : L.length ≤ 140737488351232) : scP (oL L) (a : Int) (f + 1) (.l4 (E : Int)) = some (litS L a E) := by
  show scP_l4 _ _ _ _ = _
  unfold scP_l4
  exact lit_fin L a E ha hE hl
/-- Is there a dot among the signs from a place on? -/
abbrev dotB (L : List UInt8) : Bool := decide (0 ≤ Lib.indexByte L 46)
theorem dot_iff (l : List UInt8) : dotB l = decide (46 ∈ l) := by
  by_cases h : (46 : UInt8) ∈ l
  · rw [decide_eq_true h]
    exact decide_eq_true (index_yes h)
  · rw [decide_eq_false h]
    exact decide_eq_false (by rw [index_no h]; decide)
theorem dot_snoc (l : List UInt8) (c : UInt8) : dotB (l ++ [c]) = (dotB l || c == 46) := by
  rw [dot_iff, dot_iff]
  by_cases h1 : (46 : UInt8) ∈ l
  · rw [decide_eq_true h1, decide_eq_true (List.mem_append_left _ h1)]
    rfl
  · rw [decide_eq_false h1]
    by_cases h2 : c = 46
    · subst h2
      rw [decide_eq_true (List.mem_append_right _ List.mem_cons_self)]
      rfl
    · rw [beq_eq_false_iff_ne.2 h2]
      refine decide_eq_false (fun h => ?_)
      rcases List.mem_append.1 h with h | h
      · exact h1 h
      · exact h2 (List.mem_singleton.1 h).symm
theorem scN_loop (a : Nat) : ∀ (r P : List UInt8) (f : Nat), r.length + 2 ≤ f → a ≤ P.length → P.length + r.length ≤ 140737488351232 →
    scP (oL (P ++ r)) (a : Int) f (.l2 ((P.length : Int) - 1)) = some (litS (P ++ r) a (P.length + numN (dotB (P.drop a)) r))
  | [], P, f, hf, ha, hs => by
    obtain ⟨f, rfl⟩ : ∃ k, f = k + 2 := ⟨f - 2, by omega⟩
    simp only [List.length_nil] at hs
    show scP_l2 _ _ _ _ = _
    unfold scP_l2
    rw [wm (by omega)]
    refine bf (decide_eq_false (by rw [oL_size]; simp)) ?_
    exact scL_fin (P ++ []) a P.length f ha (by simp) (by simp; omega)
  | c :: r, P, f, hf, ha, hs => by
    simp only [List.length_cons] at hf hs
    obtain ⟨f, rfl⟩ : ∃ k, f = k + 2 := ⟨f - 2, by omega⟩
    show scP_l2 _ _ _ _ = _
    unfold scP_l2
    have hz : ((oL (P ++ c :: r)).size : Int) = P.length + r.length + 1 := by rw [oL_size]; simp; omega
    have ih := scN_loop a r (P ++ [c]) (f + 1) (by omega) (by simp; omega) (by simp; omega)
    have e1 : P ++ [c] ++ r = P ++ c :: r := by simp
    have e2 : (((P ++ [c]).length : Nat) : Int) - 1 = (P.length : Int) := by simp
    have e3 : (P ++ [c]).length = P.length + 1 := by simp
    have e4 : (P ++ [c]).drop a = P.drop a ++ [c] := by
      rw [List.drop_append]
      have : a - P.length = 0 := by omega
      rw [this]
      rfl
    rw [e1, e2, e3, e4, dot_snoc] at ih
    rw [wm (by omega)]
    have hL := scL_fin (P ++ c :: r) a P.length f ha (by simp) (by simp; omega)
    have ec : cutL (P ++ c :: r) a P.length = P.drop a := by
      show ((P ++ c :: r).drop a).take (P.length - a) = _
      rw [List.drop_append_of_le_length ha, List.take_append_of_le_length (by rw [List.length_drop]; exact Nat.le_refl _)]
      exact List.take_of_length_le (by rw [List.length_drop]; exact Nat.le_refl _)
    refine bt (decide_eq_true (by omega)) (gp (by omega) ?_)
    rw [getD_of, digP, b46, ext_at, ec, show bL (oL (P.drop a)) = P.drop a from oL_data _]
    have ih' : (fun q => scP (oL (P ++ c :: r)) (a : Int) (f + 1) q) (.l2 (P.length : Int)) = some (litS (P ++ c :: r) a (P.length + 1 + numN (dotB (P.drop a) || c == 46) r)) := ih
    have hL' : (fun q => scP (oL (P ++ c :: r)) (a : Int) (f + 1) q) (.l4 (P.length : Int)) = some (litS (P ++ c :: r) a P.length) := hL
    rw [ih', hL']
    have en : numN (dotB (P.drop a)) (c :: r) = bif digB c then numN (dotB (P.drop a)) r + 1 else bif c == 46 && !dotB (P.drop a) then numN true r + 1 else 0 := by rw [numN]
    rw [en]
    cases hd : digB c with
    | true =>
      have h46 : (c == 46) = false := beq_eq_false_iff_ne.2 (fun e => by rw [e] at hd; revert hd; decide)
      rw [h46, Bool.or_false]
      exact congrArg (fun n => some (litS (P ++ c :: r) a n)) (by show _ = P.length + (numN (dotB (P.drop a)) r + 1); omega)
    | false =>
      cases h46 : (c == 46) with
      | false => rfl
      | true =>
        refine bf rfl (bt rfl (gp (by omega) ?_))
        show (bif !dotB (P.drop a) then _ else _) = _
        cases hb : dotB (P.drop a) with
        | true => rfl
        | false => exact congrArg (fun n => some (litS (P ++ c :: r) a n)) (by show _ = P.length + (numN true r + 1); simp only [Bool.or_true]; omega)
def txtS (L : List UInt8) (a P : Nat) (r : List UInt8) : Rs := match quoN r with
  | some k => litS L a (P + k)
  | none => noTk ((P + r.length : Nat) : Int)
theorem scT_loop (a : Nat) : ∀ (n : Nat) (r P : List UInt8) (f : Nat), r.length ≤ n → r.length + 1 ≤ f → a ≤ P.length → P.length + r.length ≤ 140737488351232 →
    scP (oL (P ++ r)) (a : Int) f (.l3 ((P.length : Int) - 1)) = some (txtS (P ++ r) a P.length r) := by
  intro n
  induction n with
  | zero =>
    intro r P f hn hf ha hs
    have e := List.eq_nil_of_length_eq_zero (Nat.le_zero.1 hn)
    subst e
    obtain ⟨f, rfl⟩ : ∃ k, f = k + 1 := ⟨f - 1, by omega⟩
    simp only [List.length_nil] at hs
    show scP_l3 _ _ _ _ = _
    unfold scP_l3
    rw [wm (by omega)]
    exact bt (decide_eq_true (by rw [oL_size]; simp)) rfl
  | succ n ih =>
    intro r P f hn hf ha hs
    obtain ⟨f, rfl⟩ : ∃ k, f = k + 1 := ⟨f - 1, by omega⟩
    show scP_l3 _ _ _ _ = _
    unfold scP_l3
    rw [wm (by omega)]
    cases r with
    | nil => exact bt (decide_eq_true (by rw [oL_size]; simp)) rfl
    | cons c r =>
      simp only [List.length_cons] at hn hf hs
      have hz : ((oL (P ++ c :: r)).size : Int) = P.length + r.length + 1 := by rw [oL_size]; simp; omega
      refine bf (decide_eq_false (by omega)) (gp (by omega) ?_)
      rw [getD_of, w1 (by omega)]
      cases hc : (c == 39) with
      | false =>
        refine bt (by rw [bne, b39, hc]; rfl) ?_
        have h := ih r (P ++ [c]) f (by omega) (by omega) (by simp; omega) (by simp; omega)
        have e1 : P ++ [c] ++ r = P ++ c :: r := by simp
        have e2 : (((P ++ [c]).length : Nat) : Int) - 1 = (P.length : Int) := by simp
        have e3 : (P ++ [c]).length = P.length + 1 := by simp
        rw [e1, e2, e3] at h
        refine Eq.trans h ?_
        unfold txtS
        have e4 : quoN (c :: r) = (quoN r).map (· + 1) := by
          rw [quoN.eq_def]
          simp only [hc, cond_false]
        rw [e4]
        cases quoN r with
        | none => exact congrArg (fun z : Int => some (noTk z)) (by rw [List.length_cons]; omega)
        | some k => exact congrArg (fun n => some (litS (P ++ c :: r) a n)) (by show P.length + 1 + k = P.length + (k + 1); omega)
      | true =>
        have ec : c = 39 := eq_of_beq hc
        subst ec
        refine bf rfl ?_
        cases r with
        | nil =>
          refine bf (decide_eq_false (by simp at hz; omega)) ?_
          exact lit_fin (P ++ [39]) a (P.length + 1) (by omega) (by simp) (by simp at hs ⊢; omega)
        | cons d r =>
          simp only [List.length_cons] at hn hf hs hz
          refine bt (decide_eq_true (by omega)) (gp (by omega) ?_)
          have ed2 : (oL (P ++ 39 :: d :: r)).data.toList.getD (((P.length + 1 : Nat) : Int)).toNat 0 = d := by
            have e1 : P ++ 39 :: d :: r = (P ++ [39]) ++ d :: r := by simp
            have e2 : P.length + 1 = (P ++ [39]).length := by simp
            rw [e1, e2]
            exact getD_of (P ++ [39]) r d
          rw [ed2]
          cases hd : (d == 39) with
          | true =>
            have ed : d = 39 := eq_of_beq hd
            subst ed
            refine bt rfl ?_
            have h := ih r (P ++ [39, 39]) f (by omega) (by omega) (by simp; omega) (by simp; omega)
            have e1 : P ++ [39, 39] ++ r = P ++ 39 :: 39 :: r := by simp
            have e2 : (((P ++ [39, 39]).length : Nat) : Int) - 1 = ((P.length + 1 : Nat) : Int) := by simp; omega
            have e3 : (P ++ [39, 39]).length = P.length + 2 := by simp
            rw [e1, e2, e3] at h
            refine Eq.trans h ?_
            unfold txtS
            have e4 : quoN (39 :: 39 :: r) = (quoN r).map (· + 2) := by rw [quoN]; rfl
            rw [e4]
            cases quoN r with
            | none => exact congrArg (fun z : Int => some (noTk z)) (by rw [List.length_cons, List.length_cons]; omega)
            | some k => exact congrArg (fun n => some (litS (P ++ 39 :: 39 :: r) a n)) (by show P.length + 2 + k = P.length + (k + 2); omega)
          | false =>
            refine bf (by rw [b39, hd]) ?_
            have e4 : quoN (39 :: d :: r) = some 1 := by
              rw [quoN.eq_def]
              show (bif d == 39 then _ else _) = _
              rw [hd]
              rfl
            unfold txtS
            rw [e4]
            exact lit_fin (P ++ 39 :: d :: r) a (P.length + 1) (by omega) (by simp) (by simp; omega)
end Go.Proofs.YtpfignfgfhbblaaGreatDoorC
/- lexer.scan, whole. -/
namespace Go.Proofs.YtpfignfgfhbblaaGreatDoorC
open Go.Proofs Go.Proofs.YtpfignfgfhbblaaGreatDoorSx Go.Lib
set_option maxRecDepth 100000
set_option linter.unusedVariables false
def scK (l : List UInt8) : Int := bif (oneR l).2.2.2 then (((oneR l).1 : Nat) : Int) else 0
def scX (l : List UInt8) : ByteArray := bif (oneR l).2.2.2 then oL (l.take (oneR l).2.1) else bE
def sc4 (l : List UInt8) : V4 := bif (oneR l).2.2.2 then (oneR l).2.2.1 else zV
def scA (l : List UInt8) (a : Int) : Int := bif (oneR l).2.2.2 then a else 0
abbrev scRs (l : List UInt8) (a : Nat) : Rs := (.v (.tuple #[tkS (scK l) (scX l) (sc4 l) (scA l a), it ((a + scE l : Nat) : Int)]), [], 0)
theorem scRs_of {l : List UInt8} {a k n : Nat} {v : V4} {b : Bool} (h : oneR l = (k, n, v, b)) {E : Nat} (hE : scE l = E) : scRs l a = bif b then (.v (.tuple #[tkS k (oL (l.take n)) v a, it ((a + E : Nat) : Int)]), [], 0) else noTk ((a + E : Nat) : Int) := by
  unfold scRs scK scX sc4 scA
  rw [h, hE]
  cases b <;> rfl
theorem cut_of (p l : List UInt8) (n : Nat) : cutL (p ++ l) p.length (p.length + n) = l.take n := by
  show ((p ++ l).drop p.length).take (p.length + n - p.length) = _
  rw [List.drop_left, Nat.add_sub_cancel_left]
theorem scE_eq (c : UInt8) (r : List UInt8) : scE (c :: r) = bif letB c then (r.takeWhile wrdB).length + 1
    else bif digB c then numN false (c :: r)
    else bif c == 39 then (match quoN r with
      | some k => k + 1
      | none => r.length + 1)
    else (signL (c :: r)).toNat := rfl
theorem ix_con (c : UInt8) : decide (Lib.indexByte signs1 c ≥ 0) = signs1.contains c := by
  by_cases h : c ∈ signs1
  · rw [List.contains_iff_mem.2 h]
    exact decide_eq_true (index_yes h)
  · have e : signs1.contains c = false := by
      cases hc : signs1.contains c with
      | false => rfl
      | true => exact absurd (List.contains_iff_mem.1 hc) h
    rw [e]
    exact decide_eq_false (by rw [index_no h]; decide)
theorem sg_one (p r : List UInt8) (c : UInt8) (hs : p.length + r.length + 1 ≤ 140737488351232) :
    grd (0 ≤ (((c.toNat : Nat) : Int)) ∧ (((c.toNat : Nat) : Int)) < 256) (bif (decide (Lib.indexByte (bL (ByteArray.mk #[40, 41, 44, 46, 59, 42, 43, 45, 47, 37, 61, 60, 62])) (UInt8.ofNat (((c.toNat : Nat) : Int)).toNat) ≥ (0 : Int))) then grd ((0 : Int) ≤ (p.length : Int) ∧ (p.length : Int) ≤ IntKind.i64.wrap ((p.length : Int) + 1) ∧ IntKind.i64.wrap ((p.length : Int) + 1) ≤ ((oL (p ++ c :: r)).size : Int)) (some ((.v (.tuple #[(.agg #[(.int .i64 2), (.string ((oL (p ++ c :: r)).extract ((p.length : Int)).toNat (IntKind.i64.wrap ((p.length : Int) + 1)).toNat)), (.int .i64 0), (.int .i64 0), (.int .i64 0), (.string (ByteArray.mk #[])), (.int .i64 (p.length : Int))]), (.int .i64 (IntKind.i64.wrap ((p.length : Int) + 1)))]) : SV), ([] : Tab cE), 0))
      else some ((.v (.tuple #[(.agg #[(.int .i64 0), (.string (ByteArray.mk #[])), (.int .i64 0), (.int .i64 0), (.int .i64 0), (.string (ByteArray.mk #[])), (.int .i64 0)]), (.int .i64 (p.length : Int))]) : SV), ([] : Tab cE), 0)) =
    some (bif signs1.contains c then (.v (.tuple #[tkS 2 (oL [c]) zV p.length, it ((p.length + 1 : Nat) : Int)]), [], 0) else noTk ((p.length + 0 : Nat) : Int)) := by
  have hc := c.toNat_lt
  have hz : ((oL (p ++ c :: r)).size : Int) = p.length + r.length + 1 := by rw [oL_size]; simp; omega
  have e1 : UInt8.ofNat (((c.toNat : Nat) : Int)).toNat = c := by
    rw [Int.toNat_natCast]
    exact UInt8.ofNat_toNat
  refine gp (by omega) ?_
  rw [e1, w1 (by omega), ext_at]
  have e2 : cutL (p ++ c :: r) p.length (p.length + 1) = [c] := by rw [cut_of]; rfl
  rw [e2]
  show (bif decide (Lib.indexByte signs1 c ≥ 0) then _ else _) = _
  rw [ix_con]
  cases signs1.contains c with
  | true => exact bt rfl (gp (by omega) rfl)
  | false => exact bf rfl rfl
theorem idx3 (x b1 b2 b3 : ByteArray) : decide (idxFrom x [b1, b2, b3] 0 ≥ 0) = (x.toList == b1.toList || (x.toList == b2.toList || x.toList == b3.toList)) := by
  show decide ((bif x.toList == b1.toList then (((0 : Nat) : Int)) else bif x.toList == b2.toList then (((0 + 1 : Nat) : Int)) else bif x.toList == b3.toList then (((0 + 1 + 1 : Nat) : Int)) else -1) ≥ 0) = _
  cases (x.toList == b1.toList) <;> cases (x.toList == b2.toList) <;> cases (x.toList == b3.toList) <;> rfl
theorem two_or (x y : Bool) {α : Type} (W Z : α) : (bif x then W else bif y then W else Z) = bif x || y then W else Z := by
  cases x <;> cases y <;> rfl
theorem scP_eq (p r : List UInt8) (c : UInt8) (f : Nat) (hf : r.length + 3 ≤ f) (hs : p.length + r.length + 1 ≤ 140737488351232) : scP (oL (p ++ c :: r)) (p.length : Int) (f + 1) .st = some (scRs (c :: r) p.length) := by
  have hz : ((oL (p ++ c :: r)).size : Int) = p.length + r.length + 1 := by rw [oL_size]; simp; omega
  have e1 : p ++ [c] ++ r = p ++ c :: r := by simp
  have e2 : (((p ++ [c]).length : Nat) : Int) - 1 = (p.length : Int) := by simp
  have e3 : (p ++ [c]).length = p.length + 1 := by simp
  have hW := scW_loop p.length r (p ++ [c]) f (by omega) (by simp) (by simp; omega)
  have hN := scN_loop p.length r (p ++ [c]) f (by omega) (by simp) (by simp; omega)
  have hT := scT_loop p.length r.length r (p ++ [c]) f (Nat.le_refl _) (by omega) (by simp) (by simp; omega)
  have ed : (p ++ [c]).drop p.length = [c] := List.drop_left
  rw [e1, e2, e3] at hW hN hT
  rw [ed] at hN
  show scP_st _ _ _ = _
  unfold scP_st
  refine gp (by omega) ?_
  rw [getD_of, letP, b95, digP, b39, two_or]
  have hl : letB c = (decide (97 ≤ c.toNat) && decide (c.toNat ≤ 122) || c == 95) := rfl
  rw [← hl]
  have ho := oneR_eq c r
  have he := scE_eq c r
  cases h1 : letB c with
  | true =>
    rw [h1] at ho he
    refine bt rfl (hW.trans ?_)
    rw [scRs_of ho he]
    unfold wrdS
    have e4 : p.length + 1 + (r.takeWhile wrdB).length = p.length + ((r.takeWhile wrdB).length + 1) := by omega
    rw [e4, cut_of]
    have e5 : wordL ((c :: r).take ((r.takeWhile wrdB).length + 1)) = decide ((r.takeWhile wrdB).length + 1 ≤ 32) := by
      rw [List.take_succ_cons, take_tw]
      have e4 : wordL (c :: r.takeWhile wrdB) = (letB c && ((r.takeWhile wrdB).all wrdB && decide ((r.takeWhile wrdB).length + 1 ≤ 32))) := rfl
      rw [e4, h1, tw_all]
      rfl
    rw [e5]
    cases decide ((r.takeWhile wrdB).length + 1 ≤ 32) <;> rfl
  | false =>
  rw [h1] at ho he
  refine bf rfl ?_
  cases h2 : digB c with
  | true =>
    rw [h2] at ho he
    refine bt rfl (hN.trans ?_)
    rw [scRs_of ho he]
    have h46 : dotB [c] = false := by
      rw [dot_iff]
      refine decide_eq_false (fun h => ?_)
      have e := List.mem_singleton.1 h
      rw [← e] at h2
      revert h2
      decide
    have en : numN false (c :: r) = numN false r + 1 := by
      rw [numN, h2]
      rfl
    have e4 : p.length + 1 + numN (dotB [c]) r = p.length + numN false (c :: r) := by rw [h46, en]; omega
    rw [e4]
    unfold litS
    rw [cut_of]
    unfold pvOk
    cases hz : ((pvL ((c :: r).take (numN false (c :: r)))).2.2.2.2 == 0) with
    | true => rw [bne, hz]; rfl
    | false => rw [bne, hz]; rfl
  | false =>
  rw [h2] at ho he
  refine bf rfl ?_
  cases h3 : (c == 39) with
  | true =>
    rw [h3] at ho he
    refine bt rfl (hT.trans ?_)
    unfold txtS
    cases hq : quoN r with
    | none =>
      rw [hq] at he
      rw [scRs_of ho he]
      have hk : quoK r = 0 := by unfold quoK; rw [hq]
      have ep : pvOk ((c :: r).take (quoK r)) = false := by rw [hk]; rfl
      rw [ep]
      exact congrArg (fun z : Int => some (noTk z)) (by show (((p.length + 1) + r.length : Nat) : Int) = ((p.length + (r.length + 1) : Nat) : Int); omega)
    | some k =>
      rw [hq] at he
      rw [scRs_of ho he]
      have hk : quoK r = k + 1 := by unfold quoK; rw [hq]
      rw [hk]
      show some (litS (p ++ c :: r) p.length (p.length + 1 + k)) = _
      have e4 : p.length + 1 + k = p.length + (k + 1) := by omega
      rw [e4]
      unfold litS
      rw [cut_of]
      unfold pvOk
      cases hz : ((pvL ((c :: r).take (k + 1))).2.2.2.2 == 0) with
      | true => rw [bne, hz]; rfl
      | false => rw [bne, hz]; rfl
  | false =>
  rw [h3] at ho he
  have h3' : (bif false then (match quoN r with | some k => k + 1 | none => r.length + 1) else (signL (c :: r)).toNat) = (signL (c :: r)).toNat := rfl
  refine bf rfl ?_
  have hg := sg_one p r c hs
  rw [hg, scRs_of ho he]
  have es : signL (c :: r) = bif ((c == 60 && r.head? == some 62) || ((c == 60 && r.head? == some 61) || (c == 62 && r.head? == some 61))) then 2 else bif signs1.contains c then 1 else 0 := rfl
  cases r with
  | nil =>
    refine bf (decide_eq_false (by rw [wrap64 (by omega) (by omega)]; simp at hz; omega)) ?_
    have e0 : ((c == 60 && ([] : List UInt8).head? == some 62) || ((c == 60 && ([] : List UInt8).head? == some 61) || (c == 62 && ([] : List UInt8).head? == some 61))) = false := by
      show ((c == 60 && false) || ((c == 60 && false) || (c == 62 && false))) = false
      cases (c == 60) <;> cases (c == 62) <;> rfl
    rw [e0] at es
    rw [es]
    cases signs1.contains c <;> rfl
  | cons d r =>
    simp only [List.length_cons] at hz hs
    have w2 : IntKind.i64.wrap ((p.length : Int) + 2) = ((p.length + 2 : Nat) : Int) := (wrap64 (by omega) (by omega)).trans (by omega)
    refine bt (decide_eq_true (by rw [wrap64 (by omega) (by omega)]; omega)) (gp (by rw [w2]; omega) (gp (by decide) ?_))
    rw [w2, ext_at, cut_of, idx3, oL_toList]
    have l1 : (ByteArray.mk #[60, 62]).toList = [60, 62] := oL_toList _
    have l2 : (ByteArray.mk #[60, 61]).toList = [60, 61] := oL_toList _
    have l3 : (ByteArray.mk #[62, 61]).toList = [62, 61] := oL_toList _
    rw [l1, l2, l3]
    show (bif ([c, d] == [60, 62] || ([c, d] == [60, 61] || [c, d] == [62, 61])) then _ else _) = _
    rw [two_beq, two_beq, two_beq]
    have e0 : ((c == 60 && (d :: r).head? == some 62) || ((c == 60 && (d :: r).head? == some 61) || (c == 62 && (d :: r).head? == some 61))) = ((c == 60 && d == 62) || ((c == 60 && d == 61) || (c == 62 && d == 61))) := rfl
    rw [e0] at es
    rw [es]
    cases ((c == 60 && d == 62) || ((c == 60 && d == 61) || (c == 62 && d == 61))) with
    | true => rfl
    | false => cases signs1.contains c <;> rfl
theorem scan_does (s : ByteArray) (i : Int) (hs : s.size ≤ 140737488351232) (hi : 0 ≤ i ∧ i < (s.size : Int)) : Does cE 61 [] 0 [.v (st s), .v (it i)] (.v (.tuple #[tkS (scK ((bL s).drop i.toNat)) (scX ((bL s).drop i.toNat)) (sc4 ((bL s).drop i.toNat)) (scA ((bL s).drop i.toNat) i), it (i + (scE ((bL s).drop i.toNat) : Nat))])) [] 0 := by
  obtain ⟨l, rfl⟩ : ∃ l, s = oL l := ⟨_, oL_of s⟩
  rw [oL_size] at hs hi
  have eb : bL (oL l) = l := oL_data l
  rw [eb]
  obtain ⟨a, rfl⟩ : ∃ a : Nat, i = a := ⟨i.toNat, by omega⟩
  have ha : a < l.length := by omega
  have e0 : ((a : Int)).toNat = a := rfl
  rw [e0]
  have hd : l.drop a = l[a] :: l.drop (a + 1) := List.drop_eq_getElem_cons ha
  have hl : l = l.take a ++ (l[a] :: l.drop (a + 1)) := by rw [← hd, List.take_append_drop]
  have hp : (l.take a).length = a := by rw [List.length_take]; omega
  have hr : (l.drop (a + 1)).length = l.length - (a + 1) := List.length_drop
  have h := scP_eq (l.take a) (l.drop (a + 1)) l[a] (l.length + 4) (by omega) (by omega)
  rw [← hl, hp] at h
  rw [hd]
  refine Does.of (scP_does (oL l) (a : Int) (l.length + 4 + 1) (r := scRs (l[a] :: l.drop (a + 1)) a) h) ?_
  show _ = ((SV.v (.tuple #[_, it ((a : Int) + (scE _ : Nat))])), _, _)
  rw [show (a : Int) + ((scE (l[a] :: l.drop (a + 1)) : Nat) : Int) = ((a + scE (l[a] :: l.drop (a + 1)) : Nat) : Int) from by omega]
end Go.Proofs.YtpfignfgfhbblaaGreatDoorC
/- lexer.Split, walked. Printed by a program (wip/tools); Lean checks each. -/
namespace Go.Proofs.YtpfignfgfhbblaaGreatDoorC
open Go.Proofs Go.Proofs.YtpfignfgfhbblaaGreatDoorSx Go.Lib
set_option maxRecDepth 100000
set_option maxHeartbeats 4000000
set_option linter.unusedVariables false
inductive spP_S where
  | st
  | l1 (xi1 : Int) (xl2 : List (Int × ByteArray × (Int × Int × Int × ByteArray) × Int))
noncomputable def spP_K1 : List It := stackAt [1, 1, 1, 0, 1, 0] (bd Tryz.f20) [] []
def spP_Fin (s : ByteArray) (f : Nat) (r : Rs) : spP_S → Prop
  | .st => FinR Tryz.f20 0 r [.code (bd Tryz.f20)] (argsS [.v (st s)] Tryz.f20.ntmps) [] 0
  | .l1 xi1 xl2 => ∀ m0 : Nat, f ≤ m0 → FinR Tryz.f20 0 r (bodyK (spP_K1) m0) ([.v (.string (s)), .na, .na, .na, .o 0, .v (.int .i64 (xi1))] ++ List.replicate 31 .na) [(0, .own 45 (xl2))] 1
noncomputable def spP_st (s : ByteArray) (rec : spP_S → Option Rs) : Option Rs :=
  bif (decide ((s.size : Int) > (4096 : Int))) then some ((.v (.tuple #[(.slice (none) ((0 : Nat)) ((0 : Nat))), (.int .i64 ((6 : Int)))]) : SV), ([] : Tab cE), 0)
  else rec (.l1 ((0 : Int)) ([]))
noncomputable def spP_l1 (s : ByteArray) (rec : spP_S → Option Rs) (xi1 : Int) (xl2 : List (Int × ByteArray × (Int × Int × Int × ByteArray) × Int)) : Option Rs :=
  bif (decide (xi1 < (s.size : Int))) then grd ((0 : Int) ≤ xi1 ∧ xi1 < (s.size : Int)) (grd (0 ≤ ((((s.data.toList.getD xi1.toNat 0).toNat : Nat) : Int)) ∧ ((((s.data.toList.getD xi1.toNat 0).toNat : Nat) : Int)) < 256) (bif (decide (Go.Lib.indexByte (bL (ByteArray.mk #[(32 : UInt8), (9 : UInt8), (10 : UInt8)])) (UInt8.ofNat ((((s.data.toList.getD xi1.toNat (0 : UInt8)).toNat : Nat) : Int)).toNat) ≥ (0 : Int))) then rec (.l1 (IntKind.i64.wrap (xi1 + (1 : Int))) (xl2))
        else grd ((s).size ≤ 140737488351232) (grd (0 ≤ (xi1) ∧ (xi1) < ((s).size : Int)) (bif (scK (List.drop xi1.toNat (bL s)) == (0 : Int)) then some ((.v (.tuple #[(.slice (none) ((0 : Nat)) ((0 : Nat))), (.int .i64 ((30 : Int)))]) : SV), ([] : Tab cE), 0)
              else grd (Room (xl2.length + [(scK (List.drop xi1.toNat (bL s)), scX (List.drop xi1.toNat (bL s)), ((sc4 (List.drop xi1.toNat (bL s))).fst, (sc4 (List.drop xi1.toNat (bL s))).snd.fst, (sc4 (List.drop xi1.toNat (bL s))).snd.snd.fst, (sc4 (List.drop xi1.toNat (bL s))).snd.snd.snd), scA (List.drop xi1.toNat (bL s)) xi1)].length) (72 : Nat)) (rec (.l1 (xi1 + (((scE (List.drop xi1.toNat (bL s))) : Nat) : Int)) (xl2 ++ [(scK (List.drop xi1.toNat (bL s)), scX (List.drop xi1.toNat (bL s)), ((sc4 (List.drop xi1.toNat (bL s))).fst, (sc4 (List.drop xi1.toNat (bL s))).snd.fst, (sc4 (List.drop xi1.toNat (bL s))).snd.snd.fst, (sc4 (List.drop xi1.toNat (bL s))).snd.snd.snd), scA (List.drop xi1.toNat (bL s)) xi1)])))))))
  else some ((.t [.o 0, .v (.int .i64 ((0 : Int)))] : SV), ([(0, .own 45 (xl2))] : Tab cE), 1)
noncomputable def spP (s : ByteArray) : Nat → spP_S → Option Rs
  | 0, _ => none
  | f + 1, .st => spP_st s (fun q => spP s f q)
  | f + 1, .l1 xi1 xl2 => spP_l1 s (fun q => spP s f q) xi1 xl2
theorem spP_st_fin (s : ByteArray) (rec : spP_S → Option Rs) (f : Nat) (ih : ∀ q r, rec q = some r → spP_Fin s f r q) (r : Rs) (h : spP_st s rec = some r) : spP_Fin s (f + 1) r .st := by
  unfold spP_st at h
  show FinR _ _ _ _ _ _ _
  refine obif h (fun c1 h => ?_) (fun c1 h => ?_)
  · exact osome h (sfin (keep := []) (by decide) [.t] (by kernel_rfl) (cj c1 cj0))
  · exact sat (keep := [0, 4, 5]) (by decide) [.f] (by kernel_rfl) (cj c1 cj0) (fin_nil (K0 := 0) (n := 0) (s := ([.v (.string (s)), .na, .na, .na, .v (.slice (none) ((0 : Nat)) ((0 : Nat))), .v (.int .i64 ((0 : Int)))] ++ List.replicate 31 .na)) (b := []) (i := 4) (e := 45) (by decide) rfl (fin_ren (by kernel_rfl) (fin_loop (f + 1) (fin_round (ih _ _ h f (by omega))))))
theorem spP_l1_fin (s : ByteArray) (rec : spP_S → Option Rs) (f : Nat) (ih : ∀ q r, rec q = some r → spP_Fin s f r q) (xi1 : Int) (xl2 : List (Int × ByteArray × (Int × Int × Int × ByteArray) × Int)) (r : Rs) (h : spP_l1 s rec xi1 xl2 = some r) : spP_Fin s (f + 1) r (.l1 xi1 xl2) := by
  unfold spP_l1 at h
  intro m0 m0h
  obtain ⟨m0, rfl⟩ : ∃ k, m0 = k + 1 := ⟨m0 - 1, by omega⟩
  refine obif h (fun c1 h => ?_) (fun c1 h => ?_)
  · refine ogrd h (fun c2 h => ?_)
    refine ogrd h (fun c3 h => ?_)
    refine obif h (fun c4 h => ?_) (fun c4 h => ?_)
    · exact sat (keep := [0, 4, 5]) (by decide) [.t, .c (.v (.int .i64 (Go.Lib.indexByte (bL (ByteArray.mk #[32, 9, 10])) (UInt8.ofNat ((((s.data.toList.getD xi1.toNat 0).toNat : Nat) : Int)).toNat)))) [] 0, .t] (by kernel_rfl) (cj c1 (cj c2 (cj (ixb_does ((ByteArray.mk #[(32 : UInt8), (9 : UInt8), (10 : UInt8)])) ((((s.data.toList.getD xi1.toNat (0 : UInt8)).toNat : Nat) : Int)) (by assumption)) (cj c4 cj0)))) (fin_round (ih _ _ h (m0) (by omega)))
    · refine ogrd h (fun c5 h => ?_)
      refine ogrd h (fun c6 h => ?_)
      refine obif h (fun c7 h => ?_) (fun c7 h => ?_)
      · exact osome h (sfin (keep := []) (by decide) [.t, .c (.v (.int .i64 (Go.Lib.indexByte (bL (ByteArray.mk #[32, 9, 10])) (UInt8.ofNat ((((s.data.toList.getD xi1.toNat 0).toNat : Nat) : Int)).toNat)))) [] 0, .f, .c (.v (.tuple #[(.agg #[(.int .i64 (scK (List.drop xi1.toNat (bL s)))), (.string (scX (List.drop xi1.toNat (bL s)))), (.int .i64 ((sc4 (List.drop xi1.toNat (bL s))).fst)), (.int .i64 ((sc4 (List.drop xi1.toNat (bL s))).snd.fst)), (.int .i64 ((sc4 (List.drop xi1.toNat (bL s))).snd.snd.fst)), (.string ((sc4 (List.drop xi1.toNat (bL s))).snd.snd.snd)), (.int .i64 (scA (List.drop xi1.toNat (bL s)) xi1))]), (.int .i64 (xi1 + (((scE (List.drop xi1.toNat (bL s))) : Nat) : Int)))])) [] 0, .t] (by kernel_rfl) (cj c1 (cj c2 (cj (ixb_does ((ByteArray.mk #[(32 : UInt8), (9 : UInt8), (10 : UInt8)])) ((((s.data.toList.getD xi1.toNat (0 : UInt8)).toNat : Nat) : Int)) (by assumption)) (cj c4 (cj (scan_does (s) (xi1) (by assumption) (by assumption)) (cj c7 cj0)))))))
      · refine ogrd h (fun c8 h => ?_)
        exact sat (keep := [0, 4, 5]) (by decide) [.t, .c (.v (.int .i64 (Go.Lib.indexByte (bL (ByteArray.mk #[32, 9, 10])) (UInt8.ofNat ((((s.data.toList.getD xi1.toNat 0).toNat : Nat) : Int)).toNat)))) [] 0, .f, .c (.v (.tuple #[(.agg #[(.int .i64 (scK (List.drop xi1.toNat (bL s)))), (.string (scX (List.drop xi1.toNat (bL s)))), (.int .i64 ((sc4 (List.drop xi1.toNat (bL s))).fst)), (.int .i64 ((sc4 (List.drop xi1.toNat (bL s))).snd.fst)), (.int .i64 ((sc4 (List.drop xi1.toNat (bL s))).snd.snd.fst)), (.string ((sc4 (List.drop xi1.toNat (bL s))).snd.snd.snd)), (.int .i64 (scA (List.drop xi1.toNat (bL s)) xi1))]), (.int .i64 (xi1 + (((scE (List.drop xi1.toNat (bL s))) : Nat) : Int)))])) [] 0, .f] (by kernel_rfl) (cj c1 (cj c2 (cj (ixb_does ((ByteArray.mk #[(32 : UInt8), (9 : UInt8), (10 : UInt8)])) ((((s.data.toList.getD xi1.toNat (0 : UInt8)).toNat : Nat) : Int)) (by assumption)) (cj c4 (cj (scan_does (s) (xi1) (by assumption) (by assumption)) (cj c7 (cj c8 cj0))))))) (fin_round (ih _ _ h (m0) (by omega)))
  · exact osome h (sfin (keep := []) (by decide) [.f] (by kernel_rfl) (cj c1 cj0))
theorem spP_ok (s : ByteArray) : ∀ f q r, spP s f q = some r → spP_Fin s f r q := by
  intro f
  induction f with
  | zero => intro q r h; cases h
  | succ f ih =>
    intro q r h
    cases q with
    | st => exact spP_st_fin s _ f ih r h
    | l1 xi1 xl2 => exact spP_l1_fin s _ f ih xi1 xl2 r h
theorem spP_does (s : ByteArray) (k : Nat) {r : Rs} (h : spP s k .st = some r) : Does cE 20 [] 0 [.v (st s)] r.1 r.2.1 r.2.2 :=
  does_of_fin (fn := Tryz.f20) (c := bd Tryz.f20) rfl (by kernel_rfl) rfl (spP_ok s k .st r h)
end Go.Proofs.YtpfignfgfhbblaaGreatDoorC
/- longstopref05.Split, walked. Printed by a program (wip/tools); Lean checks each. -/
namespace Go.Proofs.YtpfignfgfhbblaaGreatDoorC
open Go.Proofs Go.Proofs.YtpfignfgfhbblaaGreatDoorSx Go.Lib
set_option maxRecDepth 100000
set_option maxHeartbeats 4000000
set_option linter.unusedVariables false
inductive spR_S where
  | st
  | l1 (xi1 : Int) (xl2 : List (Int × ByteArray × (Int × Int × Int × ByteArray) × Int))
noncomputable def spR_K1 : List It := stackAt [1, 1, 1, 0, 1, 0] (bd Tryz.f21) [] []
def spR_Fin (s : ByteArray) (f : Nat) (r : Rs) : spR_S → Prop
  | .st => FinR Tryz.f21 0 r [.code (bd Tryz.f21)] (argsS [.v (st s)] Tryz.f21.ntmps) [] 0
  | .l1 xi1 xl2 => ∀ m0 : Nat, f ≤ m0 → FinR Tryz.f21 0 r (bodyK (spR_K1) m0) ([.v (.string (s)), .na, .na, .na, .o 0, .v (.int .i64 (xi1))] ++ List.replicate 48 .na) [(0, .own 47 (xl2))] 1
noncomputable def spR_st (s : ByteArray) (rec : spR_S → Option Rs) : Option Rs :=
  bif (decide ((s.size : Int) > (4096 : Int))) then some ((.v (.tuple #[(.slice (none) ((0 : Nat)) ((0 : Nat))), (.int .i64 ((6 : Int)))]) : SV), ([] : Tab cE), 0)
  else rec (.l1 ((0 : Int)) ([]))
noncomputable def spR_l1 (s : ByteArray) (rec : spR_S → Option Rs) (xi1 : Int) (xl2 : List (Int × ByteArray × (Int × Int × Int × ByteArray) × Int)) : Option Rs :=
  bif (decide (xi1 < (s.size : Int))) then grd ((0 : Int) ≤ xi1 ∧ xi1 < (s.size : Int)) (bif ((((s.data.toList.getD xi1.toNat (0 : UInt8)).toNat : Nat) : Int) == (32 : Int)) then rec (.l1 (IntKind.i64.wrap (xi1 + (1 : Int))) (xl2))
      else bif ((((s.data.toList.getD xi1.toNat (0 : UInt8)).toNat : Nat) : Int) == (9 : Int)) then rec (.l1 (IntKind.i64.wrap (xi1 + (1 : Int))) (xl2))
        else bif ((((s.data.toList.getD xi1.toNat (0 : UInt8)).toNat : Nat) : Int) == (10 : Int)) then rec (.l1 (IntKind.i64.wrap (xi1 + (1 : Int))) (xl2))
          else grd ((0 : Int) ≤ xi1 ∧ xi1 ≤ (s.size : Int) ∧ (s.size : Int) ≤ (s.size : Int)) (grd ((s.extract xi1.toNat ((s.size : Int)).toNat).size ≤ 140737488351232) (grd (1 ≤ (s.extract xi1.toNat ((s.size : Int)).toNat).size) (bif (!(oneR (bL (s.extract xi1.toNat ((s.size : Int)).toNat))).snd.snd.snd) then some ((.v (.tuple #[(.slice (none) ((0 : Nat)) ((0 : Nat))), (.int .i64 ((30 : Int)))]) : SV), ([] : Tab cE), 0)
                  else grd (Room (xl2.length + [((((oneR (bL (s.extract xi1.toNat ((s.size : Int)).toNat))).fst : Nat) : Int), oL (List.take (oneR (bL (s.extract xi1.toNat ((s.size : Int)).toNat))).snd.fst (bL (s.extract xi1.toNat ((s.size : Int)).toNat))), ((oneR (bL (s.extract xi1.toNat ((s.size : Int)).toNat))).snd.snd.fst.fst, (oneR (bL (s.extract xi1.toNat ((s.size : Int)).toNat))).snd.snd.fst.snd.fst, (oneR (bL (s.extract xi1.toNat ((s.size : Int)).toNat))).snd.snd.fst.snd.snd.fst, (oneR (bL (s.extract xi1.toNat ((s.size : Int)).toNat))).snd.snd.fst.snd.snd.snd), xi1)].length) (72 : Nat)) (rec (.l1 (IntKind.i64.wrap (xi1 + (((oL (List.take (oneR (bL (s.extract xi1.toNat ((s.size : Int)).toNat))).snd.fst (bL (s.extract xi1.toNat ((s.size : Int)).toNat)))).size : Nat) : Int))) (xl2 ++ [((((oneR (bL (s.extract xi1.toNat ((s.size : Int)).toNat))).fst : Nat) : Int), oL (List.take (oneR (bL (s.extract xi1.toNat ((s.size : Int)).toNat))).snd.fst (bL (s.extract xi1.toNat ((s.size : Int)).toNat))), ((oneR (bL (s.extract xi1.toNat ((s.size : Int)).toNat))).snd.snd.fst.fst, (oneR (bL (s.extract xi1.toNat ((s.size : Int)).toNat))).snd.snd.fst.snd.fst, (oneR (bL (s.extract xi1.toNat ((s.size : Int)).toNat))).snd.snd.fst.snd.snd.fst, (oneR (bL (s.extract xi1.toNat ((s.size : Int)).toNat))).snd.snd.fst.snd.snd.snd), xi1)])))))))
  else some ((.t [.o 0, .v (.int .i64 ((0 : Int)))] : SV), ([(0, .own 47 (xl2))] : Tab cE), 1)
noncomputable def spR (s : ByteArray) : Nat → spR_S → Option Rs
  | 0, _ => none
  | f + 1, .st => spR_st s (fun q => spR s f q)
  | f + 1, .l1 xi1 xl2 => spR_l1 s (fun q => spR s f q) xi1 xl2
theorem spR_st_fin (s : ByteArray) (rec : spR_S → Option Rs) (f : Nat) (ih : ∀ q r, rec q = some r → spR_Fin s f r q) (r : Rs) (h : spR_st s rec = some r) : spR_Fin s (f + 1) r .st := by
  unfold spR_st at h
  show FinR _ _ _ _ _ _ _
  refine obif h (fun c1 h => ?_) (fun c1 h => ?_)
  · exact osome h (sfin (keep := []) (by decide) [.t] (by kernel_rfl) (cj c1 cj0))
  · exact sat (keep := [0, 4, 5]) (by decide) [.f] (by kernel_rfl) (cj c1 cj0) (fin_nil (K0 := 0) (n := 0) (s := ([.v (.string (s)), .na, .na, .na, .v (.slice (none) ((0 : Nat)) ((0 : Nat))), .v (.int .i64 ((0 : Int)))] ++ List.replicate 48 .na)) (b := []) (i := 4) (e := 47) (by decide) rfl (fin_ren (by kernel_rfl) (fin_loop (f + 1) (fin_round (ih _ _ h f (by omega))))))
theorem spR_l1_fin (s : ByteArray) (rec : spR_S → Option Rs) (f : Nat) (ih : ∀ q r, rec q = some r → spR_Fin s f r q) (xi1 : Int) (xl2 : List (Int × ByteArray × (Int × Int × Int × ByteArray) × Int)) (r : Rs) (h : spR_l1 s rec xi1 xl2 = some r) : spR_Fin s (f + 1) r (.l1 xi1 xl2) := by
  unfold spR_l1 at h
  intro m0 m0h
  obtain ⟨m0, rfl⟩ : ∃ k, m0 = k + 1 := ⟨m0 - 1, by omega⟩
  refine obif h (fun c1 h => ?_) (fun c1 h => ?_)
  · refine ogrd h (fun c2 h => ?_)
    refine obif h (fun c3 h => ?_) (fun c3 h => ?_)
    · exact sat (keep := [0, 4, 5]) (by decide) [.t, .t, .t, .t, .t, .t, .l, .l, .l, .l, .l, .l] (by kernel_rfl) (cj c1 (cj c2 (cj c3 (cj c3 (cj c3 (cj c3 (cj c3 cj0))))))) (fin_round (ih _ _ h (m0) (by omega)))
    · refine obif h (fun c4 h => ?_) (fun c4 h => ?_)
      · exact sat (keep := [0, 4, 5]) (by decide) [.t, .f, .f, .f, .f, .f, .t, .t, .t, .t, .t, .l] (by kernel_rfl) (cj c1 (cj c2 (cj c3 (cj c3 (cj c3 (cj c2 (cj c3 (cj c3 (cj c4 (cj c4 (cj c4 (cj c4 (cj c4 cj0))))))))))))) (fin_round (ih _ _ h (m0) (by omega)))
      · refine obif h (fun c5 h => ?_) (fun c5 h => ?_)
        · exact sat (keep := [0, 4, 5]) (by decide) [.t, .f, .f, .f, .f, .f, .f, .f, .f, .f, .f, .t] (by kernel_rfl) (cj c1 (cj c2 (cj c3 (cj c3 (cj c3 (cj c2 (cj c3 (cj c3 (cj c4 (cj c4 (cj c4 (cj c2 (cj c4 (cj c4 (cj c5 cj0))))))))))))))) (fin_round (ih _ _ h (m0) (by omega)))
        · refine ogrd h (fun c6 h => ?_)
          refine ogrd h (fun c7 h => ?_)
          refine ogrd h (fun c8 h => ?_)
          refine obif h (fun c9 h => ?_) (fun c9 h => ?_)
          · exact osome h (sfin (keep := []) (by decide) [.t, .f, .f, .f, .f, .f, .f, .f, .f, .f, .f, .f, .c (.v (.tuple #[(.agg #[(.int .i64 ((((oneR (bL (s.extract xi1.toNat ((s.size : Int)).toNat))).fst : Nat) : Int))), (.string (oL (List.take (oneR (bL (s.extract xi1.toNat ((s.size : Int)).toNat))).snd.fst (bL (s.extract xi1.toNat ((s.size : Int)).toNat))))), (.int .i64 ((oneR (bL (s.extract xi1.toNat ((s.size : Int)).toNat))).snd.snd.fst.fst)), (.int .i64 ((oneR (bL (s.extract xi1.toNat ((s.size : Int)).toNat))).snd.snd.fst.snd.fst)), (.int .i64 ((oneR (bL (s.extract xi1.toNat ((s.size : Int)).toNat))).snd.snd.fst.snd.snd.fst)), (.string ((oneR (bL (s.extract xi1.toNat ((s.size : Int)).toNat))).snd.snd.fst.snd.snd.snd)), (.int .i64 (0))]), (.bool ((oneR (bL (s.extract xi1.toNat ((s.size : Int)).toNat))).snd.snd.snd))])) [] 0, .t] (by kernel_rfl) (cj c1 (cj c2 (cj c3 (cj c3 (cj c3 (cj c2 (cj c3 (cj c3 (cj c4 (cj c4 (cj c4 (cj c2 (cj c4 (cj c4 (cj c5 (cj c6 (cj (one_does (s.extract xi1.toNat ((s.size : Int)).toNat) (by assumption) (by assumption)) (cj c9 cj0)))))))))))))))))))
          · refine ogrd h (fun c10 h => ?_)
            exact sat (keep := [0, 4, 5]) (by decide) [.t, .f, .f, .f, .f, .f, .f, .f, .f, .f, .f, .f, .c (.v (.tuple #[(.agg #[(.int .i64 ((((oneR (bL (s.extract xi1.toNat ((s.size : Int)).toNat))).fst : Nat) : Int))), (.string (oL (List.take (oneR (bL (s.extract xi1.toNat ((s.size : Int)).toNat))).snd.fst (bL (s.extract xi1.toNat ((s.size : Int)).toNat))))), (.int .i64 ((oneR (bL (s.extract xi1.toNat ((s.size : Int)).toNat))).snd.snd.fst.fst)), (.int .i64 ((oneR (bL (s.extract xi1.toNat ((s.size : Int)).toNat))).snd.snd.fst.snd.fst)), (.int .i64 ((oneR (bL (s.extract xi1.toNat ((s.size : Int)).toNat))).snd.snd.fst.snd.snd.fst)), (.string ((oneR (bL (s.extract xi1.toNat ((s.size : Int)).toNat))).snd.snd.fst.snd.snd.snd)), (.int .i64 (0))]), (.bool ((oneR (bL (s.extract xi1.toNat ((s.size : Int)).toNat))).snd.snd.snd))])) [] 0, .f] (by kernel_rfl) (cj c1 (cj c2 (cj c3 (cj c3 (cj c3 (cj c2 (cj c3 (cj c3 (cj c4 (cj c4 (cj c4 (cj c2 (cj c4 (cj c4 (cj c5 (cj c6 (cj (one_does (s.extract xi1.toNat ((s.size : Int)).toNat) (by assumption) (by assumption)) (cj c9 (cj c10 cj0))))))))))))))))))) (fin_round (ih _ _ h (m0) (by omega)))
  · exact osome h (sfin (keep := []) (by decide) [.f] (by kernel_rfl) (cj c1 cj0))
theorem spR_ok (s : ByteArray) : ∀ f q r, spR s f q = some r → spR_Fin s f r q := by
  intro f
  induction f with
  | zero => intro q r h; cases h
  | succ f ih =>
    intro q r h
    cases q with
    | st => exact spR_st_fin s _ f ih r h
    | l1 xi1 xl2 => exact spR_l1_fin s _ f ih xi1 xl2 r h
theorem spR_does (s : ByteArray) (k : Nat) {r : Rs} (h : spR s k .st = some r) : Does cE 21 [] 0 [.v (st s)] r.1 r.2.1 r.2.2 :=
  does_of_fin (fn := Tryz.f21) (c := bd Tryz.f21) rfl (by kernel_rfl) rfl (spR_ok s k .st r h)
end Go.Proofs.YtpfignfgfhbblaaGreatDoorC
/- Both Split: what they come to. -/
namespace Go.Proofs.YtpfignfgfhbblaaGreatDoorC
open Go.Proofs Go.Proofs.YtpfignfgfhbblaaGreatDoorSx Go.Lib
set_option maxRecDepth 100000
set_option linter.unusedVariables false
theorem oneR_kind (c : UInt8) (r : List UInt8) : 1 ≤ (oneR (c :: r)).1 := by
  rw [oneR_eq]
  cases letB c <;> cases digB c <;> cases (c == 39) <;> exact Nat.succ_le_succ (Nat.zero_le _)
theorem pvOk_nil : pvOk [] = false := rfl
/-- A token that is one has a length, and lies within the text. -/
theorem one_n {c : UInt8} {r : List UInt8} (h : (oneR (c :: r)).2.2.2 = true) : 1 ≤ (oneR (c :: r)).2.1 ∧ (oneR (c :: r)).2.1 ≤ r.length + 1 ∧ scE (c :: r) = (oneR (c :: r)).2.1 := by
  have ho := oneR_eq c r
  have he := scE_eq c r
  cases h1 : letB c with
  | true =>
    rw [h1] at ho he
    rw [he, ho]
    have := tw_le r
    exact ⟨by show 1 ≤ _ + 1; omega, by show (r.takeWhile wrdB).length + 1 ≤ _; omega, rfl⟩
  | false =>
  rw [h1] at ho he
  cases h2 : digB c with
  | true =>
    rw [h2] at ho he
    rw [he, ho]
    have hn := numN_le false (c :: r)
    rw [List.length_cons] at hn
    have en : numN false (c :: r) = numN false r + 1 := by
      rw [numN, h2]
      rfl
    exact ⟨by show 1 ≤ numN false (c :: r); omega, hn, rfl⟩
  | false =>
  rw [h2] at ho he
  cases h3 : (c == 39) with
  | true =>
    rw [h3] at ho he
    rw [ho] at h
    rw [he, ho]
    have hq := quoK_le r
    have h' : pvOk ((c :: r).take (quoK r)) = true := h
    unfold quoK at hq h'
    show 1 ≤ quoK r ∧ quoK r ≤ _ ∧ (match quoN r with | some k => k + 1 | none => r.length + 1) = quoK r
    unfold quoK
    cases hc : quoN r with
    | none =>
      rw [hc] at h'
      exact absurd (h'.symm.trans pvOk_nil) (by decide)
    | some k =>
      rw [hc] at hq
      exact ⟨by show 1 ≤ k + 1; omega, hq, rfl⟩
  | false =>
    rw [h3] at ho he
    rw [ho] at h
    rw [he, ho]
    have hg := signL_b c r
    have h' := of_decide_eq_true (h : decide (0 < signL (c :: r)) = true)
    exact ⟨by show 1 ≤ (signL (c :: r)).toNat; omega, by show (signL (c :: r)).toNat ≤ _; omega, rfl⟩
theorem oneL_ok {c : UInt8} {r : List UInt8} (h : (oneR (c :: r)).2.2.2 = true) : oneL (c :: r) = ((oneR (c :: r)).1, (oneR (c :: r)).2.1, (oneR (c :: r)).2.2.1) := by
  unfold oneL
  rw [h]
  rfl
theorem oneL_no {c : UInt8} {r : List UInt8} (h : (oneR (c :: r)).2.2.2 = false) : oneL (c :: r) = (0, 0, zV) := by
  unfold oneL
  rw [h]
  rfl
/-- A round of the split: a blank, no token, a token. -/
theorem split_blank {f a : Nat} {c : UInt8} {r : List UInt8} (h : blankB c = true) : splitL (f + 1) a (c :: r) = splitL f (a + 1) r := by
  rw [splitL, h]
  rfl
theorem split_no {f a : Nat} {c : UInt8} {r : List UInt8} (h : blankB c = false) (h2 : (oneR (c :: r)).2.2.2 = false) : splitL (f + 1) a (c :: r) = none := by
  rw [splitL, h, oneL_no h2]
  rfl
abbrev tkOf (l : List UInt8) (a : Nat) : Tk := ((((oneR l).1 : Nat) : Int), oL (l.take (oneR l).2.1), (oneR l).2.2.1, (a : Int))
theorem split_tok {f a : Nat} {c : UInt8} {r : List UInt8} (h : blankB c = false) (h2 : (oneR (c :: r)).2.2.2 = true) : splitL (f + 1) a (c :: r) = (splitL f (a + (oneR (c :: r)).2.1) ((c :: r).drop (oneR (c :: r)).2.1)).map (tkOf (c :: r) a :: ·) := by
  have hk := oneR_kind c r
  rw [splitL, h, oneL_ok h2]
  show (bif ((oneR (c :: r)).1 == 0) then _ else _) = _
  rw [beq_eq_false_iff_ne.2 (by omega)]
  rfl
theorem blk_con (c : UInt8) : decide (Lib.indexByte (bL (ByteArray.mk #[32, 9, 10])) c ≥ 0) = blankB c := by
  have e : bL (ByteArray.mk #[32, 9, 10]) = [32, 9, 10] := rfl
  have hb : blankB c = ([32, 9, 10] : List UInt8).contains c := by
    unfold blankB
    show _ = (c == 32 || (c == 9 || (c == 10 || false)))
    rw [Bool.or_false]
  rw [e, hb]
  by_cases h : c ∈ ([32, 9, 10] : List UInt8)
  · rw [List.contains_iff_mem.2 h]
    exact decide_eq_true (index_yes h)
  · have e : ([32, 9, 10] : List UInt8).contains c = false := by
      cases hc : ([32, 9, 10] : List UInt8).contains c with
      | false => rfl
      | true => exact absurd (List.contains_iff_mem.1 hc) h
    rw [e]
    exact decide_eq_false (by rw [index_no h]; decide)
theorem room72 {n : Nat} (h : n ≤ 5000) : Room n 72 := by
  unfold Room maxLen
  omega
def spPR (acc : List Tk) : Option (List Tk) → Rs
  | some ts => (.t [.o 0, .v (it 0)], [(0, .own 45 (acc ++ ts))], 1)
  | none => (.v (.tuple #[.slice none 0 0, it 30]), [], 0)
theorem spPR_map (acc : List Tk) (t : Tk) (o : Option (List Tk)) : spPR acc (o.map (t :: ·)) = spPR (acc ++ [t]) o := by
  cases o with
  | none => rfl
  | some ts =>
    show (_, [(0, _)], 1) = (_, [(0, _)], 1)
    have e : acc ++ (t :: ts) = acc ++ [t] ++ ts := by simp
    simp only [Option.map_some]
    rw [e]
theorem spP_loop (L : List UInt8) (hL : L.length ≤ 4096) : ∀ (n : Nat) (r P : List UInt8) (f k : Nat) (acc : List Tk), L = P ++ r → r.length ≤ n → r.length + 1 ≤ f → r.length ≤ k → acc.length ≤ P.length →
    spP (oL L) f (.l1 (P.length : Int) acc) = some (spPR acc (splitL k P.length r)) := by
  intro n
  induction n with
  | zero =>
    intro r P f k acc e hn hf hk ha
    have er := List.eq_nil_of_length_eq_zero (Nat.le_zero.1 hn)
    subst er
    obtain ⟨f, rfl⟩ : ∃ j, f = j + 1 := ⟨f - 1, by omega⟩
    show spP_l1 _ _ _ _ = _
    unfold spP_l1
    refine bf (decide_eq_false (by rw [oL_size, e]; simp)) ?_
    have es : splitL k P.length [] = some [] := by cases k <;> rfl
    rw [es]
    show some _ = some (_, [(0, _)], 1)
    rw [List.append_nil]
  | succ n ih =>
    intro r P f k acc e hn hf hk ha
    obtain ⟨f, rfl⟩ : ∃ j, f = j + 1 := ⟨f - 1, by omega⟩
    cases r with
    | nil =>
      show spP_l1 _ _ _ _ = _
      unfold spP_l1
      refine bf (decide_eq_false (by rw [oL_size, e]; simp)) ?_
      have es : splitL k P.length [] = some [] := by cases k <;> rfl
      rw [es]
      show some _ = some (_, [(0, _)], 1)
      rw [List.append_nil]
    | cons c r =>
      simp only [List.length_cons] at hn hf hk
      obtain ⟨k, rfl⟩ : ∃ j, k = j + 1 := ⟨k - 1, by omega⟩
      have hlen : L.length = P.length + r.length + 1 := by rw [e]; simp; omega
      have hz : ((oL L).size : Int) = P.length + r.length + 1 := by rw [oL_size]; omega
      have hc := c.toNat_lt
      show spP_l1 _ _ _ _ = _
      unfold spP_l1
      refine bt (decide_eq_true (by omega)) (gp (by omega) ?_)
      have hg : (oL L).data.toList.getD ((P.length : Int)).toNat 0 = c := by rw [e]; exact getD_of P r c
      have e1 : UInt8.ofNat (((c.toNat : Nat) : Int)).toNat = c := by
        rw [Int.toNat_natCast]
        exact UInt8.ofNat_toNat
      have ed : List.drop ((P.length : Int)).toNat (bL (oL L)) = c :: r := by
        rw [show bL (oL L) = L from oL_data _, Int.toNat_natCast, e, List.drop_left]
      rw [hg]
      refine gp (by omega) ?_
      rw [e1, blk_con, w1 (by omega), ed]
      cases hb : blankB c with
      | true =>
        have h := ih r (P ++ [c]) f k acc (by rw [e]; simp) (by omega) (by omega) (by omega) (by simp; omega)
        have e2 : (P ++ [c]).length = P.length + 1 := by simp
        rw [e2] at h
        rw [split_blank hb]
        exact bt rfl h
      | false =>
        refine bf rfl (gp (by rw [oL_size]; omega) (gp (by omega) ?_))
        unfold scK scX sc4 scA
        cases hk2 : (oneR (c :: r)).2.2.2 with
        | false =>
          rw [split_no hb hk2]
          exact bt rfl rfl
        | true =>
          have hon := one_n hk2
          have hkk := oneR_kind c r
          rw [hon.2.2]
          refine bf (by show ((((oneR (c :: r)).1 : Nat) : Int) == 0) = false; exact beq_eq_false_iff_ne.2 (by omega)) (gp (room72 (by simp; omega)) ?_)
          have hdl : ((c :: r).drop (oneR (c :: r)).2.1).length = r.length + 1 - (oneR (c :: r)).2.1 := by rw [List.length_drop, List.length_cons]
          have h := ih ((c :: r).drop (oneR (c :: r)).2.1) (P ++ (c :: r).take (oneR (c :: r)).2.1) f k (acc ++ [tkOf (c :: r) P.length]) (by rw [e, List.append_assoc, List.take_append_drop]) (by omega) (by omega) (by omega) (by
            simp only [List.length_append, List.length_take, List.length_cons, List.length_nil]
            omega)
          have e2 : (P ++ (c :: r).take (oneR (c :: r)).2.1).length = P.length + (oneR (c :: r)).2.1 := by
            rw [List.length_append, List.length_take, List.length_cons]
            omega
          rw [e2] at h
          rw [split_tok hb hk2, spPR_map]
          refine Eq.trans ?_ h
          have e3 : (P.length : Int) + (((oneR (c :: r)).2.1 : Nat) : Int) = ((P.length + (oneR (c :: r)).2.1 : Nat) : Int) := by omega
          rw [e3]
          rfl
def spRR (acc : List Tk) : Option (List Tk) → Rs
  | some ts => (.t [.o 0, .v (it 0)], [(0, .own 47 (acc ++ ts))], 1)
  | none => (.v (.tuple #[.slice none 0 0, it 30]), [], 0)
theorem spRR_map (acc : List Tk) (t : Tk) (o : Option (List Tk)) : spRR acc (o.map (t :: ·)) = spRR (acc ++ [t]) o := by
  cases o with
  | none => rfl
  | some ts =>
    show (_, [(0, _)], 1) = (_, [(0, _)], 1)
    have e : acc ++ (t :: ts) = acc ++ [t] ++ ts := by simp
    simp only [Option.map_some]
    rw [e]
theorem spR_loop (L : List UInt8) (hL : L.length ≤ 4096) : ∀ (n : Nat) (r P : List UInt8) (f k : Nat) (acc : List Tk), L = P ++ r → r.length ≤ n → r.length + 1 ≤ f → r.length ≤ k → acc.length ≤ P.length →
    spR (oL L) f (.l1 (P.length : Int) acc) = some (spRR acc (splitL k P.length r)) := by
  intro n
  induction n with
  | zero =>
    intro r P f k acc e hn hf hk ha
    have er := List.eq_nil_of_length_eq_zero (Nat.le_zero.1 hn)
    subst er
    obtain ⟨f, rfl⟩ : ∃ j, f = j + 1 := ⟨f - 1, by omega⟩
    show spR_l1 _ _ _ _ = _
    unfold spR_l1
    refine bf (decide_eq_false (by rw [oL_size, e]; simp)) ?_
    have es : splitL k P.length [] = some [] := by cases k <;> rfl
    rw [es]
    show some _ = some (_, [(0, _)], 1)
    rw [List.append_nil]
  | succ n ih =>
    intro r P f k acc e hn hf hk ha
    obtain ⟨f, rfl⟩ : ∃ j, f = j + 1 := ⟨f - 1, by omega⟩
    cases r with
    | nil =>
      show spR_l1 _ _ _ _ = _
      unfold spR_l1
      refine bf (decide_eq_false (by rw [oL_size, e]; simp)) ?_
      have es : splitL k P.length [] = some [] := by cases k <;> rfl
      rw [es]
      show some _ = some (_, [(0, _)], 1)
      rw [List.append_nil]
    | cons c r =>
      simp only [List.length_cons] at hn hf hk
      obtain ⟨k, rfl⟩ : ∃ j, k = j + 1 := ⟨k - 1, by omega⟩
      have hlen : L.length = P.length + r.length + 1 := by rw [e]; simp; omega
      have hz : ((oL L).size : Int) = P.length + r.length + 1 := by rw [oL_size]; omega
      show spR_l1 _ _ _ _ = _
      unfold spR_l1
      refine bt (decide_eq_true (by omega)) (gp (by omega) ?_)
      have hg : (oL L).data.toList.getD ((P.length : Int)).toNat 0 = c := by rw [e]; exact getD_of P r c
      have ed : (oL L).extract ((P.length : Int)).toNat (((oL L).size : Int)).toNat = oL (c :: r) := by
        rw [oL_ext, oL_size, Int.toNat_natCast, Int.toNat_natCast, e, List.drop_left]
        congr 1
        apply List.take_of_length_le
        simp
      have e32 : (((c.toNat : Nat) : Int) == 32) = (c == 32) := cI_eq c 32
      have e9 : (((c.toNat : Nat) : Int) == 9) = (c == 9) := cI_eq c 9
      have e10 : (((c.toNat : Nat) : Int) == 10) = (c == 10) := cI_eq c 10
      rw [hg, e32, e9, e10, w1 (by omega), ed, show bL (oL (c :: r)) = c :: r from oL_data _]
      have hb3 : blankB c = (c == 32 || (c == 9 || c == 10)) := rfl
      cases hb : blankB c with
      | true =>
        have h := ih r (P ++ [c]) f k acc (by rw [e]; simp) (by omega) (by omega) (by omega) (by simp; omega)
        have e2 : (P ++ [c]).length = P.length + 1 := by simp
        rw [e2] at h
        rw [split_blank hb]
        rw [hb] at hb3
        have h' : (fun q => spR (oL L) f q) (.l1 ((P.length + 1 : Nat) : Int) acc) = some (spRR acc (splitL k (P.length + 1) r)) := h
        rw [h']
        revert hb3
        cases (c == 32) <;> cases (c == 9) <;> cases (c == 10) <;> intro hb3 <;> first | rfl | cases hb3
      | false =>
        rw [hb] at hb3
        have h32 : (c == 32) = false := by revert hb3; cases (c == 32) <;> intro h <;> first | rfl | cases h
        have h9 : (c == 9) = false := by revert hb3; cases (c == 32) <;> cases (c == 9) <;> intro h <;> first | rfl | cases h
        have h10 : (c == 10) = false := by revert hb3; cases (c == 32) <;> cases (c == 9) <;> cases (c == 10) <;> intro h <;> first | rfl | cases h
        rw [h32, h9, h10]
        refine bf rfl (bf rfl (bf rfl (gp (by omega) (gp (by rw [oL_size, List.length_cons]; omega) (gp (by rw [oL_size, List.length_cons]; omega) ?_)))))
        cases hk2 : (oneR (c :: r)).2.2.2 with
        | false =>
          rw [split_no hb hk2]
          exact bt rfl rfl
        | true =>
          have hon := one_n hk2
          refine bf rfl (gp (room72 (by simp; omega)) ?_)
          have hdl : ((c :: r).drop (oneR (c :: r)).2.1).length = r.length + 1 - (oneR (c :: r)).2.1 := by rw [List.length_drop, List.length_cons]
          have htl : ((c :: r).take (oneR (c :: r)).2.1).length = (oneR (c :: r)).2.1 := by rw [List.length_take, List.length_cons]; omega
          have h := ih ((c :: r).drop (oneR (c :: r)).2.1) (P ++ (c :: r).take (oneR (c :: r)).2.1) f k (acc ++ [tkOf (c :: r) P.length]) (by rw [e, List.append_assoc, List.take_append_drop]) (by omega) (by omega) (by omega) (by
            simp only [List.length_append, List.length_take, List.length_cons, List.length_nil]
            omega)
          have e2 : (P ++ (c :: r).take (oneR (c :: r)).2.1).length = P.length + (oneR (c :: r)).2.1 := by
            rw [List.length_append, htl]
          rw [e2] at h
          rw [split_tok hb hk2, spRR_map]
          refine Eq.trans ?_ h
          have e3 : IntKind.i64.wrap ((P.length : Int) + (((oL ((c :: r).take (oneR (c :: r)).2.1)).size : Nat) : Int)) = ((P.length + (oneR (c :: r)).2.1 : Nat) : Int) := by
            rw [oL_size, htl, wrap64 (by omega) (by omega)]
            omega
          rw [e3]
/-- A text's tokens, what is wrong. -/
def spOut (l : List UInt8) : List Tk × Int := bif decide (l.length > 4096) then ([], 6) else match splitL l.length 0 l with
  | some ts => (ts, 0)
  | none => ([], 30)
theorem split_does (s : ByteArray) (hs : s.size ≤ 140737488351232) : Does cE 20 [] 0 [.v (st s)] (.t [.o 0, .v (it (spOut (bL s)).2)]) [(0, .own 45 (spOut (bL s)).1)] 1 := by
  obtain ⟨l, rfl⟩ : ∃ l, s = oL l := ⟨_, oL_of s⟩
  rw [oL_size] at hs
  have eb : bL (oL l) = l := oL_data l
  rw [eb]
  have hE := enters (E := cE) (g := 20) (fn := Tryz.f20) rfl (by kernel_rfl) rfl
  unfold spOut
  by_cases h : l.length > 4096
  · rw [decide_eq_true h]
    refine Does.nilt 45 (Does.of (spP_does (oL l) 1 (r := (_, _, _)) ?_) rfl) hE (Nat.le_refl _)
    show spP_st _ _ = _
    unfold spP_st
    exact bt (decide_eq_true (by rw [oL_size]; omega)) rfl
  · rw [decide_eq_false h]
    have hl := spP_loop l (by omega) l.length l [] (l.length + 1) l.length [] rfl (Nat.le_refl _) (Nat.le_refl _) (Nat.le_refl _) (Nat.le_refl _)
    have hst : spP (oL l) (l.length + 2) .st = some (spPR [] (splitL l.length 0 l)) := by
      show spP_st _ _ = _
      unfold spP_st
      exact bf (decide_eq_false (by rw [oL_size]; omega)) hl
    cases hsp : splitL l.length 0 l with
    | none =>
      rw [hsp] at hst
      exact Does.nilt 45 (Does.of (spP_does (oL l) (l.length + 2) (r := (_, _, _)) hst) rfl) hE (Nat.le_refl _)
    | some ts =>
      rw [hsp] at hst
      exact Does.of (spP_does (oL l) (l.length + 2) (r := (_, _, _)) hst) rfl
theorem rsplit_does (s : ByteArray) (hs : s.size ≤ 140737488351232) : Does cE 21 [] 0 [.v (st s)] (.t [.o 0, .v (it (spOut (bL s)).2)]) [(0, .own 47 (spOut (bL s)).1)] 1 := by
  obtain ⟨l, rfl⟩ : ∃ l, s = oL l := ⟨_, oL_of s⟩
  rw [oL_size] at hs
  have eb : bL (oL l) = l := oL_data l
  rw [eb]
  have hE := enters (E := cE) (g := 21) (fn := Tryz.f21) rfl (by kernel_rfl) rfl
  unfold spOut
  by_cases h : l.length > 4096
  · rw [decide_eq_true h]
    refine Does.nilt 47 (Does.of (spR_does (oL l) 1 (r := (_, _, _)) ?_) rfl) hE (Nat.le_refl _)
    show spR_st _ _ = _
    unfold spR_st
    exact bt (decide_eq_true (by rw [oL_size]; omega)) rfl
  · rw [decide_eq_false h]
    have hl := spR_loop l (by omega) l.length l [] (l.length + 1) l.length [] rfl (Nat.le_refl _) (Nat.le_refl _) (Nat.le_refl _) (Nat.le_refl _)
    have hst : spR (oL l) (l.length + 2) .st = some (spRR [] (splitL l.length 0 l)) := by
      show spR_st _ _ = _
      unfold spR_st
      exact bf (decide_eq_false (by rw [oL_size]; omega)) hl
    cases hsp : splitL l.length 0 l with
    | none =>
      rw [hsp] at hst
      exact Does.nilt 47 (Does.of (spR_does (oL l) (l.length + 2) (r := (_, _, _)) hst) rfl) hE (Nat.le_refl _)
    | some ts =>
      rw [hsp] at hst
      exact Does.of (spR_does (oL l) (l.length + 2) (r := (_, _, _)) hst) rfl
end Go.Proofs.YtpfignfgfhbblaaGreatDoorC
/- lexer.Right, walked. Printed by a program (wip/tools); Lean checks each. -/
namespace Go.Proofs.YtpfignfgfhbblaaGreatDoorC
open Go.Proofs Go.Proofs.YtpfignfgfhbblaaGreatDoorSx Go.Lib
set_option maxRecDepth 100000
set_option maxHeartbeats 4000000
set_option linter.unusedVariables false
noncomputable def riP (k : Int) (t : ByteArray) (a b c : Int) (s : ByteArray) (p : Int) : Option Rs :=
  grd ((t).size ≤ 140737488351232) (bif ((spOut (bL t)).snd == (0 : Int)) then bif ((((spOut (bL t)).fst.length : Nat) : Int) == (1 : Int)) then grd ((0 : Int) ≤ (0 : Int) ∧ (0 : Int) < (((spOut (bL t)).fst.length : Nat) : Int)) (grd ((Int.toNat (0 : Int)).succ.le (spOut (bL t)).fst.length) (some ((.v (.bool (((spOut (bL t)).fst.getD (Int.toNat (0 : Int)) ((0 : Int), ByteArray.empty, ((0 : Int), (0 : Int), (0 : Int), ByteArray.empty), (0 : Int))).fst == k && (((spOut (bL t)).fst.getD (Int.toNat (0 : Int)) ((0 : Int), ByteArray.empty, ((0 : Int), (0 : Int), (0 : Int), ByteArray.empty), (0 : Int))).snd.fst == t && (((spOut (bL t)).fst.getD (Int.toNat (0 : Int)) ((0 : Int), ByteArray.empty, ((0 : Int), (0 : Int), (0 : Int), ByteArray.empty), (0 : Int))).snd.snd.fst.fst == a && (((spOut (bL t)).fst.getD (Int.toNat (0 : Int)) ((0 : Int), ByteArray.empty, ((0 : Int), (0 : Int), (0 : Int), ByteArray.empty), (0 : Int))).snd.snd.fst.snd.fst == b && (((spOut (bL t)).fst.getD (Int.toNat (0 : Int)) ((0 : Int), ByteArray.empty, ((0 : Int), (0 : Int), (0 : Int), ByteArray.empty), (0 : Int))).snd.snd.fst.snd.snd.fst == c && (((spOut (bL t)).fst.getD (Int.toNat (0 : Int)) ((0 : Int), ByteArray.empty, ((0 : Int), (0 : Int), (0 : Int), ByteArray.empty), (0 : Int))).snd.snd.fst.snd.snd.snd == s && true))) && (((spOut (bL t)).fst.getD (Int.toNat (0 : Int)) ((0 : Int), ByteArray.empty, ((0 : Int), (0 : Int), (0 : Int), ByteArray.empty), (0 : Int))).snd.snd.snd == (0 : Int) && true))))) : SV), ([] : Tab cE), 0)))
      else some ((.v (.bool (false)) : SV), ([] : Tab cE), 0)
    else some ((.v (.bool (false)) : SV), ([] : Tab cE), 0))
theorem riP_does (k : Int) (t : ByteArray) (a b c : Int) (s : ByteArray) (p : Int) {r : Rs} (h : riP k t a b c s p = some r) : Does cE 26 [] 0 [.v (tkS k t (a, b, c, s) p)] r.1 r.2.1 r.2.2 := by
  unfold riP at h
  refine does_of_fin (fn := Tryz.f26) (c := bd Tryz.f26) rfl (by kernel_rfl) rfl ?_
  refine ogrd h (fun c1 h => ?_)
  refine obif h (fun c2 h => ?_) (fun c2 h => ?_)
  · refine obif h (fun c3 h => ?_) (fun c3 h => ?_)
    · refine ogrd h (fun c4 h => ?_)
      refine ogrd h (fun c5 h => ?_)
      exact osome h (sfin (keep := []) (by decide) [.c (.t [.o 0, .v (.int .i64 ((spOut (bL t)).snd))]) [(0, .own 45 ((spOut (bL t)).fst))] 1, .t, .t, .t, .t, .t, .t, .t, .t, .t, .t] (by kernel_rfl) (cj (split_does (t) (by assumption)) (cj c2 (cj c2 (cj c2 (cj c2 (cj c3 (cj c3 (cj c4 (cj c3 (cj c5 (cj c3 (cj c3 (cj c3 cj0))))))))))))))
    · exact osome h (sfin (keep := []) (by decide) [.c (.t [.o 0, .v (.int .i64 ((spOut (bL t)).snd))]) [(0, .own 45 ((spOut (bL t)).fst))] 1, .t, .t, .t, .t, .f, .f, .f, .f, .f, .f] (by kernel_rfl) (cj (split_does (t) (by assumption)) (cj c2 (cj c2 (cj c2 (cj c2 (cj c3 (cj c3 (cj c3 (cj c3 (cj c3 (cj c3 cj0))))))))))))
  · exact osome h (sfin (keep := []) (by decide) [.c (.t [.o 0, .v (.int .i64 ((spOut (bL t)).snd))]) [(0, .own 45 ((spOut (bL t)).fst))] 1, .f, .f, .f, .f, .l, .l, .l, .l, .l, .l] (by kernel_rfl) (cj (split_does (t) (by assumption)) (cj c2 (cj c2 (cj c2 (cj c2 cj0))))))
end Go.Proofs.YtpfignfgfhbblaaGreatDoorC
/- longstopref05.Right, walked. Printed by a program (wip/tools); Lean checks each. -/
namespace Go.Proofs.YtpfignfgfhbblaaGreatDoorC
open Go.Proofs Go.Proofs.YtpfignfgfhbblaaGreatDoorSx Go.Lib
set_option maxRecDepth 100000
set_option maxHeartbeats 4000000
set_option linter.unusedVariables false
end Go.Proofs.YtpfignfgfhbblaaGreatDoorC
/- Same of values, walked. Printed by a program (wip/tools); Lean checks each. -/
namespace Go.Proofs.YtpfignfgfhbblaaGreatDoorC
open Go.Proofs Go.Proofs.YtpfignfgfhbblaaGreatDoorSx Go.Lib
set_option maxRecDepth 100000
set_option maxHeartbeats 4000000
set_option linter.unusedVariables false
noncomputable def sm4 (k n m : Int) (s : ByteArray) (j p q : Int) (u : ByteArray) : Option Rs :=
  bif (k == j) then bif (n == p) then bif (m == q) then some ((.v (.bool (s.toList == u.toList)) : SV), ([] : Tab cE), 0)
      else some ((.v (.bool (false)) : SV), ([] : Tab cE), 0)
    else some ((.v (.bool (false)) : SV), ([] : Tab cE), 0)
  else some ((.v (.bool (false)) : SV), ([] : Tab cE), 0)
theorem sm4_does (k n m : Int) (s : ByteArray) (j p q : Int) (u : ByteArray) {r : Rs} (h : sm4 k n m s j p q u = some r) : Does cE 17 [] 0 [.v (vl k n m s), .v (vl j p q u)] r.1 r.2.1 r.2.2 := by
  unfold sm4 at h
  refine does_of_fin (fn := Tryz.f17) (c := bd Tryz.f17) rfl (by kernel_rfl) rfl ?_
  refine obif h (fun c1 h => ?_) (fun c1 h => ?_)
  · refine obif h (fun c2 h => ?_) (fun c2 h => ?_)
    · refine obif h (fun c3 h => ?_) (fun c3 h => ?_)
      · exact osome h (sfin (keep := []) (by decide) [.t, .t, .t, .t, .t, .t, .t, .t, .t, .t, .t, .t, .t, .t, .t, .t, .t, .t] (by kernel_rfl) (cj c1 (cj c1 (cj c1 (cj c1 (cj c1 (cj c1 (cj c2 (cj c2 (cj c2 (cj c2 (cj c2 (cj c2 (cj c3 (cj c3 (cj c3 (cj c3 (cj c3 (cj c3 cj0)))))))))))))))))))
      · exact osome h (sfin (keep := []) (by decide) [.t, .t, .t, .t, .t, .t, .t, .t, .t, .t, .t, .t, .f, .f, .f, .f, .f, .f] (by kernel_rfl) (cj c1 (cj c1 (cj c1 (cj c1 (cj c1 (cj c1 (cj c2 (cj c2 (cj c2 (cj c2 (cj c2 (cj c2 (cj c3 (cj c3 (cj c3 (cj c3 (cj c3 (cj c3 cj0)))))))))))))))))))
    · exact osome h (sfin (keep := []) (by decide) [.t, .t, .t, .t, .t, .t, .f, .f, .f, .f, .f, .f, .l, .l, .l, .l, .l, .l] (by kernel_rfl) (cj c1 (cj c1 (cj c1 (cj c1 (cj c1 (cj c1 (cj c2 (cj c2 (cj c2 (cj c2 (cj c2 (cj c2 cj0)))))))))))))
  · exact osome h (sfin (keep := []) (by decide) [.f, .f, .f, .f, .f, .f, .l, .l, .l, .l, .l, .l, .l, .l, .l, .l, .l, .l] (by kernel_rfl) (cj c1 (cj c1 (cj c1 (cj c1 (cj c1 (cj c1 cj0)))))))
end Go.Proofs.YtpfignfgfhbblaaGreatDoorC
/- Tokens that may be; the same values. -/
namespace Go.Proofs.YtpfignfgfhbblaaGreatDoorC
open Go.Proofs Go.Proofs.YtpfignfgfhbblaaGreatDoorSx Go.Lib
set_option maxRecDepth 100000
set_option linter.unusedVariables false
def sm8 (k n m : Int) (s : ByteArray) (j p q : Int) (u : ByteArray) : Bool := k == j && (n == p && (m == q && s.toList == u.toList))
theorem same8_does (k n m : Int) (s : ByteArray) (j p q : Int) (u : ByteArray) : Does cE 17 [] 0 [.v (vl k n m s), .v (vl j p q u)] (.v (.bool (sm8 k n m s j p q u))) [] 0 := by
  refine Does.of (sm4_does k n m s j p q u (r := (.v (.bool (sm8 k n m s j p q u)), [], 0)) ?_) rfl
  unfold sm4 sm8
  cases (k == j) <;> cases (n == p) <;> cases (m == q) <;> rfl
/-- May a token be? It is the one token of its text. -/
def rightT (k : Int) (t : ByteArray) (v : V4) : Bool := (spOut (bL t)).2 == 0 && (match (spOut (bL t)).1 with
  | [x] => x.1 == k && (x.2.1 == t && (x.2.2.1.1 == v.1 && (x.2.2.1.2.1 == v.2.1 && (x.2.2.1.2.2.1 == v.2.2.1 && x.2.2.1.2.2.2 == v.2.2.2))))
  | _ => false)
end Go.Proofs.YtpfignfgfhbblaaGreatDoorC
