import Derived.Test.YtpfignfgfhbblaaGreatDoorMu10
import Derived.KernelRfl
import Derived.Test.YtpfignfgfhbblaaGreatDoorMu11
/- longstopref04.Parse, walked. Printed by a program (wip/tools); Lean checks each. -/
namespace Go.Proofs.YtpfignfgfhbblaaGreatDoorC
open Go.Proofs Go.Proofs.YtpfignfgfhbblaaGreatDoorSx Go.Lib
set_option maxRecDepth 100000
set_option maxHeartbeats 4000000
set_option linter.unusedVariables false
noncomputable def paR (s : ByteArray) : Option Rs :=
  bif (s.toList == (ByteArray.mk #[(116 : UInt8), (114 : UInt8), (117 : UInt8), (101 : UInt8)]).toList) then bif (s.toList == (ByteArray.mk #[]).toList) then some ((.v (.tuple #[(.agg #[(.int .i64 ((0 : Int))), (.int .i64 ((0 : Int))), (.int .i64 ((0 : Int))), (.string ((ByteArray.mk #[])))]), (.int .i64 ((21 : Int)))]) : SV), ([] : Tab cE), 0)
    else grd (((ByteArray.mk #[])).size ≤ 140737488351232) (grd (I64 (1)) (grd (I64 (0)) (bif (!(oL (prV (4 : Int) (1 : Int) (0 : Int) (ByteArray.mk #[]))).toList == s.toList) then some ((.v (.tuple #[(.agg #[(.int .i64 ((0 : Int))), (.int .i64 ((0 : Int))), (.int .i64 ((0 : Int))), (.string ((ByteArray.mk #[])))]), (.int .i64 ((21 : Int)))]) : SV), ([] : Tab cE), 0)
            else some ((.v (.tuple #[(.agg #[(.int .i64 ((4 : Int))), (.int .i64 ((1 : Int))), (.int .i64 ((0 : Int))), (.string ((ByteArray.mk #[])))]), (.int .i64 ((0 : Int)))]) : SV), ([] : Tab cE), 0))))
  else bif (s.toList == (ByteArray.mk #[(102 : UInt8), (97 : UInt8), (108 : UInt8), (115 : UInt8), (101 : UInt8)]).toList) then bif (s.toList == (ByteArray.mk #[]).toList) then some ((.v (.tuple #[(.agg #[(.int .i64 ((0 : Int))), (.int .i64 ((0 : Int))), (.int .i64 ((0 : Int))), (.string ((ByteArray.mk #[])))]), (.int .i64 ((21 : Int)))]) : SV), ([] : Tab cE), 0)
      else grd (((ByteArray.mk #[])).size ≤ 140737488351232) (grd (I64 (0)) (bif (!(oL (prV (4 : Int) (0 : Int) (0 : Int) (ByteArray.mk #[]))).toList == s.toList) then some ((.v (.tuple #[(.agg #[(.int .i64 ((0 : Int))), (.int .i64 ((0 : Int))), (.int .i64 ((0 : Int))), (.string ((ByteArray.mk #[])))]), (.int .i64 ((21 : Int)))]) : SV), ([] : Tab cE), 0)
            else some ((.v (.tuple #[(.agg #[(.int .i64 ((4 : Int))), (.int .i64 ((0 : Int))), (.int .i64 ((0 : Int))), (.string ((ByteArray.mk #[])))]), (.int .i64 ((0 : Int)))]) : SV), ([] : Tab cE), 0)))
    else bif (decide ((s.size : Int) ≥ (2 : Int))) then grd ((0 : Int) ≤ (0 : Int) ∧ (0 : Int) < (s.size : Int)) (bif ((((s.data.toList.getD (Int.toNat (0 : Int)) (0 : UInt8)).toNat : Nat) : Int) == (39 : Int)) then grd ((s).size ≤ 140737488351232) (bif (s.toList == (ByteArray.mk #[]).toList) then some ((.v (.tuple #[(.agg #[(.int .i64 ((0 : Int))), (.int .i64 ((0 : Int))), (.int .i64 ((0 : Int))), (.string ((ByteArray.mk #[])))]), (.int .i64 ((21 : Int)))]) : SV), ([] : Tab cE), 0)
              else grd ((List.foldl (fun r n => r.push (UInt8.ofNat n.toNat)) ByteArray.empty (quR s (s.size + 1) 1 [])).size ≤ 140737488351232) (grd (I64 (0)) (bif (!(oL (prV (3 : Int) (0 : Int) (0 : Int) (List.foldl (fun r n => r.push (UInt8.ofNat n.toNat)) ByteArray.empty (quR s (s.size + (1 : Nat)) (1 : Nat) [])))).toList == s.toList) then some ((.v (.tuple #[(.agg #[(.int .i64 ((0 : Int))), (.int .i64 ((0 : Int))), (.int .i64 ((0 : Int))), (.string ((ByteArray.mk #[])))]), (.int .i64 ((21 : Int)))]) : SV), ([] : Tab cE), 0)
                    else some ((.v (.tuple #[(.agg #[(.int .i64 ((3 : Int))), (.int .i64 ((0 : Int))), (.int .i64 ((0 : Int))), (.string (List.foldl (fun r n => r.push (UInt8.ofNat n.toNat)) ByteArray.empty (quR s (s.size + (1 : Nat)) (1 : Nat) [])))]), (.int .i64 ((0 : Int)))]) : SV), ([] : Tab cE), 0))))
          else bif ((((s.data.toList.getD (Int.toNat (0 : Int)) (0 : UInt8)).toNat : Nat) : Int) == (60 : Int)) then grd ((s).data.toList.length ≤ 140737488355328) (bif (s.toList == (ByteArray.mk #[]).toList) then some ((.v (.tuple #[(.agg #[(.int .i64 ((0 : Int))), (.int .i64 ((0 : Int))), (.int .i64 ((0 : Int))), (.string ((ByteArray.mk #[])))]), (.int .i64 ((21 : Int)))]) : SV), ([] : Tab cE), 0)
                else grd (((ByteArray.mk #[])).size ≤ 140737488351232) (grd (I64 ((gpL (bL s)).fst)) (grd (I64 ((gpL (bL s)).snd.fst)) (bif (!(oL (prV (5 : Int) (gpL (bL s)).fst (gpL (bL s)).snd.fst (ByteArray.mk #[]))).toList == s.toList) then some ((.v (.tuple #[(.agg #[(.int .i64 ((0 : Int))), (.int .i64 ((0 : Int))), (.int .i64 ((0 : Int))), (.string ((ByteArray.mk #[])))]), (.int .i64 ((21 : Int)))]) : SV), ([] : Tab cE), 0)
                        else some ((.v (.tuple #[(.agg #[(.int .i64 ((5 : Int))), (.int .i64 ((gpL (bL s)).fst)), (.int .i64 ((gpL (bL s)).snd.fst)), (.string ((ByteArray.mk #[])))]), (.int .i64 ((0 : Int)))]) : SV), ([] : Tab cE), 0)))))
            else grd ((0 : Int) ≤ IntKind.i64.wrap ((s.size : Int) - (1 : Int)) ∧ IntKind.i64.wrap ((s.size : Int) - (1 : Int)) < (s.size : Int)) (bif ((((s.data.toList.getD (IntKind.i64.wrap ((s.size : Int) - (1 : Int))).toNat (0 : UInt8)).toNat : Nat) : Int) == (46 : Int)) then grd ((0 : Int) ≤ (0 : Int) ∧ (0 : Int) ≤ IntKind.i64.wrap ((s.size : Int) - (1 : Int)) ∧ IntKind.i64.wrap ((s.size : Int) - (1 : Int)) ≤ (s.size : Int)) (grd ((s.extract (Int.toNat 0) (IntKind.i64.wrap ((s.size : Int) - 1)).toNat).data.toList.length ≤ 9223372036854775807) (bif (s.toList == (ByteArray.mk #[]).toList) then some ((.v (.tuple #[(.agg #[(.int .i64 ((0 : Int))), (.int .i64 ((0 : Int))), (.int .i64 ((0 : Int))), (.string ((ByteArray.mk #[])))]), (.int .i64 ((21 : Int)))]) : SV), ([] : Tab cE), 0)
                      else grd (((ByteArray.mk #[])).size ≤ 140737488351232) (grd (I64 ((parseL (bL (s.extract (Int.toNat 0) (IntKind.i64.wrap ((s.size : Int) - 1)).toNat))).fst)) (grd (I64 ((parseL (bL (s.extract (Int.toNat 0) (IntKind.i64.wrap ((s.size : Int) - 1)).toNat))).snd.fst)) (bif (!(oL (prV (2 : Int) (parseL (bL (s.extract (Int.toNat (0 : Int)) (IntKind.i64.wrap ((s.size : Int) - (1 : Int))).toNat))).fst (parseL (bL (s.extract (Int.toNat (0 : Int)) (IntKind.i64.wrap ((s.size : Int) - (1 : Int))).toNat))).snd.fst (ByteArray.mk #[]))).toList == s.toList) then some ((.v (.tuple #[(.agg #[(.int .i64 ((0 : Int))), (.int .i64 ((0 : Int))), (.int .i64 ((0 : Int))), (.string ((ByteArray.mk #[])))]), (.int .i64 ((21 : Int)))]) : SV), ([] : Tab cE), 0)
                              else some ((.v (.tuple #[(.agg #[(.int .i64 ((2 : Int))), (.int .i64 ((parseL (bL (s.extract (Int.toNat (0 : Int)) (IntKind.i64.wrap ((s.size : Int) - (1 : Int))).toNat))).fst)), (.int .i64 ((parseL (bL (s.extract (Int.toNat (0 : Int)) (IntKind.i64.wrap ((s.size : Int) - (1 : Int))).toNat))).snd.fst)), (.string ((ByteArray.mk #[])))]), (.int .i64 ((0 : Int)))]) : SV), ([] : Tab cE), 0))))))
                else bif (decide ((s.size : Int) ≥ (1 : Int))) then bif (!s.toList == (ByteArray.mk #[(110 : UInt8), (117 : UInt8), (108 : UInt8), (108 : UInt8)]).toList) then grd ((s).data.toList.length ≤ 9223372036854775807) (bif (decide ((parseL (bL s)).snd.fst > (0 : Int))) then bif (s.toList == (ByteArray.mk #[]).toList) then some ((.v (.tuple #[(.agg #[(.int .i64 ((0 : Int))), (.int .i64 ((0 : Int))), (.int .i64 ((0 : Int))), (.string ((ByteArray.mk #[])))]), (.int .i64 ((21 : Int)))]) : SV), ([] : Tab cE), 0)
                          else grd (((ByteArray.mk #[])).size ≤ 140737488351232) (grd (I64 ((parseL (bL s)).fst)) (grd (I64 ((parseL (bL s)).snd.fst)) (bif (!(oL (prV (2 : Int) (parseL (bL s)).fst (parseL (bL s)).snd.fst (ByteArray.mk #[]))).toList == s.toList) then some ((.v (.tuple #[(.agg #[(.int .i64 ((0 : Int))), (.int .i64 ((0 : Int))), (.int .i64 ((0 : Int))), (.string ((ByteArray.mk #[])))]), (.int .i64 ((21 : Int)))]) : SV), ([] : Tab cE), 0)
                                  else some ((.v (.tuple #[(.agg #[(.int .i64 ((2 : Int))), (.int .i64 ((parseL (bL s)).fst)), (.int .i64 ((parseL (bL s)).snd.fst)), (.string ((ByteArray.mk #[])))]), (.int .i64 ((0 : Int)))]) : SV), ([] : Tab cE), 0))))
                        else bif (s.toList == (ByteArray.mk #[]).toList) then some ((.v (.tuple #[(.agg #[(.int .i64 ((0 : Int))), (.int .i64 ((0 : Int))), (.int .i64 ((0 : Int))), (.string ((ByteArray.mk #[])))]), (.int .i64 ((21 : Int)))]) : SV), ([] : Tab cE), 0)
                          else grd (((ByteArray.mk #[])).size ≤ 140737488351232) (grd (I64 ((parseL (bL s)).fst)) (grd (I64 (0)) (bif (!(oL (prV (1 : Int) (parseL (bL s)).fst (0 : Int) (ByteArray.mk #[]))).toList == s.toList) then some ((.v (.tuple #[(.agg #[(.int .i64 ((0 : Int))), (.int .i64 ((0 : Int))), (.int .i64 ((0 : Int))), (.string ((ByteArray.mk #[])))]), (.int .i64 ((21 : Int)))]) : SV), ([] : Tab cE), 0)
                                  else some ((.v (.tuple #[(.agg #[(.int .i64 ((1 : Int))), (.int .i64 ((parseL (bL s)).fst)), (.int .i64 ((0 : Int))), (.string ((ByteArray.mk #[])))]), (.int .i64 ((0 : Int)))]) : SV), ([] : Tab cE), 0)))))
                    else bif (s.toList == (ByteArray.mk #[]).toList) then some ((.v (.tuple #[(.agg #[(.int .i64 ((0 : Int))), (.int .i64 ((0 : Int))), (.int .i64 ((0 : Int))), (.string ((ByteArray.mk #[])))]), (.int .i64 ((21 : Int)))]) : SV), ([] : Tab cE), 0)
                      else grd (((ByteArray.mk #[])).size ≤ 140737488351232) (grd (I64 (0)) (bif (!(oL (prV (0 : Int) (0 : Int) (0 : Int) (ByteArray.mk #[]))).toList == s.toList) then some ((.v (.tuple #[(.agg #[(.int .i64 ((0 : Int))), (.int .i64 ((0 : Int))), (.int .i64 ((0 : Int))), (.string ((ByteArray.mk #[])))]), (.int .i64 ((21 : Int)))]) : SV), ([] : Tab cE), 0)
                            else some ((.v (.tuple #[(.agg #[(.int .i64 ((0 : Int))), (.int .i64 ((0 : Int))), (.int .i64 ((0 : Int))), (.string ((ByteArray.mk #[])))]), (.int .i64 ((0 : Int)))]) : SV), ([] : Tab cE), 0)))
                  else bif (s.toList == (ByteArray.mk #[]).toList) then some ((.v (.tuple #[(.agg #[(.int .i64 ((0 : Int))), (.int .i64 ((0 : Int))), (.int .i64 ((0 : Int))), (.string ((ByteArray.mk #[])))]), (.int .i64 ((21 : Int)))]) : SV), ([] : Tab cE), 0)
                    else grd (((ByteArray.mk #[])).size ≤ 140737488351232) (grd (I64 (0)) (bif (!(oL (prV (0 : Int) (0 : Int) (0 : Int) (ByteArray.mk #[]))).toList == s.toList) then some ((.v (.tuple #[(.agg #[(.int .i64 ((0 : Int))), (.int .i64 ((0 : Int))), (.int .i64 ((0 : Int))), (.string ((ByteArray.mk #[])))]), (.int .i64 ((21 : Int)))]) : SV), ([] : Tab cE), 0)
                          else some ((.v (.tuple #[(.agg #[(.int .i64 ((0 : Int))), (.int .i64 ((0 : Int))), (.int .i64 ((0 : Int))), (.string ((ByteArray.mk #[])))]), (.int .i64 ((0 : Int)))]) : SV), ([] : Tab cE), 0)))))
      else bif (decide ((s.size : Int) ≥ (1 : Int))) then bif (!s.toList == (ByteArray.mk #[(110 : UInt8), (117 : UInt8), (108 : UInt8), (108 : UInt8)]).toList) then grd ((s).data.toList.length ≤ 9223372036854775807) (bif (decide ((parseL (bL s)).snd.fst > (0 : Int))) then bif (s.toList == (ByteArray.mk #[]).toList) then some ((.v (.tuple #[(.agg #[(.int .i64 ((0 : Int))), (.int .i64 ((0 : Int))), (.int .i64 ((0 : Int))), (.string ((ByteArray.mk #[])))]), (.int .i64 ((21 : Int)))]) : SV), ([] : Tab cE), 0)
                else grd (((ByteArray.mk #[])).size ≤ 140737488351232) (grd (I64 ((parseL (bL s)).fst)) (grd (I64 ((parseL (bL s)).snd.fst)) (bif (!(oL (prV (2 : Int) (parseL (bL s)).fst (parseL (bL s)).snd.fst (ByteArray.mk #[]))).toList == s.toList) then some ((.v (.tuple #[(.agg #[(.int .i64 ((0 : Int))), (.int .i64 ((0 : Int))), (.int .i64 ((0 : Int))), (.string ((ByteArray.mk #[])))]), (.int .i64 ((21 : Int)))]) : SV), ([] : Tab cE), 0)
                        else some ((.v (.tuple #[(.agg #[(.int .i64 ((2 : Int))), (.int .i64 ((parseL (bL s)).fst)), (.int .i64 ((parseL (bL s)).snd.fst)), (.string ((ByteArray.mk #[])))]), (.int .i64 ((0 : Int)))]) : SV), ([] : Tab cE), 0))))
              else bif (s.toList == (ByteArray.mk #[]).toList) then some ((.v (.tuple #[(.agg #[(.int .i64 ((0 : Int))), (.int .i64 ((0 : Int))), (.int .i64 ((0 : Int))), (.string ((ByteArray.mk #[])))]), (.int .i64 ((21 : Int)))]) : SV), ([] : Tab cE), 0)
                else grd (((ByteArray.mk #[])).size ≤ 140737488351232) (grd (I64 ((parseL (bL s)).fst)) (grd (I64 (0)) (bif (!(oL (prV (1 : Int) (parseL (bL s)).fst (0 : Int) (ByteArray.mk #[]))).toList == s.toList) then some ((.v (.tuple #[(.agg #[(.int .i64 ((0 : Int))), (.int .i64 ((0 : Int))), (.int .i64 ((0 : Int))), (.string ((ByteArray.mk #[])))]), (.int .i64 ((21 : Int)))]) : SV), ([] : Tab cE), 0)
                        else some ((.v (.tuple #[(.agg #[(.int .i64 ((1 : Int))), (.int .i64 ((parseL (bL s)).fst)), (.int .i64 ((0 : Int))), (.string ((ByteArray.mk #[])))]), (.int .i64 ((0 : Int)))]) : SV), ([] : Tab cE), 0)))))
          else bif (s.toList == (ByteArray.mk #[]).toList) then some ((.v (.tuple #[(.agg #[(.int .i64 ((0 : Int))), (.int .i64 ((0 : Int))), (.int .i64 ((0 : Int))), (.string ((ByteArray.mk #[])))]), (.int .i64 ((21 : Int)))]) : SV), ([] : Tab cE), 0)
            else grd (((ByteArray.mk #[])).size ≤ 140737488351232) (grd (I64 (0)) (bif (!(oL (prV (0 : Int) (0 : Int) (0 : Int) (ByteArray.mk #[]))).toList == s.toList) then some ((.v (.tuple #[(.agg #[(.int .i64 ((0 : Int))), (.int .i64 ((0 : Int))), (.int .i64 ((0 : Int))), (.string ((ByteArray.mk #[])))]), (.int .i64 ((21 : Int)))]) : SV), ([] : Tab cE), 0)
                  else some ((.v (.tuple #[(.agg #[(.int .i64 ((0 : Int))), (.int .i64 ((0 : Int))), (.int .i64 ((0 : Int))), (.string ((ByteArray.mk #[])))]), (.int .i64 ((0 : Int)))]) : SV), ([] : Tab cE), 0)))
        else bif (s.toList == (ByteArray.mk #[]).toList) then some ((.v (.tuple #[(.agg #[(.int .i64 ((0 : Int))), (.int .i64 ((0 : Int))), (.int .i64 ((0 : Int))), (.string ((ByteArray.mk #[])))]), (.int .i64 ((21 : Int)))]) : SV), ([] : Tab cE), 0)
          else grd (((ByteArray.mk #[])).size ≤ 140737488351232) (grd (I64 (0)) (bif (!(oL (prV (0 : Int) (0 : Int) (0 : Int) (ByteArray.mk #[]))).toList == s.toList) then some ((.v (.tuple #[(.agg #[(.int .i64 ((0 : Int))), (.int .i64 ((0 : Int))), (.int .i64 ((0 : Int))), (.string ((ByteArray.mk #[])))]), (.int .i64 ((21 : Int)))]) : SV), ([] : Tab cE), 0)
                else some ((.v (.tuple #[(.agg #[(.int .i64 ((0 : Int))), (.int .i64 ((0 : Int))), (.int .i64 ((0 : Int))), (.string ((ByteArray.mk #[])))]), (.int .i64 ((0 : Int)))]) : SV), ([] : Tab cE), 0)))
theorem paR_does (s : ByteArray) {r : Rs} (h : paR s = some r) : Does cE 14 [] 0 [.v (st s)] r.1 r.2.1 r.2.2 := by
  unfold paR at h
  refine does_of_fin (fn := Tryz.f14) (c := bd Tryz.f14) rfl (by kernel_rfl) rfl ?_
  refine obif h (fun c1 h => ?_) (fun c1 h => ?_)
  · refine obif h (fun c2 h => ?_) (fun c2 h => ?_)
    · exact osome h (sfin (keep := []) (by decide) [.t, .t, .t, .l, .t, .t, .t, .t, .t, .t, .l] (by kernel_rfl) (cj c1 (cj c1 (cj c1 (cj c1 (cj c2 (cj c2 (cj c2 (cj c2 (cj c2 cj0))))))))))
    · refine ogrd h (fun c3 h => ?_)
      refine ogrd h (fun c4 h => ?_)
      refine ogrd h (fun c5 h => ?_)
      refine obif h (fun c6 h => ?_) (fun c6 h => ?_)
      · exact osome h (sfin (keep := []) (by decide) [.t, .t, .t, .l, .t, .f, .f, .c (.v (.string (oL (prV 4 1 0 (ByteArray.mk #[]))))) [] 0, .f, .f, .f, .t] (by kernel_rfl) (cj c1 (cj c1 (cj c1 (cj c1 (cj c2 (cj c2 (cj (rvprint_does ((4 : Int)) ((1 : Int)) ((0 : Int)) ((ByteArray.mk #[])) (by assumption) (by assumption) (by assumption)) (cj c2 (cj c2 (cj c2 (cj c6 cj0))))))))))))
      · exact osome h (sfin (keep := []) (by decide) [.t, .t, .t, .l, .t, .f, .f, .c (.v (.string (oL (prV 4 1 0 (ByteArray.mk #[]))))) [] 0, .f, .f, .f, .f] (by kernel_rfl) (cj c1 (cj c1 (cj c1 (cj c1 (cj c2 (cj c2 (cj (rvprint_does ((4 : Int)) ((1 : Int)) ((0 : Int)) ((ByteArray.mk #[])) (by assumption) (by assumption) (by assumption)) (cj c2 (cj c2 (cj c2 (cj c6 cj0))))))))))))
  · refine obif h (fun c7 h => ?_) (fun c7 h => ?_)
    · refine obif h (fun c8 h => ?_) (fun c8 h => ?_)
      · exact osome h (sfin (keep := []) (by decide) [.f, .f, .f, .t, .f, .t, .t, .t, .t, .t, .l] (by kernel_rfl) (cj c1 (cj c1 (cj c1 (cj c7 (cj c1 (cj c8 (cj c8 (cj c8 (cj c8 (cj c8 cj0)))))))))))
      · refine ogrd h (fun c9 h => ?_)
        refine ogrd h (fun c10 h => ?_)
        refine obif h (fun c11 h => ?_) (fun c11 h => ?_)
        · exact osome h (sfin (keep := []) (by decide) [.f, .f, .f, .t, .f, .f, .f, .c (.v (.string (oL (prV 4 0 0 (ByteArray.mk #[]))))) [] 0, .f, .f, .f, .t] (by kernel_rfl) (cj c1 (cj c1 (cj c1 (cj c7 (cj c1 (cj c8 (cj c8 (cj (rvprint_does ((4 : Int)) ((0 : Int)) ((0 : Int)) ((ByteArray.mk #[])) (by assumption) (by assumption) (by assumption)) (cj c8 (cj c8 (cj c8 (cj c11 cj0)))))))))))))
        · exact osome h (sfin (keep := []) (by decide) [.f, .f, .f, .t, .f, .f, .f, .c (.v (.string (oL (prV 4 0 0 (ByteArray.mk #[]))))) [] 0, .f, .f, .f, .f] (by kernel_rfl) (cj c1 (cj c1 (cj c1 (cj c7 (cj c1 (cj c8 (cj c8 (cj (rvprint_does ((4 : Int)) ((0 : Int)) ((0 : Int)) ((ByteArray.mk #[])) (by assumption) (by assumption) (by assumption)) (cj c8 (cj c8 (cj c8 (cj c11 cj0)))))))))))))
    · refine obif h (fun c12 h => ?_) (fun c12 h => ?_)
      · refine ogrd h (fun c13 h => ?_)
        refine obif h (fun c14 h => ?_) (fun c14 h => ?_)
        · refine ogrd h (fun c15 h => ?_)
          refine obif h (fun c16 h => ?_) (fun c16 h => ?_)
          · exact osome h (sfin (keep := []) (by decide) [.f, .f, .f, .f, .t, .t, .t, .t, .t, .c (.v (.string (List.foldl (fun r n => r.push (UInt8.ofNat n.toNat)) ByteArray.empty (quR s (s.size + 1) 1 [])))) [] 0, .t, .t, .t, .t, .t, .l] (by kernel_rfl) (cj c1 (cj c1 (cj c1 (cj c7 (cj c12 (cj c12 (cj c13 (cj c12 (cj c12 (cj c14 (cj (rquoted_does (s) (by assumption)) (cj c16 (cj c16 (cj c16 (cj c16 (cj c16 cj0)))))))))))))))))
          · refine ogrd h (fun c17 h => ?_)
            refine ogrd h (fun c18 h => ?_)
            refine obif h (fun c19 h => ?_) (fun c19 h => ?_)
            · exact osome h (sfin (keep := []) (by decide) [.f, .f, .f, .f, .t, .t, .t, .t, .t, .c (.v (.string (List.foldl (fun r n => r.push (UInt8.ofNat n.toNat)) ByteArray.empty (quR s (s.size + 1) 1 [])))) [] 0, .f, .f, .c (.v (.string (oL (prV 3 0 0 (List.foldl (fun r n => r.push (UInt8.ofNat n.toNat)) ByteArray.empty (quR s (s.size + 1) 1 [])))))) [] 0, .f, .f, .f, .t] (by kernel_rfl) (cj c1 (cj c1 (cj c1 (cj c7 (cj c12 (cj c12 (cj c13 (cj c12 (cj c12 (cj c14 (cj (rquoted_does (s) (by assumption)) (cj c16 (cj c16 (cj (rvprint_does ((3 : Int)) ((0 : Int)) ((0 : Int)) (List.foldl (fun r n => r.push (UInt8.ofNat n.toNat)) ByteArray.empty (quR s (s.size + (1 : Nat)) (1 : Nat) [])) (by assumption) (by assumption) (by assumption)) (cj c16 (cj c16 (cj c16 (cj c19 cj0)))))))))))))))))))
            · exact osome h (sfin (keep := []) (by decide) [.f, .f, .f, .f, .t, .t, .t, .t, .t, .c (.v (.string (List.foldl (fun r n => r.push (UInt8.ofNat n.toNat)) ByteArray.empty (quR s (s.size + 1) 1 [])))) [] 0, .f, .f, .c (.v (.string (oL (prV 3 0 0 (List.foldl (fun r n => r.push (UInt8.ofNat n.toNat)) ByteArray.empty (quR s (s.size + 1) 1 [])))))) [] 0, .f, .f, .f, .f] (by kernel_rfl) (cj c1 (cj c1 (cj c1 (cj c7 (cj c12 (cj c12 (cj c13 (cj c12 (cj c12 (cj c14 (cj (rquoted_does (s) (by assumption)) (cj c16 (cj c16 (cj (rvprint_does ((3 : Int)) ((0 : Int)) ((0 : Int)) (List.foldl (fun r n => r.push (UInt8.ofNat n.toNat)) ByteArray.empty (quR s (s.size + (1 : Nat)) (1 : Nat) [])) (by assumption) (by assumption) (by assumption)) (cj c16 (cj c16 (cj c16 (cj c19 cj0)))))))))))))))))))
        · refine obif h (fun c20 h => ?_) (fun c20 h => ?_)
          · refine ogrd h (fun c21 h => ?_)
            refine obif h (fun c22 h => ?_) (fun c22 h => ?_)
            · exact osome h (sfin (keep := []) (by decide) [.f, .f, .f, .f, .t, .t, .t, .t, .f, .t, .t, .t, .t, .t, .c (.v (.tuple #[(.agg #[(.int .i64 ((gpL (bL s)).fst)), (.int .i64 ((gpL (bL s)).snd.fst))]), (.int .i64 ((gpL (bL s)).snd.snd))])) [] 0, .t, .t, .t, .t, .t, .l] (by kernel_rfl) (cj c1 (cj c1 (cj c1 (cj c7 (cj c12 (cj c12 (cj c13 (cj c12 (cj c12 (cj c14 (cj c12 (cj c12 (cj c13 (cj c12 (cj c12 (cj c20 (cj (rgparse_does (s).data.toList (by assumption)) (cj c22 (cj c22 (cj c22 (cj c22 (cj c22 cj0)))))))))))))))))))))))
            · refine ogrd h (fun c23 h => ?_)
              refine ogrd h (fun c24 h => ?_)
              refine ogrd h (fun c25 h => ?_)
              refine obif h (fun c26 h => ?_) (fun c26 h => ?_)
              · exact osome h (sfin (keep := []) (by decide) [.f, .f, .f, .f, .t, .t, .t, .t, .f, .t, .t, .t, .t, .t, .c (.v (.tuple #[(.agg #[(.int .i64 ((gpL (bL s)).fst)), (.int .i64 ((gpL (bL s)).snd.fst))]), (.int .i64 ((gpL (bL s)).snd.snd))])) [] 0, .f, .f, .c (.v (.string (oL (prV 5 (gpL (bL s)).fst (gpL (bL s)).snd.fst (ByteArray.mk #[]))))) [] 0, .f, .f, .f, .t] (by kernel_rfl) (cj c1 (cj c1 (cj c1 (cj c7 (cj c12 (cj c12 (cj c13 (cj c12 (cj c12 (cj c14 (cj c12 (cj c12 (cj c13 (cj c12 (cj c12 (cj c20 (cj (rgparse_does (s).data.toList (by assumption)) (cj c22 (cj c22 (cj (rvprint_does ((5 : Int)) ((gpL (bL s)).fst) ((gpL (bL s)).snd.fst) ((ByteArray.mk #[])) (by assumption) (by assumption) (by assumption)) (cj c22 (cj c22 (cj c22 (cj c26 cj0)))))))))))))))))))))))))
              · exact osome h (sfin (keep := []) (by decide) [.f, .f, .f, .f, .t, .t, .t, .t, .f, .t, .t, .t, .t, .t, .c (.v (.tuple #[(.agg #[(.int .i64 ((gpL (bL s)).fst)), (.int .i64 ((gpL (bL s)).snd.fst))]), (.int .i64 ((gpL (bL s)).snd.snd))])) [] 0, .f, .f, .c (.v (.string (oL (prV 5 (gpL (bL s)).fst (gpL (bL s)).snd.fst (ByteArray.mk #[]))))) [] 0, .f, .f, .f, .f] (by kernel_rfl) (cj c1 (cj c1 (cj c1 (cj c7 (cj c12 (cj c12 (cj c13 (cj c12 (cj c12 (cj c14 (cj c12 (cj c12 (cj c13 (cj c12 (cj c12 (cj c20 (cj (rgparse_does (s).data.toList (by assumption)) (cj c22 (cj c22 (cj (rvprint_does ((5 : Int)) ((gpL (bL s)).fst) ((gpL (bL s)).snd.fst) ((ByteArray.mk #[])) (by assumption) (by assumption) (by assumption)) (cj c22 (cj c22 (cj c22 (cj c26 cj0)))))))))))))))))))))))))
          · refine ogrd h (fun c27 h => ?_)
            refine obif h (fun c28 h => ?_) (fun c28 h => ?_)
            · refine ogrd h (fun c29 h => ?_)
              refine ogrd h (fun c30 h => ?_)
              refine obif h (fun c31 h => ?_) (fun c31 h => ?_)
              · exact osome h (sfin (keep := []) (by decide) [.f, .f, .f, .f, .t, .t, .t, .t, .f, .t, .t, .t, .t, .f, .t, .t, .t, .t, .t, .t, .t, .c (.v (.tuple #[(.agg #[(.int .i64 ((parseL (bL (s.extract (Int.toNat 0) (IntKind.i64.wrap ((s.size : Int) - 1)).toNat))).fst)), (.int .i64 ((parseL (bL (s.extract (Int.toNat 0) (IntKind.i64.wrap ((s.size : Int) - 1)).toNat))).snd.fst))]), (.int .i64 ((parseL (bL (s.extract (Int.toNat 0) (IntKind.i64.wrap ((s.size : Int) - 1)).toNat))).snd.snd))])) [] 0, .t, .t, .t, .t, .t, .l] (by kernel_rfl) (cj c1 (cj c1 (cj c1 (cj c7 (cj c12 (cj c12 (cj c13 (cj c12 (cj c12 (cj c14 (cj c12 (cj c12 (cj c13 (cj c12 (cj c12 (cj c20 (cj c12 (cj c12 (cj c12 (cj c12 (cj c27 (cj c12 (cj c12 (cj c28 (cj c29 (cj (rparse_does (s.extract (Int.toNat (0 : Int)) (IntKind.i64.wrap ((s.size : Int) - (1 : Int))).toNat).data.toList (by assumption)) (cj c31 (cj c31 (cj c31 (cj c31 (cj c31 cj0))))))))))))))))))))))))))))))))
              · refine ogrd h (fun c32 h => ?_)
                refine ogrd h (fun c33 h => ?_)
                refine ogrd h (fun c34 h => ?_)
                refine obif h (fun c35 h => ?_) (fun c35 h => ?_)
                · exact osome h (sfin (keep := []) (by decide) [.f, .f, .f, .f, .t, .t, .t, .t, .f, .t, .t, .t, .t, .f, .t, .t, .t, .t, .t, .t, .t, .c (.v (.tuple #[(.agg #[(.int .i64 ((parseL (bL (s.extract (Int.toNat 0) (IntKind.i64.wrap ((s.size : Int) - 1)).toNat))).fst)), (.int .i64 ((parseL (bL (s.extract (Int.toNat 0) (IntKind.i64.wrap ((s.size : Int) - 1)).toNat))).snd.fst))]), (.int .i64 ((parseL (bL (s.extract (Int.toNat 0) (IntKind.i64.wrap ((s.size : Int) - 1)).toNat))).snd.snd))])) [] 0, .f, .f, .c (.v (.string (oL (prV 2 (parseL (bL (s.extract (Int.toNat 0) (IntKind.i64.wrap ((s.size : Int) - 1)).toNat))).fst (parseL (bL (s.extract (Int.toNat 0) (IntKind.i64.wrap ((s.size : Int) - 1)).toNat))).snd.fst (ByteArray.mk #[]))))) [] 0, .f, .f, .f, .t] (by kernel_rfl) (cj c1 (cj c1 (cj c1 (cj c7 (cj c12 (cj c12 (cj c13 (cj c12 (cj c12 (cj c14 (cj c12 (cj c12 (cj c13 (cj c12 (cj c12 (cj c20 (cj c12 (cj c12 (cj c12 (cj c12 (cj c27 (cj c12 (cj c12 (cj c28 (cj c29 (cj (rparse_does (s.extract (Int.toNat (0 : Int)) (IntKind.i64.wrap ((s.size : Int) - (1 : Int))).toNat).data.toList (by assumption)) (cj c31 (cj c31 (cj (rvprint_does ((2 : Int)) ((parseL (bL (s.extract (Int.toNat (0 : Int)) (IntKind.i64.wrap ((s.size : Int) - (1 : Int))).toNat))).fst) ((parseL (bL (s.extract (Int.toNat (0 : Int)) (IntKind.i64.wrap ((s.size : Int) - (1 : Int))).toNat))).snd.fst) ((ByteArray.mk #[])) (by assumption) (by assumption) (by assumption)) (cj c31 (cj c31 (cj c31 (cj c35 cj0))))))))))))))))))))))))))))))))))
                · exact osome h (sfin (keep := []) (by decide) [.f, .f, .f, .f, .t, .t, .t, .t, .f, .t, .t, .t, .t, .f, .t, .t, .t, .t, .t, .t, .t, .c (.v (.tuple #[(.agg #[(.int .i64 ((parseL (bL (s.extract (Int.toNat 0) (IntKind.i64.wrap ((s.size : Int) - 1)).toNat))).fst)), (.int .i64 ((parseL (bL (s.extract (Int.toNat 0) (IntKind.i64.wrap ((s.size : Int) - 1)).toNat))).snd.fst))]), (.int .i64 ((parseL (bL (s.extract (Int.toNat 0) (IntKind.i64.wrap ((s.size : Int) - 1)).toNat))).snd.snd))])) [] 0, .f, .f, .c (.v (.string (oL (prV 2 (parseL (bL (s.extract (Int.toNat 0) (IntKind.i64.wrap ((s.size : Int) - 1)).toNat))).fst (parseL (bL (s.extract (Int.toNat 0) (IntKind.i64.wrap ((s.size : Int) - 1)).toNat))).snd.fst (ByteArray.mk #[]))))) [] 0, .f, .f, .f, .f] (by kernel_rfl) (cj c1 (cj c1 (cj c1 (cj c7 (cj c12 (cj c12 (cj c13 (cj c12 (cj c12 (cj c14 (cj c12 (cj c12 (cj c13 (cj c12 (cj c12 (cj c20 (cj c12 (cj c12 (cj c12 (cj c12 (cj c27 (cj c12 (cj c12 (cj c28 (cj c29 (cj (rparse_does (s.extract (Int.toNat (0 : Int)) (IntKind.i64.wrap ((s.size : Int) - (1 : Int))).toNat).data.toList (by assumption)) (cj c31 (cj c31 (cj (rvprint_does ((2 : Int)) ((parseL (bL (s.extract (Int.toNat (0 : Int)) (IntKind.i64.wrap ((s.size : Int) - (1 : Int))).toNat))).fst) ((parseL (bL (s.extract (Int.toNat (0 : Int)) (IntKind.i64.wrap ((s.size : Int) - (1 : Int))).toNat))).snd.fst) ((ByteArray.mk #[])) (by assumption) (by assumption) (by assumption)) (cj c31 (cj c31 (cj c31 (cj c35 cj0))))))))))))))))))))))))))))))))))
            · refine obif h (fun c36 h => ?_) (fun c36 h => ?_)
              · refine obif h (fun c37 h => ?_) (fun c37 h => ?_)
                · refine ogrd h (fun c38 h => ?_)
                  refine obif h (fun c39 h => ?_) (fun c39 h => ?_)
                  · refine obif h (fun c40 h => ?_) (fun c40 h => ?_)
                    · exact osome h (sfin (keep := []) (by decide) [.f, .f, .f, .f, .t, .t, .t, .t, .f, .t, .t, .t, .t, .f, .t, .t, .t, .t, .t, .t, .f, .t, .t, .t, .t, .c (.v (.tuple #[(.agg #[(.int .i64 ((parseL (bL s)).fst)), (.int .i64 ((parseL (bL s)).snd.fst))]), (.int .i64 ((parseL (bL s)).snd.snd))])) [] 0, .t, .t, .t, .t, .t, .t, .l] (by kernel_rfl) (cj c1 (cj c1 (cj c1 (cj c7 (cj c12 (cj c12 (cj c13 (cj c12 (cj c12 (cj c14 (cj c12 (cj c12 (cj c13 (cj c12 (cj c12 (cj c20 (cj c12 (cj c12 (cj c12 (cj c12 (cj c27 (cj c12 (cj c12 (cj c28 (cj c36 (cj c36 (cj c36 (cj c37 (cj (rparse_does (s).data.toList (by assumption)) (cj c39 (cj c40 (cj c40 (cj c40 (cj c40 (cj c40 cj0))))))))))))))))))))))))))))))))))))
                    · refine ogrd h (fun c41 h => ?_)
                      refine ogrd h (fun c42 h => ?_)
                      refine ogrd h (fun c43 h => ?_)
                      refine obif h (fun c44 h => ?_) (fun c44 h => ?_)
                      · exact osome h (sfin (keep := []) (by decide) [.f, .f, .f, .f, .t, .t, .t, .t, .f, .t, .t, .t, .t, .f, .t, .t, .t, .t, .t, .t, .f, .t, .t, .t, .t, .c (.v (.tuple #[(.agg #[(.int .i64 ((parseL (bL s)).fst)), (.int .i64 ((parseL (bL s)).snd.fst))]), (.int .i64 ((parseL (bL s)).snd.snd))])) [] 0, .t, .f, .f, .c (.v (.string (oL (prV 2 (parseL (bL s)).fst (parseL (bL s)).snd.fst (ByteArray.mk #[]))))) [] 0, .f, .f, .f, .t] (by kernel_rfl) (cj c1 (cj c1 (cj c1 (cj c7 (cj c12 (cj c12 (cj c13 (cj c12 (cj c12 (cj c14 (cj c12 (cj c12 (cj c13 (cj c12 (cj c12 (cj c20 (cj c12 (cj c12 (cj c12 (cj c12 (cj c27 (cj c12 (cj c12 (cj c28 (cj c36 (cj c36 (cj c36 (cj c37 (cj (rparse_does (s).data.toList (by assumption)) (cj c39 (cj c40 (cj c40 (cj (rvprint_does ((2 : Int)) ((parseL (bL s)).fst) ((parseL (bL s)).snd.fst) ((ByteArray.mk #[])) (by assumption) (by assumption) (by assumption)) (cj c40 (cj c40 (cj c40 (cj c44 cj0))))))))))))))))))))))))))))))))))))))
                      · exact osome h (sfin (keep := []) (by decide) [.f, .f, .f, .f, .t, .t, .t, .t, .f, .t, .t, .t, .t, .f, .t, .t, .t, .t, .t, .t, .f, .t, .t, .t, .t, .c (.v (.tuple #[(.agg #[(.int .i64 ((parseL (bL s)).fst)), (.int .i64 ((parseL (bL s)).snd.fst))]), (.int .i64 ((parseL (bL s)).snd.snd))])) [] 0, .t, .f, .f, .c (.v (.string (oL (prV 2 (parseL (bL s)).fst (parseL (bL s)).snd.fst (ByteArray.mk #[]))))) [] 0, .f, .f, .f, .f] (by kernel_rfl) (cj c1 (cj c1 (cj c1 (cj c7 (cj c12 (cj c12 (cj c13 (cj c12 (cj c12 (cj c14 (cj c12 (cj c12 (cj c13 (cj c12 (cj c12 (cj c20 (cj c12 (cj c12 (cj c12 (cj c12 (cj c27 (cj c12 (cj c12 (cj c28 (cj c36 (cj c36 (cj c36 (cj c37 (cj (rparse_does (s).data.toList (by assumption)) (cj c39 (cj c40 (cj c40 (cj (rvprint_does ((2 : Int)) ((parseL (bL s)).fst) ((parseL (bL s)).snd.fst) ((ByteArray.mk #[])) (by assumption) (by assumption) (by assumption)) (cj c40 (cj c40 (cj c40 (cj c44 cj0))))))))))))))))))))))))))))))))))))))
                  · refine obif h (fun c45 h => ?_) (fun c45 h => ?_)
                    · exact osome h (sfin (keep := []) (by decide) [.f, .f, .f, .f, .t, .t, .t, .t, .f, .t, .t, .t, .t, .f, .t, .t, .t, .t, .t, .t, .f, .t, .t, .t, .t, .c (.v (.tuple #[(.agg #[(.int .i64 ((parseL (bL s)).fst)), (.int .i64 ((parseL (bL s)).snd.fst))]), (.int .i64 ((parseL (bL s)).snd.snd))])) [] 0, .f, .t, .t, .t, .t, .t, .l] (by kernel_rfl) (cj c1 (cj c1 (cj c1 (cj c7 (cj c12 (cj c12 (cj c13 (cj c12 (cj c12 (cj c14 (cj c12 (cj c12 (cj c13 (cj c12 (cj c12 (cj c20 (cj c12 (cj c12 (cj c12 (cj c12 (cj c27 (cj c12 (cj c12 (cj c28 (cj c36 (cj c36 (cj c36 (cj c37 (cj (rparse_does (s).data.toList (by assumption)) (cj c39 (cj c45 (cj c45 (cj c45 (cj c45 (cj c45 cj0))))))))))))))))))))))))))))))))))))
                    · refine ogrd h (fun c46 h => ?_)
                      refine ogrd h (fun c47 h => ?_)
                      refine ogrd h (fun c48 h => ?_)
                      refine obif h (fun c49 h => ?_) (fun c49 h => ?_)
                      · exact osome h (sfin (keep := []) (by decide) [.f, .f, .f, .f, .t, .t, .t, .t, .f, .t, .t, .t, .t, .f, .t, .t, .t, .t, .t, .t, .f, .t, .t, .t, .t, .c (.v (.tuple #[(.agg #[(.int .i64 ((parseL (bL s)).fst)), (.int .i64 ((parseL (bL s)).snd.fst))]), (.int .i64 ((parseL (bL s)).snd.snd))])) [] 0, .f, .f, .f, .c (.v (.string (oL (prV 1 (parseL (bL s)).fst 0 (ByteArray.mk #[]))))) [] 0, .f, .f, .f, .t] (by kernel_rfl) (cj c1 (cj c1 (cj c1 (cj c7 (cj c12 (cj c12 (cj c13 (cj c12 (cj c12 (cj c14 (cj c12 (cj c12 (cj c13 (cj c12 (cj c12 (cj c20 (cj c12 (cj c12 (cj c12 (cj c12 (cj c27 (cj c12 (cj c12 (cj c28 (cj c36 (cj c36 (cj c36 (cj c37 (cj (rparse_does (s).data.toList (by assumption)) (cj c39 (cj c45 (cj c45 (cj (rvprint_does ((1 : Int)) ((parseL (bL s)).fst) ((0 : Int)) ((ByteArray.mk #[])) (by assumption) (by assumption) (by assumption)) (cj c45 (cj c45 (cj c45 (cj c49 cj0))))))))))))))))))))))))))))))))))))))
                      · exact osome h (sfin (keep := []) (by decide) [.f, .f, .f, .f, .t, .t, .t, .t, .f, .t, .t, .t, .t, .f, .t, .t, .t, .t, .t, .t, .f, .t, .t, .t, .t, .c (.v (.tuple #[(.agg #[(.int .i64 ((parseL (bL s)).fst)), (.int .i64 ((parseL (bL s)).snd.fst))]), (.int .i64 ((parseL (bL s)).snd.snd))])) [] 0, .f, .f, .f, .c (.v (.string (oL (prV 1 (parseL (bL s)).fst 0 (ByteArray.mk #[]))))) [] 0, .f, .f, .f, .f] (by kernel_rfl) (cj c1 (cj c1 (cj c1 (cj c7 (cj c12 (cj c12 (cj c13 (cj c12 (cj c12 (cj c14 (cj c12 (cj c12 (cj c13 (cj c12 (cj c12 (cj c20 (cj c12 (cj c12 (cj c12 (cj c12 (cj c27 (cj c12 (cj c12 (cj c28 (cj c36 (cj c36 (cj c36 (cj c37 (cj (rparse_does (s).data.toList (by assumption)) (cj c39 (cj c45 (cj c45 (cj (rvprint_does ((1 : Int)) ((parseL (bL s)).fst) ((0 : Int)) ((ByteArray.mk #[])) (by assumption) (by assumption) (by assumption)) (cj c45 (cj c45 (cj c45 (cj c49 cj0))))))))))))))))))))))))))))))))))))))
                · refine obif h (fun c50 h => ?_) (fun c50 h => ?_)
                  · exact osome h (sfin (keep := []) (by decide) [.f, .f, .f, .f, .t, .t, .t, .t, .f, .t, .t, .t, .t, .f, .t, .t, .t, .t, .t, .t, .f, .t, .t, .t, .f, .t, .t, .t, .t, .t, .l] (by kernel_rfl) (cj c1 (cj c1 (cj c1 (cj c7 (cj c12 (cj c12 (cj c13 (cj c12 (cj c12 (cj c14 (cj c12 (cj c12 (cj c13 (cj c12 (cj c12 (cj c20 (cj c12 (cj c12 (cj c12 (cj c12 (cj c27 (cj c12 (cj c12 (cj c28 (cj c36 (cj c36 (cj c36 (cj c37 (cj c50 (cj c50 (cj c50 (cj c50 (cj c50 cj0))))))))))))))))))))))))))))))))))
                  · refine ogrd h (fun c51 h => ?_)
                    refine ogrd h (fun c52 h => ?_)
                    refine obif h (fun c53 h => ?_) (fun c53 h => ?_)
                    · exact osome h (sfin (keep := []) (by decide) [.f, .f, .f, .f, .t, .t, .t, .t, .f, .t, .t, .t, .t, .f, .t, .t, .t, .t, .t, .t, .f, .t, .t, .t, .f, .f, .f, .c (.v (.string (oL (prV 0 0 0 (ByteArray.mk #[]))))) [] 0, .f, .f, .f, .t] (by kernel_rfl) (cj c1 (cj c1 (cj c1 (cj c7 (cj c12 (cj c12 (cj c13 (cj c12 (cj c12 (cj c14 (cj c12 (cj c12 (cj c13 (cj c12 (cj c12 (cj c20 (cj c12 (cj c12 (cj c12 (cj c12 (cj c27 (cj c12 (cj c12 (cj c28 (cj c36 (cj c36 (cj c36 (cj c37 (cj c50 (cj c50 (cj (rvprint_does ((0 : Int)) ((0 : Int)) ((0 : Int)) ((ByteArray.mk #[])) (by assumption) (by assumption) (by assumption)) (cj c50 (cj c50 (cj c50 (cj c53 cj0))))))))))))))))))))))))))))))))))))
                    · exact osome h (sfin (keep := []) (by decide) [.f, .f, .f, .f, .t, .t, .t, .t, .f, .t, .t, .t, .t, .f, .t, .t, .t, .t, .t, .t, .f, .t, .t, .t, .f, .f, .f, .c (.v (.string (oL (prV 0 0 0 (ByteArray.mk #[]))))) [] 0, .f, .f, .f, .f] (by kernel_rfl) (cj c1 (cj c1 (cj c1 (cj c7 (cj c12 (cj c12 (cj c13 (cj c12 (cj c12 (cj c14 (cj c12 (cj c12 (cj c13 (cj c12 (cj c12 (cj c20 (cj c12 (cj c12 (cj c12 (cj c12 (cj c27 (cj c12 (cj c12 (cj c28 (cj c36 (cj c36 (cj c36 (cj c37 (cj c50 (cj c50 (cj (rvprint_does ((0 : Int)) ((0 : Int)) ((0 : Int)) ((ByteArray.mk #[])) (by assumption) (by assumption) (by assumption)) (cj c50 (cj c50 (cj c50 (cj c53 cj0))))))))))))))))))))))))))))))))))))
              · refine obif h (fun c54 h => ?_) (fun c54 h => ?_)
                · exact osome h (sfin (keep := []) (by decide) [.f, .f, .f, .f, .t, .t, .t, .t, .f, .t, .t, .t, .t, .f, .t, .t, .t, .t, .t, .t, .f, .f, .f, .f, .l, .t, .t, .t, .t, .t, .l] (by kernel_rfl) (cj c1 (cj c1 (cj c1 (cj c7 (cj c12 (cj c12 (cj c13 (cj c12 (cj c12 (cj c14 (cj c12 (cj c12 (cj c13 (cj c12 (cj c12 (cj c20 (cj c12 (cj c12 (cj c12 (cj c12 (cj c27 (cj c12 (cj c12 (cj c28 (cj c36 (cj c36 (cj c36 (cj c54 (cj c54 (cj c54 (cj c54 (cj c54 cj0)))))))))))))))))))))))))))))))))
                · refine ogrd h (fun c55 h => ?_)
                  refine ogrd h (fun c56 h => ?_)
                  refine obif h (fun c57 h => ?_) (fun c57 h => ?_)
                  · exact osome h (sfin (keep := []) (by decide) [.f, .f, .f, .f, .t, .t, .t, .t, .f, .t, .t, .t, .t, .f, .t, .t, .t, .t, .t, .t, .f, .f, .f, .f, .l, .f, .f, .c (.v (.string (oL (prV 0 0 0 (ByteArray.mk #[]))))) [] 0, .f, .f, .f, .t] (by kernel_rfl) (cj c1 (cj c1 (cj c1 (cj c7 (cj c12 (cj c12 (cj c13 (cj c12 (cj c12 (cj c14 (cj c12 (cj c12 (cj c13 (cj c12 (cj c12 (cj c20 (cj c12 (cj c12 (cj c12 (cj c12 (cj c27 (cj c12 (cj c12 (cj c28 (cj c36 (cj c36 (cj c36 (cj c54 (cj c54 (cj (rvprint_does ((0 : Int)) ((0 : Int)) ((0 : Int)) ((ByteArray.mk #[])) (by assumption) (by assumption) (by assumption)) (cj c54 (cj c54 (cj c54 (cj c57 cj0)))))))))))))))))))))))))))))))))))
                  · exact osome h (sfin (keep := []) (by decide) [.f, .f, .f, .f, .t, .t, .t, .t, .f, .t, .t, .t, .t, .f, .t, .t, .t, .t, .t, .t, .f, .f, .f, .f, .l, .f, .f, .c (.v (.string (oL (prV 0 0 0 (ByteArray.mk #[]))))) [] 0, .f, .f, .f, .f] (by kernel_rfl) (cj c1 (cj c1 (cj c1 (cj c7 (cj c12 (cj c12 (cj c13 (cj c12 (cj c12 (cj c14 (cj c12 (cj c12 (cj c13 (cj c12 (cj c12 (cj c20 (cj c12 (cj c12 (cj c12 (cj c12 (cj c27 (cj c12 (cj c12 (cj c28 (cj c36 (cj c36 (cj c36 (cj c54 (cj c54 (cj (rvprint_does ((0 : Int)) ((0 : Int)) ((0 : Int)) ((ByteArray.mk #[])) (by assumption) (by assumption) (by assumption)) (cj c54 (cj c54 (cj c54 (cj c57 cj0)))))))))))))))))))))))))))))))))))
      · refine obif h (fun c58 h => ?_) (fun c58 h => ?_)
        · refine obif h (fun c59 h => ?_) (fun c59 h => ?_)
          · refine ogrd h (fun c60 h => ?_)
            refine obif h (fun c61 h => ?_) (fun c61 h => ?_)
            · refine obif h (fun c62 h => ?_) (fun c62 h => ?_)
              · exact osome h (sfin (keep := []) (by decide) [.f, .f, .f, .f, .f, .f, .f, .f, .l, .f, .f, .f, .f, .l, .f, .f, .f, .f, .f, .f, .l, .t, .t, .t, .t, .c (.v (.tuple #[(.agg #[(.int .i64 ((parseL (bL s)).fst)), (.int .i64 ((parseL (bL s)).snd.fst))]), (.int .i64 ((parseL (bL s)).snd.snd))])) [] 0, .t, .t, .t, .t, .t, .t, .l] (by kernel_rfl) (cj c1 (cj c1 (cj c1 (cj c7 (cj c12 (cj c12 (cj c12 (cj c12 (cj c12 (cj c12 (cj c12 (cj c12 (cj c12 (cj c12 (cj c12 (cj c12 (cj c12 (cj c12 (cj c58 (cj c58 (cj c58 (cj c59 (cj (rparse_does (s).data.toList (by assumption)) (cj c61 (cj c62 (cj c62 (cj c62 (cj c62 (cj c62 cj0))))))))))))))))))))))))))))))
              · refine ogrd h (fun c63 h => ?_)
                refine ogrd h (fun c64 h => ?_)
                refine ogrd h (fun c65 h => ?_)
                refine obif h (fun c66 h => ?_) (fun c66 h => ?_)
                · exact osome h (sfin (keep := []) (by decide) [.f, .f, .f, .f, .f, .f, .f, .f, .l, .f, .f, .f, .f, .l, .f, .f, .f, .f, .f, .f, .l, .t, .t, .t, .t, .c (.v (.tuple #[(.agg #[(.int .i64 ((parseL (bL s)).fst)), (.int .i64 ((parseL (bL s)).snd.fst))]), (.int .i64 ((parseL (bL s)).snd.snd))])) [] 0, .t, .f, .f, .c (.v (.string (oL (prV 2 (parseL (bL s)).fst (parseL (bL s)).snd.fst (ByteArray.mk #[]))))) [] 0, .f, .f, .f, .t] (by kernel_rfl) (cj c1 (cj c1 (cj c1 (cj c7 (cj c12 (cj c12 (cj c12 (cj c12 (cj c12 (cj c12 (cj c12 (cj c12 (cj c12 (cj c12 (cj c12 (cj c12 (cj c12 (cj c12 (cj c58 (cj c58 (cj c58 (cj c59 (cj (rparse_does (s).data.toList (by assumption)) (cj c61 (cj c62 (cj c62 (cj (rvprint_does ((2 : Int)) ((parseL (bL s)).fst) ((parseL (bL s)).snd.fst) ((ByteArray.mk #[])) (by assumption) (by assumption) (by assumption)) (cj c62 (cj c62 (cj c62 (cj c66 cj0))))))))))))))))))))))))))))))))
                · exact osome h (sfin (keep := []) (by decide) [.f, .f, .f, .f, .f, .f, .f, .f, .l, .f, .f, .f, .f, .l, .f, .f, .f, .f, .f, .f, .l, .t, .t, .t, .t, .c (.v (.tuple #[(.agg #[(.int .i64 ((parseL (bL s)).fst)), (.int .i64 ((parseL (bL s)).snd.fst))]), (.int .i64 ((parseL (bL s)).snd.snd))])) [] 0, .t, .f, .f, .c (.v (.string (oL (prV 2 (parseL (bL s)).fst (parseL (bL s)).snd.fst (ByteArray.mk #[]))))) [] 0, .f, .f, .f, .f] (by kernel_rfl) (cj c1 (cj c1 (cj c1 (cj c7 (cj c12 (cj c12 (cj c12 (cj c12 (cj c12 (cj c12 (cj c12 (cj c12 (cj c12 (cj c12 (cj c12 (cj c12 (cj c12 (cj c12 (cj c58 (cj c58 (cj c58 (cj c59 (cj (rparse_does (s).data.toList (by assumption)) (cj c61 (cj c62 (cj c62 (cj (rvprint_does ((2 : Int)) ((parseL (bL s)).fst) ((parseL (bL s)).snd.fst) ((ByteArray.mk #[])) (by assumption) (by assumption) (by assumption)) (cj c62 (cj c62 (cj c62 (cj c66 cj0))))))))))))))))))))))))))))))))
            · refine obif h (fun c67 h => ?_) (fun c67 h => ?_)
              · exact osome h (sfin (keep := []) (by decide) [.f, .f, .f, .f, .f, .f, .f, .f, .l, .f, .f, .f, .f, .l, .f, .f, .f, .f, .f, .f, .l, .t, .t, .t, .t, .c (.v (.tuple #[(.agg #[(.int .i64 ((parseL (bL s)).fst)), (.int .i64 ((parseL (bL s)).snd.fst))]), (.int .i64 ((parseL (bL s)).snd.snd))])) [] 0, .f, .t, .t, .t, .t, .t, .l] (by kernel_rfl) (cj c1 (cj c1 (cj c1 (cj c7 (cj c12 (cj c12 (cj c12 (cj c12 (cj c12 (cj c12 (cj c12 (cj c12 (cj c12 (cj c12 (cj c12 (cj c12 (cj c12 (cj c12 (cj c58 (cj c58 (cj c58 (cj c59 (cj (rparse_does (s).data.toList (by assumption)) (cj c61 (cj c67 (cj c67 (cj c67 (cj c67 (cj c67 cj0))))))))))))))))))))))))))))))
              · refine ogrd h (fun c68 h => ?_)
                refine ogrd h (fun c69 h => ?_)
                refine ogrd h (fun c70 h => ?_)
                refine obif h (fun c71 h => ?_) (fun c71 h => ?_)
                · exact osome h (sfin (keep := []) (by decide) [.f, .f, .f, .f, .f, .f, .f, .f, .l, .f, .f, .f, .f, .l, .f, .f, .f, .f, .f, .f, .l, .t, .t, .t, .t, .c (.v (.tuple #[(.agg #[(.int .i64 ((parseL (bL s)).fst)), (.int .i64 ((parseL (bL s)).snd.fst))]), (.int .i64 ((parseL (bL s)).snd.snd))])) [] 0, .f, .f, .f, .c (.v (.string (oL (prV 1 (parseL (bL s)).fst 0 (ByteArray.mk #[]))))) [] 0, .f, .f, .f, .t] (by kernel_rfl) (cj c1 (cj c1 (cj c1 (cj c7 (cj c12 (cj c12 (cj c12 (cj c12 (cj c12 (cj c12 (cj c12 (cj c12 (cj c12 (cj c12 (cj c12 (cj c12 (cj c12 (cj c12 (cj c58 (cj c58 (cj c58 (cj c59 (cj (rparse_does (s).data.toList (by assumption)) (cj c61 (cj c67 (cj c67 (cj (rvprint_does ((1 : Int)) ((parseL (bL s)).fst) ((0 : Int)) ((ByteArray.mk #[])) (by assumption) (by assumption) (by assumption)) (cj c67 (cj c67 (cj c67 (cj c71 cj0))))))))))))))))))))))))))))))))
                · exact osome h (sfin (keep := []) (by decide) [.f, .f, .f, .f, .f, .f, .f, .f, .l, .f, .f, .f, .f, .l, .f, .f, .f, .f, .f, .f, .l, .t, .t, .t, .t, .c (.v (.tuple #[(.agg #[(.int .i64 ((parseL (bL s)).fst)), (.int .i64 ((parseL (bL s)).snd.fst))]), (.int .i64 ((parseL (bL s)).snd.snd))])) [] 0, .f, .f, .f, .c (.v (.string (oL (prV 1 (parseL (bL s)).fst 0 (ByteArray.mk #[]))))) [] 0, .f, .f, .f, .f] (by kernel_rfl) (cj c1 (cj c1 (cj c1 (cj c7 (cj c12 (cj c12 (cj c12 (cj c12 (cj c12 (cj c12 (cj c12 (cj c12 (cj c12 (cj c12 (cj c12 (cj c12 (cj c12 (cj c12 (cj c58 (cj c58 (cj c58 (cj c59 (cj (rparse_does (s).data.toList (by assumption)) (cj c61 (cj c67 (cj c67 (cj (rvprint_does ((1 : Int)) ((parseL (bL s)).fst) ((0 : Int)) ((ByteArray.mk #[])) (by assumption) (by assumption) (by assumption)) (cj c67 (cj c67 (cj c67 (cj c71 cj0))))))))))))))))))))))))))))))))
          · refine obif h (fun c72 h => ?_) (fun c72 h => ?_)
            · exact osome h (sfin (keep := []) (by decide) [.f, .f, .f, .f, .f, .f, .f, .f, .l, .f, .f, .f, .f, .l, .f, .f, .f, .f, .f, .f, .l, .t, .t, .t, .f, .t, .t, .t, .t, .t, .l] (by kernel_rfl) (cj c1 (cj c1 (cj c1 (cj c7 (cj c12 (cj c12 (cj c12 (cj c12 (cj c12 (cj c12 (cj c12 (cj c12 (cj c12 (cj c12 (cj c12 (cj c12 (cj c12 (cj c12 (cj c58 (cj c58 (cj c58 (cj c59 (cj c72 (cj c72 (cj c72 (cj c72 (cj c72 cj0))))))))))))))))))))))))))))
            · refine ogrd h (fun c73 h => ?_)
              refine ogrd h (fun c74 h => ?_)
              refine obif h (fun c75 h => ?_) (fun c75 h => ?_)
              · exact osome h (sfin (keep := []) (by decide) [.f, .f, .f, .f, .f, .f, .f, .f, .l, .f, .f, .f, .f, .l, .f, .f, .f, .f, .f, .f, .l, .t, .t, .t, .f, .f, .f, .c (.v (.string (oL (prV 0 0 0 (ByteArray.mk #[]))))) [] 0, .f, .f, .f, .t] (by kernel_rfl) (cj c1 (cj c1 (cj c1 (cj c7 (cj c12 (cj c12 (cj c12 (cj c12 (cj c12 (cj c12 (cj c12 (cj c12 (cj c12 (cj c12 (cj c12 (cj c12 (cj c12 (cj c12 (cj c58 (cj c58 (cj c58 (cj c59 (cj c72 (cj c72 (cj (rvprint_does ((0 : Int)) ((0 : Int)) ((0 : Int)) ((ByteArray.mk #[])) (by assumption) (by assumption) (by assumption)) (cj c72 (cj c72 (cj c72 (cj c75 cj0))))))))))))))))))))))))))))))
              · exact osome h (sfin (keep := []) (by decide) [.f, .f, .f, .f, .f, .f, .f, .f, .l, .f, .f, .f, .f, .l, .f, .f, .f, .f, .f, .f, .l, .t, .t, .t, .f, .f, .f, .c (.v (.string (oL (prV 0 0 0 (ByteArray.mk #[]))))) [] 0, .f, .f, .f, .f] (by kernel_rfl) (cj c1 (cj c1 (cj c1 (cj c7 (cj c12 (cj c12 (cj c12 (cj c12 (cj c12 (cj c12 (cj c12 (cj c12 (cj c12 (cj c12 (cj c12 (cj c12 (cj c12 (cj c12 (cj c58 (cj c58 (cj c58 (cj c59 (cj c72 (cj c72 (cj (rvprint_does ((0 : Int)) ((0 : Int)) ((0 : Int)) ((ByteArray.mk #[])) (by assumption) (by assumption) (by assumption)) (cj c72 (cj c72 (cj c72 (cj c75 cj0))))))))))))))))))))))))))))))
        · refine obif h (fun c76 h => ?_) (fun c76 h => ?_)
          · exact osome h (sfin (keep := []) (by decide) [.f, .f, .f, .f, .f, .f, .f, .f, .l, .f, .f, .f, .f, .l, .f, .f, .f, .f, .f, .f, .l, .f, .f, .f, .l, .t, .t, .t, .t, .t, .l] (by kernel_rfl) (cj c1 (cj c1 (cj c1 (cj c7 (cj c12 (cj c12 (cj c12 (cj c12 (cj c12 (cj c12 (cj c12 (cj c12 (cj c12 (cj c12 (cj c12 (cj c12 (cj c12 (cj c12 (cj c58 (cj c58 (cj c58 (cj c76 (cj c76 (cj c76 (cj c76 (cj c76 cj0)))))))))))))))))))))))))))
          · refine ogrd h (fun c77 h => ?_)
            refine ogrd h (fun c78 h => ?_)
            refine obif h (fun c79 h => ?_) (fun c79 h => ?_)
            · exact osome h (sfin (keep := []) (by decide) [.f, .f, .f, .f, .f, .f, .f, .f, .l, .f, .f, .f, .f, .l, .f, .f, .f, .f, .f, .f, .l, .f, .f, .f, .l, .f, .f, .c (.v (.string (oL (prV 0 0 0 (ByteArray.mk #[]))))) [] 0, .f, .f, .f, .t] (by kernel_rfl) (cj c1 (cj c1 (cj c1 (cj c7 (cj c12 (cj c12 (cj c12 (cj c12 (cj c12 (cj c12 (cj c12 (cj c12 (cj c12 (cj c12 (cj c12 (cj c12 (cj c12 (cj c12 (cj c58 (cj c58 (cj c58 (cj c76 (cj c76 (cj (rvprint_does ((0 : Int)) ((0 : Int)) ((0 : Int)) ((ByteArray.mk #[])) (by assumption) (by assumption) (by assumption)) (cj c76 (cj c76 (cj c76 (cj c79 cj0)))))))))))))))))))))))))))))
            · exact osome h (sfin (keep := []) (by decide) [.f, .f, .f, .f, .f, .f, .f, .f, .l, .f, .f, .f, .f, .l, .f, .f, .f, .f, .f, .f, .l, .f, .f, .f, .l, .f, .f, .c (.v (.string (oL (prV 0 0 0 (ByteArray.mk #[]))))) [] 0, .f, .f, .f, .f] (by kernel_rfl) (cj c1 (cj c1 (cj c1 (cj c7 (cj c12 (cj c12 (cj c12 (cj c12 (cj c12 (cj c12 (cj c12 (cj c12 (cj c12 (cj c12 (cj c12 (cj c12 (cj c12 (cj c12 (cj c58 (cj c58 (cj c58 (cj c76 (cj c76 (cj (rvprint_does ((0 : Int)) ((0 : Int)) ((0 : Int)) ((ByteArray.mk #[])) (by assumption) (by assumption) (by assumption)) (cj c76 (cj c76 (cj c76 (cj c79 cj0)))))))))))))))))))))))))))))
end Go.Proofs.YtpfignfgfhbblaaGreatDoorC
/- longstopref04.Parse: what it comes to; it is what datum.Parse comes to. -/
namespace Go.Proofs.YtpfignfgfhbblaaGreatDoorC
open Go.Proofs Go.Proofs.YtpfignfgfhbblaaGreatDoorSx Go.Lib
set_option maxRecDepth 100000
set_option linter.unusedVariables false
theorem bL_oL (l : List UInt8) : bL (oL l) = l := oL_data l


/-- What the reference takes a text for. -/
def rrL (l : List UInt8) : V4 :=
  bif l == truL then (4, 1, 0, bE)
  else bif l == falL then (4, 0, 0, bE)
  else bif decide (2 ≤ l.length) && l.headD 0 == 39 then (3, 0, 0, bytesOf (quR (oL l) ((oL l).size + 1) 1 []))
  else bif decide (2 ≤ l.length) && l.headD 0 == 60 then (5, (gpL l).1, (gpL l).2.1, bE)
  else bif decide (2 ≤ l.length) && l.getD (l.length - 1) 0 == 46 then (2, (parseL l.dropLast).1, (parseL l.dropLast).2.1, bE)
  else bif decide (1 ≤ l.length) && !(l == nulL) then (bif decide ((parseL l).2.1 > 0) then (2, (parseL l).1, (parseL l).2.1, bE) else (1, (parseL l).1, 0, bE))
  else (0, 0, 0, bE)
abbrev errR : Rs := (.v (.tuple #[vl 0 0 0 bE, it 21]), [], 0)
abbrev okR (v : V4) : Rs := (.v (.tuple #[vl v.1 v.2.1 v.2.2.1 v.2.2.2, it 0]), [], 0)
/-- Is the text the one that is printed? -/
def chk (l : List UInt8) (v : V4) : Rs := bif l == [] then errR else bif !(prV v.1 v.2.1 v.2.2.1 v.2.2.2 == l) then errR else okR v
theorem dropLast_ext (l : List UInt8) (h : 1 ≤ l.length) (hl : l.length ≤ 140737488351232) : bL ((oL l).extract (Int.toNat 0) (IntKind.i64.wrap (((oL l).size : Int) - 1)).toNat) = l.dropLast := by
  rw [oL_size, wrap64 (by omega) (by omega), oL_ext, bL_oL]
  have e : ((l.length : Int) - 1).toNat = l.length - 1 := by omega
  rw [e, List.dropLast_eq_take]
  rfl
theorem last_at (l : List UInt8) (h : 1 ≤ l.length) (hl : l.length ≤ 140737488351232) : (oL l).data.toList.getD (IntKind.i64.wrap (((oL l).size : Int) - 1)).toNat 0 = l.getD (l.length - 1) 0 := by
  rw [oL_size, wrap64 (by omega) (by omega), oL_data]
  have e : ((l.length : Int) - 1).toNat = l.length - 1 := by omega
  rw [e]
theorem b46 (c : UInt8) : (((c.toNat : Nat) : Int) == 46) = (c == 46) := by
  by_cases h : c = 46
  · subst h
    decide
  · rw [beq_eq_false_iff_ne.2 h]
    refine beq_eq_false_iff_ne.2 (fun e => h ?_)
    have e2 : c.toNat = 46 := by omega
    exact UInt8.toNat_inj.1 e2
/-- The end of each way: the text is held against what is printed. -/
theorem tailR {l : List UInt8} {v : V4} {k n m : Int} {b : ByteArray} {z : ByteArray} (hz : z.toList = []) (e : v = (k, n, m, b)) (x : Option Rs) (hx : (l == []) = false → x = (bif !((oL (prV k n m b)).toList == (oL l).toList) then some errR else some (okR (k, n, m, b)))) :
    (bif (oL l).toList == z.toList then some errR else x) = some (chk l v) := by
  subst e
  unfold chk
  rw [oL_toList, hz]
  cases c1 : (l == []) with
  | true => rfl
  | false =>
    rw [hx c1, oL_toList, oL_toList]
    show (bif !(prV k n m b == l) then _ else _) = some (bif !(prV k n m b == l) then _ else _)
    cases (!(prV k n m b == l)) <;> rfl
theorem e0L : (ByteArray.mk #[]).toList = [] := oL_toList []
theorem bytes_sz (a : List Int) : (bytesOf a).size = a.length := by
  have h : ∀ (a : List Int) (x : ByteArray), (List.foldl (fun (r : ByteArray) (n : Int) => r.push (UInt8.ofNat n.toNat)) x a).size = x.size + a.length := by
    intro a
    induction a with
    | nil => intro x; rfl
    | cons c a ih =>
      intro x
      rw [List.foldl_cons, ih, List.length_cons, ByteArray.size_push]
      omega
  have h1 := h a ByteArray.empty
  have e : ByteArray.empty.size = 0 := rfl
  rw [e, Nat.zero_add] at h1
  exact h1
theorem quR_len (s : ByteArray) (hs : s.size ≤ 140737488351232) : ∀ (f i : Nat) (a : List Int), (quR s f i a).length ≤ a.length + (s.size - i)
  | 0, i, a => by simp [quR]
  | f + 1, i, a => by
    show (bif inQ s i then quR s f _ _ else a).length ≤ _
    cases hq : inQ s i with
    | true =>
      have hi := inQ_sz hs hq
      have := quR_len s hs f (bif byN s i == 39 then i + 2 else i + 1) (a ++ [byN s i])
      rw [List.length_append, List.length_singleton] at this
      show (quR s f _ _).length ≤ _
      have h2 : i + 1 ≤ (bif byN s i == 39 then i + 2 else i + 1) := by
        cases (byN s i == 39)
        · exact Nat.le_refl _
        · exact Nat.le_succ _
      omega
    | false =>
      show a.length ≤ _
      omega
theorem i0 : I64 0 := ⟨by decide, by decide⟩
theorem i1 : I64 1 := ⟨by decide, by decide⟩
/-- What is neither a word, nor quoted, nor a point, nor ends in a dot. -/
def lowV (l : List UInt8) : V4 := bif decide (1 ≤ l.length) && !(l == nulL) then (bif decide ((parseL l).2.1 > 0) then (2, (parseL l).1, (parseL l).2.1, bE) else (1, (parseL l).1, 0, bE)) else (0, 0, 0, bE)
theorem paR_low (l : List UInt8) (hl : l.length ≤ 140737488351232) (v : V4) (hv : v = lowV l) :
  (bif (decide (((oL l).size : Int) ≥ (1 : Int))) then bif (!(oL l).toList == (ByteArray.mk #[(110 : UInt8), (117 : UInt8), (108 : UInt8), (108 : UInt8)]).toList) then grd (((oL l)).data.toList.length ≤ 9223372036854775807) (bif (decide ((parseL (bL (oL l))).snd.fst > (0 : Int))) then bif ((oL l).toList == (ByteArray.mk #[]).toList) then some ((.v (.tuple #[(.agg #[(.int .i64 ((0 : Int))), (.int .i64 ((0 : Int))), (.int .i64 ((0 : Int))), (.string ((ByteArray.mk #[])))]), (.int .i64 ((21 : Int)))]) : SV), ([] : Tab cE), 0)
                else grd (((ByteArray.mk #[])).size ≤ 140737488351232) (grd (I64 ((parseL (bL (oL l))).fst)) (grd (I64 ((parseL (bL (oL l))).snd.fst)) (bif (!(oL (prV (2 : Int) (parseL (bL (oL l))).fst (parseL (bL (oL l))).snd.fst (ByteArray.mk #[]))).toList == (oL l).toList) then some ((.v (.tuple #[(.agg #[(.int .i64 ((0 : Int))), (.int .i64 ((0 : Int))), (.int .i64 ((0 : Int))), (.string ((ByteArray.mk #[])))]), (.int .i64 ((21 : Int)))]) : SV), ([] : Tab cE), 0)
                        else some ((.v (.tuple #[(.agg #[(.int .i64 ((2 : Int))), (.int .i64 ((parseL (bL (oL l))).fst)), (.int .i64 ((parseL (bL (oL l))).snd.fst)), (.string ((ByteArray.mk #[])))]), (.int .i64 ((0 : Int)))]) : SV), ([] : Tab cE), 0))))
              else bif ((oL l).toList == (ByteArray.mk #[]).toList) then some ((.v (.tuple #[(.agg #[(.int .i64 ((0 : Int))), (.int .i64 ((0 : Int))), (.int .i64 ((0 : Int))), (.string ((ByteArray.mk #[])))]), (.int .i64 ((21 : Int)))]) : SV), ([] : Tab cE), 0)
                else grd (((ByteArray.mk #[])).size ≤ 140737488351232) (grd (I64 ((parseL (bL (oL l))).fst)) (grd (I64 (0)) (bif (!(oL (prV (1 : Int) (parseL (bL (oL l))).fst (0 : Int) (ByteArray.mk #[]))).toList == (oL l).toList) then some ((.v (.tuple #[(.agg #[(.int .i64 ((0 : Int))), (.int .i64 ((0 : Int))), (.int .i64 ((0 : Int))), (.string ((ByteArray.mk #[])))]), (.int .i64 ((21 : Int)))]) : SV), ([] : Tab cE), 0)
                        else some ((.v (.tuple #[(.agg #[(.int .i64 ((1 : Int))), (.int .i64 ((parseL (bL (oL l))).fst)), (.int .i64 ((0 : Int))), (.string ((ByteArray.mk #[])))]), (.int .i64 ((0 : Int)))]) : SV), ([] : Tab cE), 0)))))
          else bif ((oL l).toList == (ByteArray.mk #[]).toList) then some ((.v (.tuple #[(.agg #[(.int .i64 ((0 : Int))), (.int .i64 ((0 : Int))), (.int .i64 ((0 : Int))), (.string ((ByteArray.mk #[])))]), (.int .i64 ((21 : Int)))]) : SV), ([] : Tab cE), 0)
            else grd (((ByteArray.mk #[])).size ≤ 140737488351232) (grd (I64 (0)) (bif (!(oL (prV (0 : Int) (0 : Int) (0 : Int) (ByteArray.mk #[]))).toList == (oL l).toList) then some ((.v (.tuple #[(.agg #[(.int .i64 ((0 : Int))), (.int .i64 ((0 : Int))), (.int .i64 ((0 : Int))), (.string ((ByteArray.mk #[])))]), (.int .i64 ((21 : Int)))]) : SV), ([] : Tab cE), 0)
                  else some ((.v (.tuple #[(.agg #[(.int .i64 ((0 : Int))), (.int .i64 ((0 : Int))), (.int .i64 ((0 : Int))), (.string ((ByteArray.mk #[])))]), (.int .i64 ((0 : Int)))]) : SV), ([] : Tab cE), 0)))
        else bif ((oL l).toList == (ByteArray.mk #[]).toList) then some ((.v (.tuple #[(.agg #[(.int .i64 ((0 : Int))), (.int .i64 ((0 : Int))), (.int .i64 ((0 : Int))), (.string ((ByteArray.mk #[])))]), (.int .i64 ((21 : Int)))]) : SV), ([] : Tab cE), 0)
          else grd (((ByteArray.mk #[])).size ≤ 140737488351232) (grd (I64 (0)) (bif (!(oL (prV (0 : Int) (0 : Int) (0 : Int) (ByteArray.mk #[]))).toList == (oL l).toList) then some ((.v (.tuple #[(.agg #[(.int .i64 ((0 : Int))), (.int .i64 ((0 : Int))), (.int .i64 ((0 : Int))), (.string ((ByteArray.mk #[])))]), (.int .i64 ((21 : Int)))]) : SV), ([] : Tab cE), 0)
                else some ((.v (.tuple #[(.agg #[(.int .i64 ((0 : Int))), (.int .i64 ((0 : Int))), (.int .i64 ((0 : Int))), (.string ((ByteArray.mk #[])))]), (.int .i64 ((0 : Int)))]) : SV), ([] : Tab cE), 0)))) = some (chk l v) := by
  have en : (ByteArray.mk #[110, 117, 108, 108]).toList = nulL := oL_toList nulL
  have hz : ((oL l).size : Int) = l.length := by rw [oL_size]
  have e1 : decide (((oL l).size : Int) ≥ 1) = decide (1 ≤ l.length) := decide_eq_decide.2 (by omega)
  have en2 : ((oL l).toList == (ByteArray.mk #[110, 117, 108, 108]).toList) = (l == nulL) := by rw [oL_toList, en]
  have hp := parseL_rng l
  have h64 : I64 (parseL l).2.1 := ⟨by omega, by omega⟩
  rw [e1, en2, bL_oL]
  unfold lowV at hv
  cases c1 : decide (1 ≤ l.length) with
  | false =>
    rw [c1] at hv
    exact bf rfl (tailR e0L hv _ (fun _ => gp (by decide) (gp i0 rfl)))
  | true =>
    rw [c1] at hv
    refine bt rfl ?_
    cases c2 : (l == nulL) with
    | true =>
      rw [c2] at hv
      exact bf rfl (tailR e0L hv _ (fun _ => gp (by decide) (gp i0 rfl)))
    | false =>
      rw [c2] at hv
      refine bt rfl (gp (by rw [oL_data]; omega) ?_)
      cases c3 : decide ((parseL l).2.1 > 0) with
      | true =>
        rw [c3] at hv
        exact bt rfl (tailR e0L hv _ (fun _ => gp (by decide) (gp hp.1 (gp h64 rfl))))
      | false =>
        rw [c3] at hv
        exact bf rfl (tailR e0L hv _ (fun _ => gp (by decide) (gp hp.1 (gp i0 rfl))))
theorem paR_eq (l : List UInt8) (hl : l.length ≤ 140737488351232) : paR (oL l) = some (chk l (rrL l)) := by
  have t1 : ((oL l).toList == (ByteArray.mk #[116, 114, 117, 101]).toList) = (l == truL) := by rw [oL_toList]; exact congrArg (l == ·) (oL_toList truL)
  have t2 : ((oL l).toList == (ByteArray.mk #[102, 97, 108, 115, 101]).toList) = (l == falL) := by rw [oL_toList]; exact congrArg (l == ·) (oL_toList falL)
  have hz : ((oL l).size : Int) = l.length := by rw [oL_size]
  unfold paR
  rw [t1, t2]
  cases c1 : (l == truL) with
  | true => exact bt rfl (tailR e0L (by unfold rrL; rw [c1]; rfl) _ (fun _ => gp (by decide) (gp i1 (gp i0 rfl))))
  | false =>
  cases c2 : (l == falL) with
  | true => exact bf rfl (bt rfl (tailR e0L (by unfold rrL; rw [c1, c2]; rfl) _ (fun _ => gp (by decide) (gp i0 rfl))))
  | false =>
  have d2 : decide (((oL l).size : Int) ≥ 2) = decide (2 ≤ l.length) := decide_eq_decide.2 (by omega)
  rw [d2]
  have rr : rrL l = (bif decide (2 ≤ l.length) && l.headD 0 == 39 then (3, 0, 0, bytesOf (quR (oL l) ((oL l).size + 1) 1 []))
  else bif decide (2 ≤ l.length) && l.headD 0 == 60 then (5, (gpL l).1, (gpL l).2.1, bE)
  else bif decide (2 ≤ l.length) && l.getD (l.length - 1) 0 == 46 then (2, (parseL l.dropLast).1, (parseL l.dropLast).2.1, bE)
  else lowV l) := by
    unfold rrL lowV
    rw [c1, c2]
    rfl
  cases c3 : decide (2 ≤ l.length) with
  | false =>
    rw [c3] at rr
    exact bf rfl (bf rfl (bf rfl (paR_low l hl _ rr)))
  | true =>
  rw [c3] at rr
  have h2 := of_decide_eq_true c3
  rw [last_at l (by omega) (by omega), b46, dropLast_ext l (by omega) (by omega)]
  refine bf rfl (bf rfl (bt rfl (gp (by omega) ?_)))
  have hh : (oL l).data.toList.getD (Int.toNat 0) 0 = l.headD 0 := by
    rw [oL_data]
    cases l with
    | nil => rfl
    | cons c r => rfl
  rw [hh, b39, b60, bL_oL]
  cases c4 : (l.headD 0 == 39) with
  | true =>
    rw [c4] at rr
    have hb := bytes_sz (quR (oL l) ((oL l).size + 1) 1 [])
    have hq := quR_len (oL l) (by rw [oL_size]; omega) ((oL l).size + 1) 1 []
    rw [List.length_nil] at hq
    refine bt rfl (gp (by rw [oL_size]; omega) (tailR e0L rr _ (fun _ => gp ?_ (gp i0 rfl))))
    show (bytesOf _).size ≤ _
    rw [oL_size] at hq hb
    rw [oL_size]
    omega
  | false =>
  rw [c4] at rr
  cases c5 : (l.headD 0 == 60) with
  | true =>
    rw [c5] at rr
    exact bf rfl (bt rfl (gp (by rw [oL_data]; omega) (tailR e0L rr _ (fun _ => gp (by decide) (gp (gpL_rng l).1 (gp (gpL_rng l).2 rfl))))))
  | false =>
  rw [c5] at rr
  have hw : IntKind.i64.wrap (((oL l).size : Int) - 1) = (l.length : Int) - 1 := by rw [hz]; exact wrap64 (by omega) (by omega)
  refine bf rfl (bf rfl (gp (by rw [hw]; omega) ?_))
  cases c6 : (l.getD (l.length - 1) 0 == 46) with
  | true =>
    rw [c6] at rr
    have hp := parseL_rng l.dropLast
    have h64 : I64 (parseL l.dropLast).2.1 := ⟨by omega, by omega⟩
    have hx := congrArg List.length (dropLast_ext l (by omega) (by omega))
    rw [List.length_dropLast] at hx
    exact bt rfl (gp (by rw [hw]; omega) (gp (by change (bL _).length ≤ _; rw [hx]; omega) (tailR e0L rr _ (fun _ => gp (by decide) (gp hp.1 (gp h64 rfl))))))
  | false =>
    rw [c6] at rr
    exact bf rfl (paR_low l hl _ rr)
end Go.Proofs.YtpfignfgfhbblaaGreatDoorC
/- Both Parse of values come to the same. Plain law. -/
namespace Go.Proofs.YtpfignfgfhbblaaGreatDoorC
open Go.Proofs Go.Proofs.YtpfignfgfhbblaaGreatDoorSx Go.Lib
set_option maxRecDepth 100000
set_option linter.unusedVariables false
theorem rrL_num {c : UInt8} {r : List UInt8} (hc : c = 45 ∨ dgC c) : rrL (c :: r) =
    bif decide (2 ≤ (c :: r).length) && (c :: r).getD ((c :: r).length - 1) 0 == 46 then (2, (parseL (c :: r).dropLast).1, (parseL (c :: r).dropLast).2.1, bE)
    else (bif decide ((parseL (c :: r)).2.1 > 0) then (2, (parseL (c :: r)).1, (parseL (c :: r)).2.1, bE) else (1, (parseL (c :: r)).1, 0, bE)) := by
  have ne : ∀ (d : UInt8) (q : List UInt8), d ≠ 45 → ¬ dgC d → ((c :: r) == d :: q) = false := by
    intro d q h1 h2
    refine beq_eq_false_iff_ne.2 (fun e => ?_)
    injection e with e1 _
    subst e1
    exact hc.elim h1 h2
  have nh : ∀ d : UInt8, d ≠ 45 → ¬ dgC d → ((c :: r).headD 0 == d) = false := by
    intro d h1 h2
    refine beq_eq_false_iff_ne.2 (fun e => ?_)
    have e1 : c = d := e
    subst e1
    exact hc.elim h1 h2
  unfold rrL
  rw [ne 116 _ (by decide) (by decide), ne 102 _ (by decide) (by decide), nh 39 (by decide) (by decide), nh 60 (by decide) (by decide), ne 110 _ (by decide) (by decide), decide_eq_true (by simp : 1 ≤ (c :: r).length), Bool.and_false]
  rfl
theorem getD_last (r : List UInt8) (c : UInt8) : (r ++ [c]).getD ((r ++ [c]).length - 1) 0 = c := by
  have e : (r ++ [c]).length - 1 = r.length := by simp
  rw [e, List.getD_eq_getElem?_getD, List.getElem?_append_right (Nat.le_refl _)]
  simp
theorem rr_back {k n m : Int} {s : ByteArray} (h : okV k n m s = true) (hn : I64 n) : rrL (prV k n m s) = (k, n, m, s) := by
  have hp : prV k n m s = (bif k == 1 then printL n m
  else bif k == 2 then (bif m == 0 then printL n m ++ [46] else printL n m)
  else bif k == 3 then 39 :: (dbl s.data.toList ++ [39])
  else bif k == 4 then (bif n == 1 then [116, 114, 117, 101] else [102, 97, 108, 115, 101])
  else bif k == 5 then prG n m
  else [110, 117, 108, 108]) := by
    unfold prV
    rw [h]
    rfl
  rw [hp]
  rcases okk h with rfl | rfl | rfl | rfl | rfl | rfl
  · obtain ⟨rfl, rfl, rfl⟩ := okn h
    rfl
  · have h' : (m == 0 && eqE s) = true := h
    simp only [Bool.and_eq_true, beq_iff_eq] at h'
    obtain ⟨rfl, hs⟩ := h'
    have es := eqE_of hs
    subst es
    show rrL (printL n 0) = _
    obtain ⟨c, r, e, hc⟩ := pl_head (u := n) (sc := 0) ⟨by decide, by decide⟩
    obtain ⟨r2, c2, e2, hc2⟩ := pl_last (u := n) (sc := 0) ⟨by decide, by decide⟩
    have hpp := parse_print n 0 (by decide) (by decide) hn.1 (by have := hn.2; omega)
    have hl : (printL n 0).getD ((printL n 0).length - 1) 0 = c2 := by rw [e2]; exact getD_last r2 c2
    have h46 : (c2 == 46) = false := beq_eq_false_iff_ne.2 (fun e => by rw [e] at hc2; exact absurd hc2 (by decide))
    have hr := rrL_num (r := r) hc
    rw [← e, hl, h46, Bool.and_false, hpp] at hr
    exact hr
  · have h' : (decide (0 ≤ m) && decide (m ≤ 6) && eqE s) = true := h
    simp only [Bool.and_eq_true, decide_eq_true_eq] at h'
    obtain ⟨⟨h0, h6⟩, hs⟩ := h'
    have es := eqE_of hs
    subst es
    show rrL (bif m == 0 then printL n m ++ [46] else printL n m) = _
    obtain ⟨c, r, e, hc⟩ := pl_head (u := n) (sc := m) ⟨h0, h6⟩
    have hpp := parse_print n m h0 h6 hn.1 (by have := hn.2; omega)
    by_cases hm : m = 0
    · subst hm
      show rrL (printL n 0 ++ [46]) = _
      have hr := rrL_num (r := r ++ [46]) hc
      rw [← List.cons_append, ← e, getD_last, List.dropLast_concat, hpp, decide_eq_true (by rw [e]; simp)] at hr
      exact hr
    · have e1 : (m == 0) = false := beq_eq_false_iff_ne.2 hm
      rw [e1]
      show rrL (printL n m) = _
      obtain ⟨r2, c2, e2, hc2⟩ := pl_last (u := n) (sc := m) ⟨h0, h6⟩
      have hl : (printL n m).getD ((printL n m).length - 1) 0 = c2 := by rw [e2]; exact getD_last r2 c2
      have h46 : (c2 == 46) = false := beq_eq_false_iff_ne.2 (fun e => by rw [e] at hc2; exact absurd hc2 (by decide))
      have hr := rrL_num (r := r) hc
      rw [← e, hl, h46, Bool.and_false, hpp] at hr
      have hg : decide (m > 0) = true := decide_eq_true (by omega)
      refine hr.trans ?_
      show (bif decide (m > 0) then _ else _) = _
      rw [hg]
      rfl
  · have h' : (n == 0 && m == 0 && decide ((s.size : Int) ≤ 256) && validD s.data.toList) = true := h
    simp only [Bool.and_eq_true, beq_iff_eq, decide_eq_true_eq] at h'
    obtain ⟨⟨⟨rfl, rfl⟩, hsz⟩, _⟩ := h'
    show rrL (39 :: (dbl s.data.toList ++ [39])) = _
    have ne : ∀ (d : UInt8) (q : List UInt8), d ≠ 39 → ((39 :: (dbl s.data.toList ++ [39])) == d :: q) = false := by
      intro d q h1
      refine beq_eq_false_iff_ne.2 (fun e => ?_)
      injection e with e1 _
      exact h1 e1.symm
    have hq := quR_text s.data.toList (by
      have e : s.data.toList.length = s.size := rfl
      omega)
    have hq2 : bytesOf (quR (oL (39 :: (dbl s.data.toList ++ [39]))) ((oL (39 :: (dbl s.data.toList ++ [39]))).size + 1) 1 []) = s := (Go.Value.string.inj hq).trans (oL_of s).symm
    unfold rrL
    rw [ne 116 _ (by decide), ne 102 _ (by decide), hq2, decide_eq_true (by rw [List.length_cons, List.length_append]; simp : 2 ≤ (39 :: (dbl s.data.toList ++ [39])).length)]
    rfl
  · have h' : ((n == 0 || n == 1) && m == 0 && eqE s) = true := h
    simp only [Bool.and_eq_true, Bool.or_eq_true, beq_iff_eq] at h'
    obtain ⟨⟨hn', rfl⟩, hs⟩ := h'
    have es := eqE_of hs
    subst es
    rcases hn' with rfl | rfl <;> rfl
  · have h' : (rt n m && eqE s) = true := h
    simp only [Bool.and_eq_true] at h'
    obtain ⟨hr, hs⟩ := h'
    have es := eqE_of hs
    subst es
    show rrL (prG n m) = _
    have hb := gp_back hr
    have ep : prG n m = 60 :: ((Lib.itoa n ++ 44 :: Lib.itoa m) ++ [62]) := by
      unfold prG
      rw [hr]
      simp
    rw [ep] at hb ⊢
    have hlen : 2 ≤ (60 :: ((Lib.itoa n ++ 44 :: Lib.itoa m) ++ [62])).length := by
      rw [List.length_cons, List.length_append]
      simp only [List.length_cons, List.length_nil]
      omega
    generalize ((Lib.itoa n ++ 44 :: Lib.itoa m) ++ [62]) = q at *
    have ne : ∀ (d : UInt8) (r : List UInt8), d ≠ 60 → ((60 :: q) == d :: r) = false := by
      intro d r h1
      refine beq_eq_false_iff_ne.2 (fun e => ?_)
      injection e with e1 _
      exact h1 e1.symm
    unfold rrL
    rw [ne 116 _ (by decide), ne 102 _ (by decide), hb, decide_eq_true hlen]
    rfl
theorem rdL_rng (l : List UInt8) : I64 (rdL l).2.1 ∧ I64 (rdL l).2.2.1 := by
  have hg := gpL_rng l
  have hp := parseL_rng (Lib.trimSuffix l [46])
  have h6 : I64 (parseL (Lib.trimSuffix l [46])).2.1 := ⟨by omega, by omega⟩
  unfold rdL
  cases (l == []) with
  | true => exact ⟨i0, i0⟩
  | false =>
  cases (l == nulL) with
  | true => exact ⟨i0, i0⟩
  | false =>
  cases (l == truL) with
  | true => exact ⟨i1, i0⟩
  | false =>
  cases (l == falL) with
  | true => exact ⟨i0, i0⟩
  | false =>
  cases (l.headD 0 == 39) with
  | true => exact ⟨i0, i0⟩
  | false =>
  cases (l.headD 0 == 60) with
  | true => exact hg
  | false =>
  cases (!decide (0 ≤ Lib.indexByte l 46)) with
  | true => exact ⟨hp.1, h6⟩
  | false => exact ⟨hp.1, h6⟩
theorem rrL_rng (l : List UInt8) : I64 (rrL l).2.1 := by
  have hg := gpL_rng l
  have hp := parseL_rng l
  have hd := parseL_rng l.dropLast
  unfold rrL
  cases (l == truL) with
  | true => exact i1
  | false =>
  cases (l == falL) with
  | true => exact i0
  | false =>
  cases (decide (2 ≤ l.length) && l.headD 0 == 39) with
  | true => exact i0
  | false =>
  cases (decide (2 ≤ l.length) && l.headD 0 == 60) with
  | true => exact hg.1
  | false =>
  cases (decide (2 ≤ l.length) && l.getD (l.length - 1) 0 == 46) with
  | true => exact hd.1
  | false =>
  cases (decide (1 ≤ l.length) && !(l == nulL)) with
  | true =>
    cases (decide ((parseL l).2.1 > 0)) with
    | true => exact hp.1
    | false => exact hp.1
  | false => exact i0
theorem prV_bad {k n m : Int} {s : ByteArray} (h : okV k n m s = false) : prV k n m s = [] := by
  unfold prV
  rw [h]
  rfl
/-- A text is read as a value just if the value's text is this one. -/
theorem pv_iff (l : List UInt8) (hl : l ≠ []) {k n m : Int} {s : ByteArray} (hn : I64 n) (e : prV k n m s = l) : pvL l = (k, n, m, s, 0) := by
  have hok : okV k n m s = true := by
    cases h : okV k n m s with
    | true => rfl
    | false => exact absurd ((prV_bad h).symm.trans e) (fun e => hl e.symm)
  have hr := rd_back hok hn
  rw [e] at hr
  unfold pvL
  rw [hr]
  simp only
  rw [hok, e]
  simp
theorem pv_val {l : List UInt8} (h : (pvL l).2.2.2.2 = 0) : okV (pvL l).1 (pvL l).2.1 (pvL l).2.2.1 (pvL l).2.2.2.1 = true ∧ prV (pvL l).1 (pvL l).2.1 (pvL l).2.2.1 (pvL l).2.2.2.1 = l ∧ I64 (pvL l).2.1 ∧ I64 (pvL l).2.2.1 := by
  have hr := rdL_rng l
  unfold pvL at h ⊢
  generalize hc : ((rdL l).2.2.2.2 && (okV (rdL l).1 (rdL l).2.1 (rdL l).2.2.1 (rdL l).2.2.2.1 && prV (rdL l).1 (rdL l).2.1 (rdL l).2.2.1 (rdL l).2.2.2.1 == l)) = c at *
  cases c with
  | false =>
    have h' : (21 : Int) = 0 := h
    exact absurd h' (by decide)
  | true =>
    simp only [Bool.and_eq_true, beq_iff_eq] at hc
    exact ⟨hc.2.1, hc.2.2, hr⟩
theorem pv_err {l : List UInt8} (h : (pvL l).2.2.2.2 ≠ 0) : pvL l = (0, 0, 0, bE, 21) := by
  unfold pvL at h ⊢
  generalize ((rdL l).2.2.2.2 && (okV (rdL l).1 (rdL l).2.1 (rdL l).2.2.1 (rdL l).2.2.2.1 && prV (rdL l).1 (rdL l).2.1 (rdL l).2.2.1 (rdL l).2.2.2.1 == l)) = c at *
  cases c with
  | false => rfl
  | true => exact absurd rfl h
abbrev pvR (l : List UInt8) : Rs := (.v (.tuple #[vl (pvL l).1 (pvL l).2.1 (pvL l).2.2.1 (pvL l).2.2.2.1, it (pvL l).2.2.2.2]), [], 0)
theorem paP_eq (l : List UInt8) (hl : l.length ≤ 140737488351232) : paP (oL l) = some (pvR l) := by
  have hr := rdL_rng l
  unfold paP
  rw [oL_data, oL_toList]
  refine gp (by omega) ?_
  unfold pvR pvL
  cases c1 : (rdL l).2.2.2.2 with
  | false => exact bf rfl rfl
  | true =>
    have hsz : (rdL l).2.2.2.1.size ≤ 140737488351232 := by
      unfold rdL
      have hq := qsP_len (l.drop 1).length (l.drop 1) (Nat.le_refl _) []
      rw [List.length_drop, List.length_nil] at hq
      cases (l == []) <;> cases (l == nulL) <;> cases (l == truL) <;> cases (l == falL) <;> cases (l.headD 0 == 39) <;> cases (l.headD 0 == 60) <;> cases (!decide (0 ≤ Lib.indexByte l 46)) <;> first | (show bE.size ≤ _; decide) | (show (oL _).size ≤ _; rw [oL_size]; omega)
    refine bt rfl (gp hsz ?_)
    cases c2 : okV (rdL l).1 (rdL l).2.1 (rdL l).2.2.1 (rdL l).2.2.2.1 with
    | false => exact bf rfl rfl
    | true =>
      refine bt rfl (gp hr.1 (gp hr.2 ?_))
      rw [oL_toList]
      cases (prV (rdL l).1 (rdL l).2.1 (rdL l).2.2.1 (rdL l).2.2.2.1 == l) with
      | false => exact bf rfl rfl
      | true => exact bt rfl rfl
theorem parse4_does (l : List UInt8) (hl : l.length ≤ 140737488351232) : Does cE 13 [] 0 [.v (st (oL l))] (.v (.tuple #[vl (pvL l).1 (pvL l).2.1 (pvL l).2.2.1 (pvL l).2.2.2.1, it (pvL l).2.2.2.2])) [] 0 :=
  Does.of (paP_does (oL l) (r := (_, _, _)) (paP_eq l hl)) rfl
theorem chk_pv (l : List UInt8) : chk l (rrL l) = pvR l := by
  unfold chk
  cases h0 : (l == []) with
  | true =>
    have e := eq_of_beq h0
    subst e
    rfl
  | false =>
    have hne : l ≠ [] := fun e => by rw [e] at h0; cases h0
    cases hc : (prV (rrL l).1 (rrL l).2.1 (rrL l).2.2.1 (rrL l).2.2.2 == l) with
    | true =>
      have h := pv_iff l hne (rrL_rng l) (eq_of_beq hc)
      unfold pvR
      rw [h]
      rfl
    | false =>
      show errR = _
      by_cases hz : (pvL l).2.2.2.2 = 0
      · obtain ⟨h1, h2, h3, h4⟩ := pv_val hz
        have hb := rr_back h1 h3
        rw [h2] at hb
        rw [hb] at hc
        exact absurd h2 (beq_eq_false_iff_ne.1 hc)
      · unfold pvR
        rw [pv_err hz]
theorem rparse4_does (l : List UInt8) (hl : l.length ≤ 140737488351232) : Does cE 14 [] 0 [.v (st (oL l))] (.v (.tuple #[vl (pvL l).1 (pvL l).2.1 (pvL l).2.2.1 (pvL l).2.2.2.1, it (pvL l).2.2.2.2])) [] 0 :=
  Does.of (paR_does (oL l) (r := pvR l) ((paR_eq l hl).trans (congrArg some (chk_pv l)))) rfl
end Go.Proofs.YtpfignfgfhbblaaGreatDoorC
/- slices.Contains of texts, told. -/
namespace Go.Proofs.YtpfignfgfhbblaaGreatDoorC
open Go.Proofs Go.Proofs.YtpfignfgfhbblaaGreatDoorSx Go.Lib
set_option maxRecDepth 100000
set_option linter.unusedVariables false
theorem contains_does (l : List ByteArray) (x : ByteArray) (hl : l.length ≤ 140737488355328) : Does cE 117 [(0, .ro 9 l false)] 1 [.o 0, .v (st x)] (.v (.bool (decide (idxFrom x l 0 ≥ 0)))) [] 1 := by
  refine Does.nil (T' := [(0, .ro 9 l false)]) (Does.of (coS_does l x (r := (_, _, _)) ?_) rfl) rfl
  unfold coS
  exact gp hl rfl
end Go.Proofs.YtpfignfgfhbblaaGreatDoorC
/- longstopref05.one, walked. Printed by a program (wip/tools); Lean checks each. -/
namespace Go.Proofs.YtpfignfgfhbblaaGreatDoorC
open Go.Proofs Go.Proofs.YtpfignfgfhbblaaGreatDoorSx Go.Lib
set_option maxRecDepth 100000
set_option maxHeartbeats 4000000
set_option linter.unusedVariables false
inductive onR_S where
  | st
  | l1 (xi0 : Int)
noncomputable def onR_K1 : List It := stackAt [1, 1, 1, 0, 0, 1, 0, 0, 0] (bd Tryz.f62) [] []
def onR_Fin (s : ByteArray) (f : Nat) (r : Rs) : onR_S → Prop
  | .st => FinR Tryz.f62 0 r [.code (bd Tryz.f62)] (argsS [.v (st s)] Tryz.f62.ntmps) [] 0
  | .l1 xi0 => ∀ m0 : Nat, f ≤ m0 → FinR Tryz.f62 0 r (bodyK (onR_K1) m0) ([.v (.string (s)), .na, .p 0 0, .na, .v (.int .i64 (xi0)), .p 1 0] ++ List.replicate 70 .na) [(0, .box 47 [.v (.int .i64 ((0 : Int))), .v (.string ((ByteArray.mk #[]))), .v (.int .i64 ((0 : Int))), .v (.int .i64 ((0 : Int))), .v (.int .i64 ((0 : Int))), .v (.string ((ByteArray.mk #[]))), .v (.int .i64 ((0 : Int)))]), (1, .box 47 [.v (.int .i64 ((0 : Int))), .v (.string ((ByteArray.mk #[]))), .v (.int .i64 ((0 : Int))), .v (.int .i64 ((0 : Int))), .v (.int .i64 ((0 : Int))), .v (.string ((ByteArray.mk #[]))), .v (.int .i64 ((0 : Int)))])] 2
noncomputable def onR_st (s : ByteArray) (rec : onR_S → Option Rs) : Option Rs :=
  grd ((0 : Int) ≤ (0 : Int) ∧ (0 : Int) < (s.size : Int)) (bif (decide ((((s.data.toList.getD (Int.toNat (0 : Int)) (0 : UInt8)).toNat : Nat) : Int) ≥ (97 : Int))) then bif (decide ((((s.data.toList.getD (Int.toNat (0 : Int)) (0 : UInt8)).toNat : Nat) : Int) ≤ (122 : Int))) then rec (.l1 ((0 : Int)))
      else bif ((((s.data.toList.getD (Int.toNat (0 : Int)) (0 : UInt8)).toNat : Nat) : Int) == (95 : Int)) then rec (.l1 ((0 : Int)))
        else bif (decide ((((s.data.toList.getD (Int.toNat (0 : Int)) (0 : UInt8)).toNat : Nat) : Int) ≥ (48 : Int))) then bif (decide ((((s.data.toList.getD (Int.toNat (0 : Int)) (0 : UInt8)).toNat : Nat) : Int) ≤ (57 : Int))) then grd ((s).size ≤ 140737488351232) (grd ((0 : Int) ≤ (0 : Int) ∧ (0 : Int) ≤ (((numN false (bL s)) : Nat) : Int) ∧ (((numN false (bL s)) : Nat) : Int) ≤ (s.size : Int)) (grd ((s.extract (Int.toNat 0) ((((numN false (bL s)) : Nat) : Int)).toNat).data.toList.length ≤ 140737488351232) (some ((.v (.tuple #[(.agg #[(.int .i64 ((3 : Int))), (.string (s.extract (Int.toNat (0 : Int)) ((((numN false (bL s)) : Nat) : Int)).toNat)), (.int .i64 ((pvL (bL (s.extract (Int.toNat (0 : Int)) ((((numN false (bL s)) : Nat) : Int)).toNat))).fst)), (.int .i64 ((pvL (bL (s.extract (Int.toNat (0 : Int)) ((((numN false (bL s)) : Nat) : Int)).toNat))).snd.fst)), (.int .i64 ((pvL (bL (s.extract (Int.toNat (0 : Int)) ((((numN false (bL s)) : Nat) : Int)).toNat))).snd.snd.fst)), (.string ((pvL (bL (s.extract (Int.toNat (0 : Int)) ((((numN false (bL s)) : Nat) : Int)).toNat))).snd.snd.snd.fst)), (.int .i64 ((0 : Int)))]), (.bool ((pvL (bL (s.extract (Int.toNat (0 : Int)) ((((numN false (bL s)) : Nat) : Int)).toNat))).snd.snd.snd.snd == (0 : Int)))]) : SV), ([] : Tab cE), 0))))
            else bif ((((s.data.toList.getD (Int.toNat (0 : Int)) (0 : UInt8)).toNat : Nat) : Int) == (39 : Int)) then grd ((s).size ≤ 140737488351232) (grd (1 ≤ (s).size) (grd ((0 : Int) ≤ (0 : Int) ∧ (0 : Int) ≤ quoLn (bL s) ∧ quoLn (bL s) ≤ (s.size : Int)) (grd ((s.extract (Int.toNat 0) (quoLn (bL s)).toNat).data.toList.length ≤ 140737488351232) (some ((.v (.tuple #[(.agg #[(.int .i64 ((3 : Int))), (.string (s.extract (Int.toNat (0 : Int)) (quoLn (bL s)).toNat)), (.int .i64 ((pvL (bL (s.extract (Int.toNat (0 : Int)) (quoLn (bL s)).toNat))).fst)), (.int .i64 ((pvL (bL (s.extract (Int.toNat (0 : Int)) (quoLn (bL s)).toNat))).snd.fst)), (.int .i64 ((pvL (bL (s.extract (Int.toNat (0 : Int)) (quoLn (bL s)).toNat))).snd.snd.fst)), (.string ((pvL (bL (s.extract (Int.toNat (0 : Int)) (quoLn (bL s)).toNat))).snd.snd.snd.fst)), (.int .i64 ((0 : Int)))]), (.bool ((pvL (bL (s.extract (Int.toNat (0 : Int)) (quoLn (bL s)).toNat))).snd.snd.snd.snd == (0 : Int)))]) : SV), ([] : Tab cE), 0)))))
              else grd ((s).size ≤ 140737488351232) (grd (1 ≤ (s).size) (grd ((0 : Int) ≤ (0 : Int) ∧ (0 : Int) ≤ signL (bL s) ∧ signL (bL s) ≤ (s.size : Int)) (some ((.v (.tuple #[(.agg #[(.int .i64 ((2 : Int))), (.string (s.extract (Int.toNat (0 : Int)) (signL (bL s)).toNat)), (.int .i64 ((0 : Int))), (.int .i64 ((0 : Int))), (.int .i64 ((0 : Int))), (.string ((ByteArray.mk #[]))), (.int .i64 ((0 : Int)))]), (.bool (decide (signL (bL s) > (0 : Int))))]) : SV), ([] : Tab cE), 0))))
          else bif ((((s.data.toList.getD (Int.toNat (0 : Int)) (0 : UInt8)).toNat : Nat) : Int) == (39 : Int)) then grd ((s).size ≤ 140737488351232) (grd (1 ≤ (s).size) (grd ((0 : Int) ≤ (0 : Int) ∧ (0 : Int) ≤ quoLn (bL s) ∧ quoLn (bL s) ≤ (s.size : Int)) (grd ((s.extract (Int.toNat 0) (quoLn (bL s)).toNat).data.toList.length ≤ 140737488351232) (some ((.v (.tuple #[(.agg #[(.int .i64 ((3 : Int))), (.string (s.extract (Int.toNat (0 : Int)) (quoLn (bL s)).toNat)), (.int .i64 ((pvL (bL (s.extract (Int.toNat (0 : Int)) (quoLn (bL s)).toNat))).fst)), (.int .i64 ((pvL (bL (s.extract (Int.toNat (0 : Int)) (quoLn (bL s)).toNat))).snd.fst)), (.int .i64 ((pvL (bL (s.extract (Int.toNat (0 : Int)) (quoLn (bL s)).toNat))).snd.snd.fst)), (.string ((pvL (bL (s.extract (Int.toNat (0 : Int)) (quoLn (bL s)).toNat))).snd.snd.snd.fst)), (.int .i64 ((0 : Int)))]), (.bool ((pvL (bL (s.extract (Int.toNat (0 : Int)) (quoLn (bL s)).toNat))).snd.snd.snd.snd == (0 : Int)))]) : SV), ([] : Tab cE), 0)))))
            else grd ((s).size ≤ 140737488351232) (grd (1 ≤ (s).size) (grd ((0 : Int) ≤ (0 : Int) ∧ (0 : Int) ≤ signL (bL s) ∧ signL (bL s) ≤ (s.size : Int)) (some ((.v (.tuple #[(.agg #[(.int .i64 ((2 : Int))), (.string (s.extract (Int.toNat (0 : Int)) (signL (bL s)).toNat)), (.int .i64 ((0 : Int))), (.int .i64 ((0 : Int))), (.int .i64 ((0 : Int))), (.string ((ByteArray.mk #[]))), (.int .i64 ((0 : Int)))]), (.bool (decide (signL (bL s) > (0 : Int))))]) : SV), ([] : Tab cE), 0))))
    else bif ((((s.data.toList.getD (Int.toNat (0 : Int)) (0 : UInt8)).toNat : Nat) : Int) == (95 : Int)) then rec (.l1 ((0 : Int)))
      else bif (decide ((((s.data.toList.getD (Int.toNat (0 : Int)) (0 : UInt8)).toNat : Nat) : Int) ≥ (48 : Int))) then bif (decide ((((s.data.toList.getD (Int.toNat (0 : Int)) (0 : UInt8)).toNat : Nat) : Int) ≤ (57 : Int))) then grd ((s).size ≤ 140737488351232) (grd ((0 : Int) ≤ (0 : Int) ∧ (0 : Int) ≤ (((numN false (bL s)) : Nat) : Int) ∧ (((numN false (bL s)) : Nat) : Int) ≤ (s.size : Int)) (grd ((s.extract (Int.toNat 0) ((((numN false (bL s)) : Nat) : Int)).toNat).data.toList.length ≤ 140737488351232) (some ((.v (.tuple #[(.agg #[(.int .i64 ((3 : Int))), (.string (s.extract (Int.toNat (0 : Int)) ((((numN false (bL s)) : Nat) : Int)).toNat)), (.int .i64 ((pvL (bL (s.extract (Int.toNat (0 : Int)) ((((numN false (bL s)) : Nat) : Int)).toNat))).fst)), (.int .i64 ((pvL (bL (s.extract (Int.toNat (0 : Int)) ((((numN false (bL s)) : Nat) : Int)).toNat))).snd.fst)), (.int .i64 ((pvL (bL (s.extract (Int.toNat (0 : Int)) ((((numN false (bL s)) : Nat) : Int)).toNat))).snd.snd.fst)), (.string ((pvL (bL (s.extract (Int.toNat (0 : Int)) ((((numN false (bL s)) : Nat) : Int)).toNat))).snd.snd.snd.fst)), (.int .i64 ((0 : Int)))]), (.bool ((pvL (bL (s.extract (Int.toNat (0 : Int)) ((((numN false (bL s)) : Nat) : Int)).toNat))).snd.snd.snd.snd == (0 : Int)))]) : SV), ([] : Tab cE), 0))))
          else bif ((((s.data.toList.getD (Int.toNat (0 : Int)) (0 : UInt8)).toNat : Nat) : Int) == (39 : Int)) then grd ((s).size ≤ 140737488351232) (grd (1 ≤ (s).size) (grd ((0 : Int) ≤ (0 : Int) ∧ (0 : Int) ≤ quoLn (bL s) ∧ quoLn (bL s) ≤ (s.size : Int)) (grd ((s.extract (Int.toNat 0) (quoLn (bL s)).toNat).data.toList.length ≤ 140737488351232) (some ((.v (.tuple #[(.agg #[(.int .i64 ((3 : Int))), (.string (s.extract (Int.toNat (0 : Int)) (quoLn (bL s)).toNat)), (.int .i64 ((pvL (bL (s.extract (Int.toNat (0 : Int)) (quoLn (bL s)).toNat))).fst)), (.int .i64 ((pvL (bL (s.extract (Int.toNat (0 : Int)) (quoLn (bL s)).toNat))).snd.fst)), (.int .i64 ((pvL (bL (s.extract (Int.toNat (0 : Int)) (quoLn (bL s)).toNat))).snd.snd.fst)), (.string ((pvL (bL (s.extract (Int.toNat (0 : Int)) (quoLn (bL s)).toNat))).snd.snd.snd.fst)), (.int .i64 ((0 : Int)))]), (.bool ((pvL (bL (s.extract (Int.toNat (0 : Int)) (quoLn (bL s)).toNat))).snd.snd.snd.snd == (0 : Int)))]) : SV), ([] : Tab cE), 0)))))
            else grd ((s).size ≤ 140737488351232) (grd (1 ≤ (s).size) (grd ((0 : Int) ≤ (0 : Int) ∧ (0 : Int) ≤ signL (bL s) ∧ signL (bL s) ≤ (s.size : Int)) (some ((.v (.tuple #[(.agg #[(.int .i64 ((2 : Int))), (.string (s.extract (Int.toNat (0 : Int)) (signL (bL s)).toNat)), (.int .i64 ((0 : Int))), (.int .i64 ((0 : Int))), (.int .i64 ((0 : Int))), (.string ((ByteArray.mk #[]))), (.int .i64 ((0 : Int)))]), (.bool (decide (signL (bL s) > (0 : Int))))]) : SV), ([] : Tab cE), 0))))
        else bif ((((s.data.toList.getD (Int.toNat (0 : Int)) (0 : UInt8)).toNat : Nat) : Int) == (39 : Int)) then grd ((s).size ≤ 140737488351232) (grd (1 ≤ (s).size) (grd ((0 : Int) ≤ (0 : Int) ∧ (0 : Int) ≤ quoLn (bL s) ∧ quoLn (bL s) ≤ (s.size : Int)) (grd ((s.extract (Int.toNat 0) (quoLn (bL s)).toNat).data.toList.length ≤ 140737488351232) (some ((.v (.tuple #[(.agg #[(.int .i64 ((3 : Int))), (.string (s.extract (Int.toNat (0 : Int)) (quoLn (bL s)).toNat)), (.int .i64 ((pvL (bL (s.extract (Int.toNat (0 : Int)) (quoLn (bL s)).toNat))).fst)), (.int .i64 ((pvL (bL (s.extract (Int.toNat (0 : Int)) (quoLn (bL s)).toNat))).snd.fst)), (.int .i64 ((pvL (bL (s.extract (Int.toNat (0 : Int)) (quoLn (bL s)).toNat))).snd.snd.fst)), (.string ((pvL (bL (s.extract (Int.toNat (0 : Int)) (quoLn (bL s)).toNat))).snd.snd.snd.fst)), (.int .i64 ((0 : Int)))]), (.bool ((pvL (bL (s.extract (Int.toNat (0 : Int)) (quoLn (bL s)).toNat))).snd.snd.snd.snd == (0 : Int)))]) : SV), ([] : Tab cE), 0)))))
          else grd ((s).size ≤ 140737488351232) (grd (1 ≤ (s).size) (grd ((0 : Int) ≤ (0 : Int) ∧ (0 : Int) ≤ signL (bL s) ∧ signL (bL s) ≤ (s.size : Int)) (some ((.v (.tuple #[(.agg #[(.int .i64 ((2 : Int))), (.string (s.extract (Int.toNat (0 : Int)) (signL (bL s)).toNat)), (.int .i64 ((0 : Int))), (.int .i64 ((0 : Int))), (.int .i64 ((0 : Int))), (.string ((ByteArray.mk #[]))), (.int .i64 ((0 : Int)))]), (.bool (decide (signL (bL s) > (0 : Int))))]) : SV), ([] : Tab cE), 0)))))
noncomputable def onR_l1 (s : ByteArray) (rec : onR_S → Option Rs) (xi0 : Int) : Option Rs :=
  bif (decide (xi0 < (s.size : Int))) then grd ((0 : Int) ≤ xi0 ∧ xi0 < (s.size : Int)) (bif (decide ((((s.data.toList.getD xi0.toNat (0 : UInt8)).toNat : Nat) : Int) ≥ (97 : Int))) then bif (decide ((((s.data.toList.getD xi0.toNat (0 : UInt8)).toNat : Nat) : Int) ≤ (122 : Int))) then rec (.l1 (IntKind.i64.wrap (xi0 + (1 : Int))))
        else bif ((((s.data.toList.getD xi0.toNat (0 : UInt8)).toNat : Nat) : Int) == (95 : Int)) then rec (.l1 (IntKind.i64.wrap (xi0 + (1 : Int))))
          else bif (decide ((((s.data.toList.getD xi0.toNat (0 : UInt8)).toNat : Nat) : Int) ≥ (48 : Int))) then bif (decide ((((s.data.toList.getD xi0.toNat (0 : UInt8)).toNat : Nat) : Int) ≤ (57 : Int))) then rec (.l1 (IntKind.i64.wrap (xi0 + (1 : Int))))
              else grd ((0 : Int) ≤ (0 : Int) ∧ (0 : Int) ≤ xi0 ∧ xi0 ≤ (s.size : Int)) (grd ((s.extract (Int.toNat 0) xi0.toNat).size ≤ 140737488351232) (some ((.v (.tuple #[(.agg #[(.int .i64 ((1 : Int))), (.string (s.extract (Int.toNat (0 : Int)) xi0.toNat)), (.int .i64 ((0 : Int))), (.int .i64 ((0 : Int))), (.int .i64 ((0 : Int))), (.string ((ByteArray.mk #[]))), (.int .i64 ((0 : Int)))]), (.bool (wordL (bL (s.extract (Int.toNat (0 : Int)) xi0.toNat))))]) : SV), ([] : Tab cE), 0)))
            else grd ((0 : Int) ≤ (0 : Int) ∧ (0 : Int) ≤ xi0 ∧ xi0 ≤ (s.size : Int)) (grd ((s.extract (Int.toNat 0) xi0.toNat).size ≤ 140737488351232) (some ((.v (.tuple #[(.agg #[(.int .i64 ((1 : Int))), (.string (s.extract (Int.toNat (0 : Int)) xi0.toNat)), (.int .i64 ((0 : Int))), (.int .i64 ((0 : Int))), (.int .i64 ((0 : Int))), (.string ((ByteArray.mk #[]))), (.int .i64 ((0 : Int)))]), (.bool (wordL (bL (s.extract (Int.toNat (0 : Int)) xi0.toNat))))]) : SV), ([] : Tab cE), 0)))
      else bif ((((s.data.toList.getD xi0.toNat (0 : UInt8)).toNat : Nat) : Int) == (95 : Int)) then rec (.l1 (IntKind.i64.wrap (xi0 + (1 : Int))))
        else bif (decide ((((s.data.toList.getD xi0.toNat (0 : UInt8)).toNat : Nat) : Int) ≥ (48 : Int))) then bif (decide ((((s.data.toList.getD xi0.toNat (0 : UInt8)).toNat : Nat) : Int) ≤ (57 : Int))) then rec (.l1 (IntKind.i64.wrap (xi0 + (1 : Int))))
            else grd ((0 : Int) ≤ (0 : Int) ∧ (0 : Int) ≤ xi0 ∧ xi0 ≤ (s.size : Int)) (grd ((s.extract (Int.toNat 0) xi0.toNat).size ≤ 140737488351232) (some ((.v (.tuple #[(.agg #[(.int .i64 ((1 : Int))), (.string (s.extract (Int.toNat (0 : Int)) xi0.toNat)), (.int .i64 ((0 : Int))), (.int .i64 ((0 : Int))), (.int .i64 ((0 : Int))), (.string ((ByteArray.mk #[]))), (.int .i64 ((0 : Int)))]), (.bool (wordL (bL (s.extract (Int.toNat (0 : Int)) xi0.toNat))))]) : SV), ([] : Tab cE), 0)))
          else grd ((0 : Int) ≤ (0 : Int) ∧ (0 : Int) ≤ xi0 ∧ xi0 ≤ (s.size : Int)) (grd ((s.extract (Int.toNat 0) xi0.toNat).size ≤ 140737488351232) (some ((.v (.tuple #[(.agg #[(.int .i64 ((1 : Int))), (.string (s.extract (Int.toNat (0 : Int)) xi0.toNat)), (.int .i64 ((0 : Int))), (.int .i64 ((0 : Int))), (.int .i64 ((0 : Int))), (.string ((ByteArray.mk #[]))), (.int .i64 ((0 : Int)))]), (.bool (wordL (bL (s.extract (Int.toNat (0 : Int)) xi0.toNat))))]) : SV), ([] : Tab cE), 0))))
  else grd ((0 : Int) ≤ (0 : Int) ∧ (0 : Int) ≤ xi0 ∧ xi0 ≤ (s.size : Int)) (grd ((s.extract (Int.toNat 0) xi0.toNat).size ≤ 140737488351232) (some ((.v (.tuple #[(.agg #[(.int .i64 ((1 : Int))), (.string (s.extract (Int.toNat (0 : Int)) xi0.toNat)), (.int .i64 ((0 : Int))), (.int .i64 ((0 : Int))), (.int .i64 ((0 : Int))), (.string ((ByteArray.mk #[]))), (.int .i64 ((0 : Int)))]), (.bool (wordL (bL (s.extract (Int.toNat (0 : Int)) xi0.toNat))))]) : SV), ([] : Tab cE), 0)))
noncomputable def onR (s : ByteArray) : Nat → onR_S → Option Rs
  | 0, _ => none
  | f + 1, .st => onR_st s (fun q => onR s f q)
  | f + 1, .l1 xi0 => onR_l1 s (fun q => onR s f q) xi0
theorem onR_st_fin (s : ByteArray) (rec : onR_S → Option Rs) (f : Nat) (ih : ∀ q r, rec q = some r → onR_Fin s f r q) (r : Rs) (h : onR_st s rec = some r) : onR_Fin s (f + 1) r .st := by
  unfold onR_st at h
  show FinR _ _ _ _ _ _ _
  refine ogrd h (fun c1 h => ?_)
  refine obif h (fun c2 h => ?_) (fun c2 h => ?_)
  · refine obif h (fun c3 h => ?_) (fun c3 h => ?_)
    · exact sat (keep := [0, 2, 4, 5]) (by decide) [.e, .t, .t, .t, .t, .t, .t, .l] (by kernel_rfl) (cj c1 (cj c2 (cj c2 (cj c2 (cj c3 (cj c3 (cj c3 cj0))))))) (fin_loop (f + 1) (fin_round (ih _ _ h f (by omega))))
    · refine obif h (fun c4 h => ?_) (fun c4 h => ?_)
      · exact sat (keep := [0, 2, 4, 5]) (by decide) [.e, .t, .t, .t, .f, .f, .f, .t] (by kernel_rfl) (cj c1 (cj c2 (cj c2 (cj c2 (cj c3 (cj c3 (cj c3 (cj c4 cj0)))))))) (fin_loop (f + 1) (fin_round (ih _ _ h f (by omega))))
      · refine obif h (fun c5 h => ?_) (fun c5 h => ?_)
        · refine obif h (fun c6 h => ?_) (fun c6 h => ?_)
          · refine ogrd h (fun c7 h => ?_)
            refine ogrd h (fun c8 h => ?_)
            refine ogrd h (fun c9 h => ?_)
            exact osome h (sfin (keep := []) (by decide) [.e, .t, .t, .t, .f, .f, .f, .f, .e, .t, .t, .t, .t, .c (.v (.int .i64 ((((numN false (bL s)) : Nat) : Int)))) [] 0, .c (.v (.tuple #[(.agg #[(.int .i64 ((pvL (bL (s.extract (Int.toNat 0) ((((numN false (bL s)) : Nat) : Int)).toNat))).fst)), (.int .i64 ((pvL (bL (s.extract (Int.toNat 0) ((((numN false (bL s)) : Nat) : Int)).toNat))).snd.fst)), (.int .i64 ((pvL (bL (s.extract (Int.toNat 0) ((((numN false (bL s)) : Nat) : Int)).toNat))).snd.snd.fst)), (.string ((pvL (bL (s.extract (Int.toNat 0) ((((numN false (bL s)) : Nat) : Int)).toNat))).snd.snd.snd.fst))]), (.int .i64 ((pvL (bL (s.extract (Int.toNat 0) ((((numN false (bL s)) : Nat) : Int)).toNat))).snd.snd.snd.snd))])) [] 0] (by kernel_rfl) (cj c1 (cj c2 (cj c2 (cj c2 (cj c3 (cj c3 (cj c3 (cj c4 (cj c1 (cj c5 (cj c5 (cj c5 (cj c6 (cj (rnumber5_does (s) (by assumption)) (cj c8 (cj (rparse4_does (s.extract (Int.toNat (0 : Int)) ((((numN false (bL s)) : Nat) : Int)).toNat).data.toList (by assumption)) (cj c8 cj0))))))))))))))))))
          · refine obif h (fun c10 h => ?_) (fun c10 h => ?_)
            · refine ogrd h (fun c11 h => ?_)
              refine ogrd h (fun c12 h => ?_)
              refine ogrd h (fun c13 h => ?_)
              refine ogrd h (fun c14 h => ?_)
              exact osome h (sfin (keep := []) (by decide) [.e, .t, .t, .t, .f, .f, .f, .f, .e, .t, .t, .t, .f, .t, .c (.v (.int .i64 (quoLn (bL s)))) [] 0, .c (.v (.tuple #[(.agg #[(.int .i64 ((pvL (bL (s.extract (Int.toNat 0) (quoLn (bL s)).toNat))).fst)), (.int .i64 ((pvL (bL (s.extract (Int.toNat 0) (quoLn (bL s)).toNat))).snd.fst)), (.int .i64 ((pvL (bL (s.extract (Int.toNat 0) (quoLn (bL s)).toNat))).snd.snd.fst)), (.string ((pvL (bL (s.extract (Int.toNat 0) (quoLn (bL s)).toNat))).snd.snd.snd.fst))]), (.int .i64 ((pvL (bL (s.extract (Int.toNat 0) (quoLn (bL s)).toNat))).snd.snd.snd.snd))])) [] 0] (by kernel_rfl) (cj c1 (cj c2 (cj c2 (cj c2 (cj c3 (cj c3 (cj c3 (cj c4 (cj c1 (cj c5 (cj c5 (cj c5 (cj c6 (cj c1 (cj c10 (cj (rquoted5_does (s) (by assumption) (by assumption)) (cj c13 (cj (rparse4_does (s.extract (Int.toNat (0 : Int)) (quoLn (bL s)).toNat).data.toList (by assumption)) (cj c13 cj0))))))))))))))))))))
            · refine ogrd h (fun c15 h => ?_)
              refine ogrd h (fun c16 h => ?_)
              refine ogrd h (fun c17 h => ?_)
              exact osome h (sfin (keep := []) (by decide) [.e, .t, .t, .t, .f, .f, .f, .f, .e, .t, .t, .t, .f, .f, .c (.v (.int .i64 (signL (bL s)))) [] 0] (by kernel_rfl) (cj c1 (cj c2 (cj c2 (cj c2 (cj c3 (cj c3 (cj c3 (cj c4 (cj c1 (cj c5 (cj c5 (cj c5 (cj c6 (cj c1 (cj c10 (cj (rsign_does (s) (by assumption) (by assumption)) (cj c17 cj0))))))))))))))))))
        · refine obif h (fun c18 h => ?_) (fun c18 h => ?_)
          · refine ogrd h (fun c19 h => ?_)
            refine ogrd h (fun c20 h => ?_)
            refine ogrd h (fun c21 h => ?_)
            refine ogrd h (fun c22 h => ?_)
            exact osome h (sfin (keep := []) (by decide) [.e, .t, .t, .t, .f, .f, .f, .f, .e, .f, .f, .f, .l, .t, .c (.v (.int .i64 (quoLn (bL s)))) [] 0, .c (.v (.tuple #[(.agg #[(.int .i64 ((pvL (bL (s.extract (Int.toNat 0) (quoLn (bL s)).toNat))).fst)), (.int .i64 ((pvL (bL (s.extract (Int.toNat 0) (quoLn (bL s)).toNat))).snd.fst)), (.int .i64 ((pvL (bL (s.extract (Int.toNat 0) (quoLn (bL s)).toNat))).snd.snd.fst)), (.string ((pvL (bL (s.extract (Int.toNat 0) (quoLn (bL s)).toNat))).snd.snd.snd.fst))]), (.int .i64 ((pvL (bL (s.extract (Int.toNat 0) (quoLn (bL s)).toNat))).snd.snd.snd.snd))])) [] 0] (by kernel_rfl) (cj c1 (cj c2 (cj c2 (cj c2 (cj c3 (cj c3 (cj c3 (cj c4 (cj c1 (cj c5 (cj c5 (cj c5 (cj c1 (cj c18 (cj (rquoted5_does (s) (by assumption) (by assumption)) (cj c21 (cj (rparse4_does (s.extract (Int.toNat (0 : Int)) (quoLn (bL s)).toNat).data.toList (by assumption)) (cj c21 cj0)))))))))))))))))))
          · refine ogrd h (fun c23 h => ?_)
            refine ogrd h (fun c24 h => ?_)
            refine ogrd h (fun c25 h => ?_)
            exact osome h (sfin (keep := []) (by decide) [.e, .t, .t, .t, .f, .f, .f, .f, .e, .f, .f, .f, .l, .f, .c (.v (.int .i64 (signL (bL s)))) [] 0] (by kernel_rfl) (cj c1 (cj c2 (cj c2 (cj c2 (cj c3 (cj c3 (cj c3 (cj c4 (cj c1 (cj c5 (cj c5 (cj c5 (cj c1 (cj c18 (cj (rsign_does (s) (by assumption) (by assumption)) (cj c25 cj0)))))))))))))))))
  · refine obif h (fun c26 h => ?_) (fun c26 h => ?_)
    · exact sat (keep := [0, 2, 4, 5]) (by decide) [.e, .f, .f, .f, .l, .l, .l, .t] (by kernel_rfl) (cj c1 (cj c2 (cj c2 (cj c2 (cj c26 cj0))))) (fin_loop (f + 1) (fin_round (ih _ _ h f (by omega))))
    · refine obif h (fun c27 h => ?_) (fun c27 h => ?_)
      · refine obif h (fun c28 h => ?_) (fun c28 h => ?_)
        · refine ogrd h (fun c29 h => ?_)
          refine ogrd h (fun c30 h => ?_)
          refine ogrd h (fun c31 h => ?_)
          exact osome h (sfin (keep := []) (by decide) [.e, .f, .f, .f, .l, .l, .l, .f, .e, .t, .t, .t, .t, .c (.v (.int .i64 ((((numN false (bL s)) : Nat) : Int)))) [] 0, .c (.v (.tuple #[(.agg #[(.int .i64 ((pvL (bL (s.extract (Int.toNat 0) ((((numN false (bL s)) : Nat) : Int)).toNat))).fst)), (.int .i64 ((pvL (bL (s.extract (Int.toNat 0) ((((numN false (bL s)) : Nat) : Int)).toNat))).snd.fst)), (.int .i64 ((pvL (bL (s.extract (Int.toNat 0) ((((numN false (bL s)) : Nat) : Int)).toNat))).snd.snd.fst)), (.string ((pvL (bL (s.extract (Int.toNat 0) ((((numN false (bL s)) : Nat) : Int)).toNat))).snd.snd.snd.fst))]), (.int .i64 ((pvL (bL (s.extract (Int.toNat 0) ((((numN false (bL s)) : Nat) : Int)).toNat))).snd.snd.snd.snd))])) [] 0] (by kernel_rfl) (cj c1 (cj c2 (cj c2 (cj c2 (cj c26 (cj c1 (cj c27 (cj c27 (cj c27 (cj c28 (cj (rnumber5_does (s) (by assumption)) (cj c30 (cj (rparse4_does (s.extract (Int.toNat (0 : Int)) ((((numN false (bL s)) : Nat) : Int)).toNat).data.toList (by assumption)) (cj c30 cj0)))))))))))))))
        · refine obif h (fun c32 h => ?_) (fun c32 h => ?_)
          · refine ogrd h (fun c33 h => ?_)
            refine ogrd h (fun c34 h => ?_)
            refine ogrd h (fun c35 h => ?_)
            refine ogrd h (fun c36 h => ?_)
            exact osome h (sfin (keep := []) (by decide) [.e, .f, .f, .f, .l, .l, .l, .f, .e, .t, .t, .t, .f, .t, .c (.v (.int .i64 (quoLn (bL s)))) [] 0, .c (.v (.tuple #[(.agg #[(.int .i64 ((pvL (bL (s.extract (Int.toNat 0) (quoLn (bL s)).toNat))).fst)), (.int .i64 ((pvL (bL (s.extract (Int.toNat 0) (quoLn (bL s)).toNat))).snd.fst)), (.int .i64 ((pvL (bL (s.extract (Int.toNat 0) (quoLn (bL s)).toNat))).snd.snd.fst)), (.string ((pvL (bL (s.extract (Int.toNat 0) (quoLn (bL s)).toNat))).snd.snd.snd.fst))]), (.int .i64 ((pvL (bL (s.extract (Int.toNat 0) (quoLn (bL s)).toNat))).snd.snd.snd.snd))])) [] 0] (by kernel_rfl) (cj c1 (cj c2 (cj c2 (cj c2 (cj c26 (cj c1 (cj c27 (cj c27 (cj c27 (cj c28 (cj c1 (cj c32 (cj (rquoted5_does (s) (by assumption) (by assumption)) (cj c35 (cj (rparse4_does (s.extract (Int.toNat (0 : Int)) (quoLn (bL s)).toNat).data.toList (by assumption)) (cj c35 cj0)))))))))))))))))
          · refine ogrd h (fun c37 h => ?_)
            refine ogrd h (fun c38 h => ?_)
            refine ogrd h (fun c39 h => ?_)
            exact osome h (sfin (keep := []) (by decide) [.e, .f, .f, .f, .l, .l, .l, .f, .e, .t, .t, .t, .f, .f, .c (.v (.int .i64 (signL (bL s)))) [] 0] (by kernel_rfl) (cj c1 (cj c2 (cj c2 (cj c2 (cj c26 (cj c1 (cj c27 (cj c27 (cj c27 (cj c28 (cj c1 (cj c32 (cj (rsign_does (s) (by assumption) (by assumption)) (cj c39 cj0)))))))))))))))
      · refine obif h (fun c40 h => ?_) (fun c40 h => ?_)
        · refine ogrd h (fun c41 h => ?_)
          refine ogrd h (fun c42 h => ?_)
          refine ogrd h (fun c43 h => ?_)
          refine ogrd h (fun c44 h => ?_)
          exact osome h (sfin (keep := []) (by decide) [.e, .f, .f, .f, .l, .l, .l, .f, .e, .f, .f, .f, .l, .t, .c (.v (.int .i64 (quoLn (bL s)))) [] 0, .c (.v (.tuple #[(.agg #[(.int .i64 ((pvL (bL (s.extract (Int.toNat 0) (quoLn (bL s)).toNat))).fst)), (.int .i64 ((pvL (bL (s.extract (Int.toNat 0) (quoLn (bL s)).toNat))).snd.fst)), (.int .i64 ((pvL (bL (s.extract (Int.toNat 0) (quoLn (bL s)).toNat))).snd.snd.fst)), (.string ((pvL (bL (s.extract (Int.toNat 0) (quoLn (bL s)).toNat))).snd.snd.snd.fst))]), (.int .i64 ((pvL (bL (s.extract (Int.toNat 0) (quoLn (bL s)).toNat))).snd.snd.snd.snd))])) [] 0] (by kernel_rfl) (cj c1 (cj c2 (cj c2 (cj c2 (cj c26 (cj c1 (cj c27 (cj c27 (cj c27 (cj c1 (cj c40 (cj (rquoted5_does (s) (by assumption) (by assumption)) (cj c43 (cj (rparse4_does (s.extract (Int.toNat (0 : Int)) (quoLn (bL s)).toNat).data.toList (by assumption)) (cj c43 cj0))))))))))))))))
        · refine ogrd h (fun c45 h => ?_)
          refine ogrd h (fun c46 h => ?_)
          refine ogrd h (fun c47 h => ?_)
          exact osome h (sfin (keep := []) (by decide) [.e, .f, .f, .f, .l, .l, .l, .f, .e, .f, .f, .f, .l, .f, .c (.v (.int .i64 (signL (bL s)))) [] 0] (by kernel_rfl) (cj c1 (cj c2 (cj c2 (cj c2 (cj c26 (cj c1 (cj c27 (cj c27 (cj c27 (cj c1 (cj c40 (cj (rsign_does (s) (by assumption) (by assumption)) (cj c47 cj0))))))))))))))
theorem onR_l1_fin (s : ByteArray) (rec : onR_S → Option Rs) (f : Nat) (ih : ∀ q r, rec q = some r → onR_Fin s f r q) (xi0 : Int) (r : Rs) (h : onR_l1 s rec xi0 = some r) : onR_Fin s (f + 1) r (.l1 xi0) := by
  unfold onR_l1 at h
  intro m0 m0h
  obtain ⟨m0, rfl⟩ : ∃ k, m0 = k + 1 := ⟨m0 - 1, by omega⟩
  refine obif h (fun c1 h => ?_) (fun c1 h => ?_)
  · refine ogrd h (fun c2 h => ?_)
    refine obif h (fun c3 h => ?_) (fun c3 h => ?_)
    · refine obif h (fun c4 h => ?_) (fun c4 h => ?_)
      · exact sat (keep := [0, 2, 4, 5]) (by decide) [.t, .t, .t, .t, .e, .t, .t, .t, .t, .t, .t, .t, .l, .l, .l, .l, .t, .l, .t, .l] (by kernel_rfl) (cj c1 (cj c1 (cj c1 (cj c2 (cj c1 (cj c3 (cj c3 (cj c3 (cj c4 (cj c4 (cj c4 (cj c1 (cj c1 (cj c1 cj0)))))))))))))) (fin_round (ih _ _ h (m0) (by omega)))
      · refine obif h (fun c5 h => ?_) (fun c5 h => ?_)
        · exact sat (keep := [0, 2, 4, 5]) (by decide) [.t, .t, .t, .t, .e, .t, .t, .t, .f, .f, .f, .t, .t, .t, .t, .t, .t, .t, .t, .l] (by kernel_rfl) (cj c1 (cj c1 (cj c1 (cj c2 (cj c1 (cj c3 (cj c3 (cj c3 (cj c4 (cj c4 (cj c4 (cj c1 (cj c5 (cj c5 (cj c5 (cj c5 (cj c1 (cj c5 (cj c1 cj0))))))))))))))))))) (fin_round (ih _ _ h (m0) (by omega)))
        · refine obif h (fun c6 h => ?_) (fun c6 h => ?_)
          · refine obif h (fun c7 h => ?_) (fun c7 h => ?_)
            · exact sat (keep := [0, 2, 4, 5]) (by decide) [.t, .t, .t, .t, .e, .t, .t, .t, .f, .f, .f, .t, .f, .f, .f, .f, .e, .t, .t, .t, .t, .f, .t, .t] (by kernel_rfl) (cj c1 (cj c1 (cj c1 (cj c2 (cj c1 (cj c3 (cj c3 (cj c3 (cj c4 (cj c4 (cj c4 (cj c1 (cj c5 (cj c5 (cj c5 (cj c2 (cj c5 (cj c6 (cj c6 (cj c6 (cj c1 (cj c5 (cj c1 (cj c7 cj0)))))))))))))))))))))))) (fin_round (ih _ _ h (m0) (by omega)))
            · refine ogrd h (fun c8 h => ?_)
              refine ogrd h (fun c9 h => ?_)
              exact osome h (sfin (keep := []) (by decide) [.t, .t, .t, .t, .e, .t, .t, .t, .f, .f, .f, .t, .f, .f, .f, .f, .e, .t, .t, .t, .t, .f, .t, .f, .c (.v (.bool (wordL (bL (s.extract (Int.toNat 0) xi0.toNat))))) [] 0] (by kernel_rfl) (cj c1 (cj c1 (cj c1 (cj c2 (cj c1 (cj c3 (cj c3 (cj c3 (cj c4 (cj c4 (cj c4 (cj c1 (cj c5 (cj c5 (cj c5 (cj c2 (cj c5 (cj c6 (cj c6 (cj c6 (cj c1 (cj c5 (cj c1 (cj c7 (cj c8 (cj (rword_does (s.extract (Int.toNat (0 : Int)) xi0.toNat) (by assumption)) cj0)))))))))))))))))))))))))))
          · refine ogrd h (fun c10 h => ?_)
            refine ogrd h (fun c11 h => ?_)
            exact osome h (sfin (keep := []) (by decide) [.t, .t, .t, .t, .e, .t, .t, .t, .f, .f, .f, .t, .f, .f, .f, .f, .e, .f, .f, .f, .t, .f, .t, .l, .c (.v (.bool (wordL (bL (s.extract (Int.toNat 0) xi0.toNat))))) [] 0] (by kernel_rfl) (cj c1 (cj c1 (cj c1 (cj c2 (cj c1 (cj c3 (cj c3 (cj c3 (cj c4 (cj c4 (cj c4 (cj c1 (cj c5 (cj c5 (cj c5 (cj c2 (cj c5 (cj c6 (cj c6 (cj c6 (cj c1 (cj c5 (cj c1 (cj c10 (cj (rword_does (s.extract (Int.toNat (0 : Int)) xi0.toNat) (by assumption)) cj0))))))))))))))))))))))))))
    · refine obif h (fun c12 h => ?_) (fun c12 h => ?_)
      · exact sat (keep := [0, 2, 4, 5]) (by decide) [.t, .t, .t, .t, .e, .f, .f, .f, .l, .l, .l, .t, .t, .t, .t, .t, .t, .t, .t, .l] (by kernel_rfl) (cj c1 (cj c1 (cj c1 (cj c2 (cj c1 (cj c3 (cj c3 (cj c3 (cj c1 (cj c12 (cj c12 (cj c12 (cj c12 (cj c1 (cj c12 (cj c1 cj0)))))))))))))))) (fin_round (ih _ _ h (m0) (by omega)))
      · refine obif h (fun c13 h => ?_) (fun c13 h => ?_)
        · refine obif h (fun c14 h => ?_) (fun c14 h => ?_)
          · exact sat (keep := [0, 2, 4, 5]) (by decide) [.t, .t, .t, .t, .e, .f, .f, .f, .l, .l, .l, .t, .f, .f, .f, .f, .e, .t, .t, .t, .t, .f, .t, .t] (by kernel_rfl) (cj c1 (cj c1 (cj c1 (cj c2 (cj c1 (cj c3 (cj c3 (cj c3 (cj c1 (cj c12 (cj c12 (cj c12 (cj c2 (cj c12 (cj c13 (cj c13 (cj c13 (cj c1 (cj c12 (cj c1 (cj c14 cj0))))))))))))))))))))) (fin_round (ih _ _ h (m0) (by omega)))
          · refine ogrd h (fun c15 h => ?_)
            refine ogrd h (fun c16 h => ?_)
            exact osome h (sfin (keep := []) (by decide) [.t, .t, .t, .t, .e, .f, .f, .f, .l, .l, .l, .t, .f, .f, .f, .f, .e, .t, .t, .t, .t, .f, .t, .f, .c (.v (.bool (wordL (bL (s.extract (Int.toNat 0) xi0.toNat))))) [] 0] (by kernel_rfl) (cj c1 (cj c1 (cj c1 (cj c2 (cj c1 (cj c3 (cj c3 (cj c3 (cj c1 (cj c12 (cj c12 (cj c12 (cj c2 (cj c12 (cj c13 (cj c13 (cj c13 (cj c1 (cj c12 (cj c1 (cj c14 (cj c15 (cj (rword_does (s.extract (Int.toNat (0 : Int)) xi0.toNat) (by assumption)) cj0))))))))))))))))))))))))
        · refine ogrd h (fun c17 h => ?_)
          refine ogrd h (fun c18 h => ?_)
          exact osome h (sfin (keep := []) (by decide) [.t, .t, .t, .t, .e, .f, .f, .f, .l, .l, .l, .t, .f, .f, .f, .f, .e, .f, .f, .f, .t, .f, .t, .l, .c (.v (.bool (wordL (bL (s.extract (Int.toNat 0) xi0.toNat))))) [] 0] (by kernel_rfl) (cj c1 (cj c1 (cj c1 (cj c2 (cj c1 (cj c3 (cj c3 (cj c3 (cj c1 (cj c12 (cj c12 (cj c12 (cj c2 (cj c12 (cj c13 (cj c13 (cj c13 (cj c1 (cj c12 (cj c1 (cj c17 (cj (rword_does (s.extract (Int.toNat (0 : Int)) xi0.toNat) (by assumption)) cj0)))))))))))))))))))))))
  · refine ogrd h (fun c19 h => ?_)
    refine ogrd h (fun c20 h => ?_)
    exact osome h (sfin (keep := []) (by decide) [.f, .f, .f, .f, .f, .f, .f, .l, .c (.v (.bool (wordL (bL (s.extract (Int.toNat 0) xi0.toNat))))) [] 0] (by kernel_rfl) (cj c1 (cj c1 (cj c1 (cj c1 (cj c1 (cj c1 (cj c1 (cj c19 (cj (rword_does (s.extract (Int.toNat (0 : Int)) xi0.toNat) (by assumption)) cj0))))))))))
theorem onR_ok (s : ByteArray) : ∀ f q r, onR s f q = some r → onR_Fin s f r q := by
  intro f
  induction f with
  | zero => intro q r h; cases h
  | succ f ih =>
    intro q r h
    cases q with
    | st => exact onR_st_fin s _ f ih r h
    | l1 xi0 => exact onR_l1_fin s _ f ih xi0 r h
theorem onR_does (s : ByteArray) (k : Nat) {r : Rs} (h : onR s k .st = some r) : Does cE 62 [] 0 [.v (st s)] r.1 r.2.1 r.2.2 :=
  does_of_fin (fn := Tryz.f62) (c := bd Tryz.f62) rfl (by kernel_rfl) rfl (onR_ok s k .st r h)
end Go.Proofs.YtpfignfgfhbblaaGreatDoorC
/- The reference's one: what it comes to. -/
namespace Go.Proofs.YtpfignfgfhbblaaGreatDoorC
open Go.Proofs Go.Proofs.YtpfignfgfhbblaaGreatDoorSx Go.Lib
set_option maxRecDepth 100000
set_option linter.unusedVariables false
theorem tree4 (a1 a2 a3 a4 a5 q : Bool) (W N Q S : Option Rs) :
    (bif a1 then bif a2 then W else bif a3 then W else bif a4 then bif a5 then N else bif q then Q else S else bif q then Q else S
     else bif a3 then W else bif a4 then bif a5 then N else bif q then Q else S else bif q then Q else S) = bif (a1 && a2 || a3) then W else bif (a4 && a5) then N else bif q then Q else S := by
  cases a1 <;> cases a2 <;> cases a3 <;> cases a4 <;> cases a5 <;> cases q <;> rfl
theorem take_tw : ∀ r : List UInt8, r.take (r.takeWhile wrdB).length = r.takeWhile wrdB
  | [] => rfl
  | c :: r => by
    rw [List.takeWhile_cons]
    cases wrdB c with
    | true => simp [take_tw r]
    | false => simp
theorem tw_le : ∀ r : List UInt8, (r.takeWhile wrdB).length ≤ r.length
  | [] => Nat.le_refl _
  | c :: r => by
    rw [List.takeWhile_cons]
    have := tw_le r
    cases wrdB c with
    | true => simp; omega
    | false => simp
theorem tw_all : ∀ r : List UInt8, (r.takeWhile wrdB).all wrdB = true
  | [] => rfl
  | c :: r => by
    rw [List.takeWhile_cons]
    cases h : wrdB c with
    | true => simp [h, tw_all r]
    | false => simp
theorem numN_le : ∀ (b : Bool) (l : List UInt8), numN b l ≤ l.length
  | _, [] => Nat.le_refl _
  | b, c :: r => by
    have h1 := numN_le b r
    have h2 := numN_le true r
    rw [numN, List.length_cons]
    cases digB c with
    | true => show numN b r + 1 ≤ _; omega
    | false =>
      cases (c == 46 && !b) with
      | true => show numN true r + 1 ≤ _; omega
      | false => show 0 ≤ _; omega
theorem quoN_le : ∀ (n : Nat) (r : List UInt8), r.length ≤ n → ∀ k, quoN r = some k → k ≤ r.length := by
  intro n
  induction n with
  | zero =>
    intro r hr k hk
    have e := List.eq_nil_of_length_eq_zero (Nat.le_zero.1 hr)
    subst e
    cases hk
  | succ n ih =>
    intro r hr k hk
    cases r with
    | nil => cases hk
    | cons c r =>
      simp only [List.length_cons] at hr ⊢
      cases hc : (c == 39) with
      | false =>
        rw [quoN.eq_def] at hk
        simp only [hc, cond_false] at hk
        cases hq : quoN r with
        | none => rw [hq] at hk; cases hk
        | some j =>
          rw [hq] at hk
          have := ih r (by omega) j hq
          simp at hk
          omega
      | true =>
        rw [quoN.eq_def] at hk
        simp only [hc, cond_true] at hk
        cases r with
        | nil => simp at hk; omega
        | cons d r =>
          simp only [List.length_cons] at hr ⊢
          cases hd : (d == 39) with
          | false => simp only [hd, cond_false] at hk; simp at hk; omega
          | true =>
            simp only [hd, cond_true] at hk
            cases hq : quoN r with
            | none => rw [hq] at hk; cases hk
            | some j =>
              rw [hq] at hk
              have := ih r (by omega) j hq
              simp at hk
              omega
theorem quoK_le (r : List UInt8) : quoK r ≤ r.length + 1 := by
  unfold quoK
  cases h : quoN r with
  | none => exact Nat.zero_le _
  | some k =>
    have := quoN_le r.length r (Nat.le_refl _) k h
    show k + 1 ≤ _
    omega
theorem quoLn_eq (c : UInt8) (r : List UInt8) : quoLn (c :: r) = ((quoK r : Nat) : Int) := by
  unfold quoLn quoK
  show (match quoN r with | some k => _ | none => _) = _
  cases quoN r <;> rfl
theorem signL_b (c : UInt8) (r : List UInt8) : 0 ≤ signL (c :: r) ∧ signL (c :: r) ≤ (r.length : Int) + 1 := by
  have e : signL (c :: r) = bif ((c == 60 && r.head? == some 62) || ((c == 60 && r.head? == some 61) || (c == 62 && r.head? == some 61))) then 2 else bif signs1.contains c then 1 else 0 := rfl
  rw [e]
  cases h : ((c == 60 && r.head? == some 62) || ((c == 60 && r.head? == some 61) || (c == 62 && r.head? == some 61))) with
  | true =>
    cases r with
    | nil =>
      exfalso
      revert h
      show ((c == 60 && false) || ((c == 60 && false) || (c == 62 && false))) = true → False
      cases (c == 60) <;> cases (c == 62) <;> intro h <;> cases h
    | cons d r => exact ⟨by show (0 : Int) ≤ 2; decide, by show (2 : Int) ≤ _; rw [List.length_cons]; omega⟩
  | false =>
    cases signs1.contains c with
    | true => exact ⟨by show (0 : Int) ≤ 1; decide, by show (1 : Int) ≤ _; omega⟩
    | false => exact ⟨by show (0 : Int) ≤ 0; decide, by show (0 : Int) ≤ _; omega⟩
theorem ext0 (l : List UInt8) (n : Nat) : (oL l).extract (Int.toNat 0) ((n : Int)).toNat = oL (l.take n) := by
  rw [oL_ext]
  rfl
abbrev oneRs (l : List UInt8) : Rs := (.v (.tuple #[tkS (oneR l).1 (oL (l.take (oneR l).2.1)) (oneR l).2.2.1 0, .bool (oneR l).2.2.2]), [], 0)
abbrev wrdRs (l : List UInt8) (n : Nat) : Rs := (.v (.tuple #[tkS 1 (oL (l.take n)) zV 0, .bool (wordL (l.take n))]), [], 0)
theorem onR_fin (l : List UInt8) (n : Nat) (hn : n ≤ l.length) (hl : l.length ≤ 140737488351232) : grd ((0 : Int) ≤ 0 ∧ (0 : Int) ≤ (n : Int) ∧ (n : Int) ≤ ((oL l).size : Int)) (grd (((oL l).extract (Int.toNat 0) ((n : Int)).toNat).size ≤ 140737488351232) (some ((.v (.tuple #[(.agg #[(.int .i64 1), (.string ((oL l).extract (Int.toNat 0) ((n : Int)).toNat)), (.int .i64 0), (.int .i64 0), (.int .i64 0), (.string (ByteArray.mk #[])), (.int .i64 0)]), (.bool (wordL (bL ((oL l).extract (Int.toNat 0) ((n : Int)).toNat))))]) : SV), ([] : Tab cE), 0))) = some (wrdRs l n) := by
  rw [ext0]
  refine gp (by rw [oL_size]; omega) (gp (by rw [oL_size, List.length_take]; omega) ?_)
  rw [show bL (oL (l.take n)) = l.take n from oL_data _]
  rfl
theorem onR_step (p r : List UInt8) (c : UInt8) (f : Nat) (hs : p.length + r.length + 1 ≤ 140737488351232) : onR (oL (p ++ c :: r)) (f + 1) (.l1 (p.length : Int)) =
    bif wrdB c then onR (oL (p ++ c :: r)) f (.l1 ((p.length + 1 : Nat) : Int)) else some (wrdRs (p ++ c :: r) p.length) := by
  show onR_l1 _ _ _ = _
  unfold onR_l1
  have hz : ((oL (p ++ c :: r)).size : Int) = p.length + r.length + 1 := by rw [oL_size]; simp; omega
  have hf := onR_fin (p ++ c :: r) p.length (by simp) (by simp; omega)
  refine bt (decide_eq_true (by omega)) (gp (by omega) ?_)
  rw [hf, getD_of, w1 (by omega), show (97 : Int) = ((97 : Nat) : Int) from rfl, show (122 : Int) = ((122 : Nat) : Int) from rfl, show (48 : Int) = ((48 : Nat) : Int) from rfl, show (57 : Int) = ((57 : Nat) : Int) from rfl, show (95 : Int) = (((95 : UInt8).toNat : Nat) : Int) from rfl]
  rw [cI_ge, cI_le, cI_ge, cI_le, cI_eq]
  unfold wrdB letB digB
  cases decide (97 ≤ c.toNat) <;> cases decide (c.toNat ≤ 122) <;> cases decide (48 ≤ c.toNat) <;> cases decide (c.toNat ≤ 57) <;> cases (c == 95) <;> rfl
theorem onR_loop : ∀ (r p : List UInt8) (f : Nat), r.length + 1 ≤ f → p.length + r.length ≤ 140737488351232 → onR (oL (p ++ r)) f (.l1 (p.length : Int)) = some (wrdRs (p ++ r) (p.length + (r.takeWhile wrdB).length))
  | [], p, f, hf, hs => by
    obtain ⟨f, rfl⟩ : ∃ k, f = k + 1 := ⟨f - 1, by omega⟩
    simp only [List.length_nil] at hs
    show onR_l1 _ _ _ = _
    unfold onR_l1
    refine bf (decide_eq_false (by rw [oL_size]; simp)) ?_
    exact onR_fin (p ++ []) p.length (by simp) (by simp; omega)
  | c :: r, p, f, hf, hs => by
    simp only [List.length_cons] at hf hs
    obtain ⟨f, rfl⟩ : ∃ k, f = k + 1 := ⟨f - 1, by omega⟩
    rw [onR_step p r c f (by omega), List.takeWhile_cons]
    have ih := onR_loop r (p ++ [c]) f (by omega) (by simp; omega)
    have e1 : p ++ [c] ++ r = p ++ c :: r := by simp
    have e2 : (p ++ [c]).length = p.length + 1 := by simp
    rw [e1, e2] at ih
    rw [ih]
    cases wrdB c with
    | true => exact congrArg (fun n => some (wrdRs (p ++ c :: r) n)) (by simp; omega)
    | false => rfl
theorem oneR_eq (c : UInt8) (r : List UInt8) : oneR (c :: r) = bif letB c then (1, (r.takeWhile wrdB).length + 1, zV, decide ((r.takeWhile wrdB).length + 1 ≤ 32))
    else bif digB c then (3, numN false (c :: r), pv4 ((c :: r).take (numN false (c :: r))), pvOk ((c :: r).take (numN false (c :: r))))
    else bif c == 39 then (3, quoK r, pv4 ((c :: r).take (quoK r)), pvOk ((c :: r).take (quoK r)))
    else (2, (signL (c :: r)).toNat, zV, decide (0 < signL (c :: r))) := rfl
theorem onR_eq (c : UInt8) (r : List UInt8) (hl : r.length + 1 ≤ 140737488351232) : onR (oL (c :: r)) (r.length + 4) .st = some (oneRs (c :: r)) := by
  have hW := onR_loop (c :: r) [] (r.length + 3) (by simp) (by simp; omega)
  have hz : (oL (c :: r)).size = r.length + 1 := by rw [oL_size]; rfl
  have hz2 : ((oL (c :: r)).size : Int) = (r.length : Int) + 1 := by rw [hz]; rfl
  have hb : bL (oL (c :: r)) = c :: r := oL_data _
  show onR_st _ _ = _
  unfold onR_st
  refine gp (by omega) ?_
  rw [head_at, show (97 : Int) = ((97 : Nat) : Int) from rfl, show (122 : Int) = ((122 : Nat) : Int) from rfl, show (48 : Int) = ((48 : Nat) : Int) from rfl, show (57 : Int) = ((57 : Nat) : Int) from rfl, show (95 : Int) = (((95 : UInt8).toNat : Nat) : Int) from rfl, b39]
  rw [cI_ge, cI_le, cI_ge, cI_le, cI_eq, hb, quoLn_eq]
  refine (tree4 _ _ _ _ _ _ _ _ _ _).trans ?_
  have hn := numN_le false (c :: r)
  have hq := quoK_le r
  have hg := signL_b c r
  rw [List.length_cons] at hn
  show (bif letB c then _ else bif digB c then _ else _) = _
  unfold oneRs
  rw [oneR_eq]
  cases hlt : letB c with
  | true =>
    refine bt rfl (hW.trans ?_)
    have e1 : [] ++ c :: r = c :: r := rfl
    have e2 : ([] : List UInt8).length + ((c :: r).takeWhile wrdB).length = (r.takeWhile wrdB).length + 1 := by
      have hw : wrdB c = true := by unfold wrdB; rw [hlt]; rfl
      rw [List.takeWhile_cons, hw]
      simp
    rw [e1, e2]
    have e3 : wordL ((c :: r).take ((r.takeWhile wrdB).length + 1)) = decide ((r.takeWhile wrdB).length + 1 ≤ 32) := by
      rw [List.take_succ_cons, take_tw]
      have e4 : wordL (c :: r.takeWhile wrdB) = (letB c && ((r.takeWhile wrdB).all wrdB && decide ((r.takeWhile wrdB).length + 1 ≤ 32))) := rfl
      rw [e4, hlt, tw_all]
      rfl
    unfold wrdRs
    rw [e3]
    rfl
  | false =>
  refine bf rfl ?_
  cases hdg : digB c with
  | true =>
    refine bt rfl (gp (by omega) (gp (by omega) ?_))
    rw [ext0]
    refine gp (by rw [oL_data, List.length_take, List.length_cons]; omega) ?_
    rw [show bL (oL ((c :: r).take (numN false (c :: r)))) = (c :: r).take (numN false (c :: r)) from oL_data _]
    rfl
  | false =>
  refine bf rfl ?_
  cases hqq : (c == 39) with
  | true =>
    refine bt rfl (gp (by omega) (gp (by omega) (gp (by omega) ?_)))
    rw [ext0]
    refine gp (by rw [oL_data, List.length_take, List.length_cons]; omega) ?_
    rw [show bL (oL ((c :: r).take (quoK r))) = (c :: r).take (quoK r) from oL_data _]
    rfl
  | false =>
    refine bf rfl (gp (by omega) (gp (by omega) (gp (by omega) ?_)))
    obtain ⟨n, hn2⟩ : ∃ n : Nat, signL (c :: r) = n := ⟨(signL (c :: r)).toNat, by omega⟩
    rw [hn2, ext0]
    rfl
theorem one_does (s : ByteArray) (hs : s.size ≤ 140737488351232) (h0 : 1 ≤ s.size) : Does cE 62 [] 0 [.v (st s)] (.v (.tuple #[tkS (oneR (bL s)).1 (oL ((bL s).take (oneR (bL s)).2.1)) (oneR (bL s)).2.2.1 0, .bool (oneR (bL s)).2.2.2])) [] 0 := by
  obtain ⟨l, rfl⟩ : ∃ l, s = oL l := ⟨_, oL_of s⟩
  rw [oL_size] at hs h0
  have eb : bL (oL l) = l := oL_data l
  rw [eb]
  cases l with
  | nil => simp at h0
  | cons c r => exact Does.of (onR_does (oL (c :: r)) (r.length + 4) (r := oneRs (c :: r)) (onR_eq c r (by simpa using hs))) rfl
end Go.Proofs.YtpfignfgfhbblaaGreatDoorC
