import Derived.Test.YtpfignfgfhbblaaGreatDoorMu13
import Derived.KernelRfl
import Derived.Shelf.Strings.OnBuilder
import Derived.Ground.NamesProg
import Derived.Test.YtpfignfgfhbblaaGreatDoorProg
import Derived.Test.YtpfignfgfhbblaaGreatDoorRows
import Derived.JoinedOf
import Derived.SevenTiedAt
import Derived.Test.YtpfignfgfhbblaaGreatDoorMu04
import Derived.Lib.LaidTab
import Derived.Lib.LaidU8T
import Derived.ProofKit
import Derived.MakeChecks
import Derived.Stop.LaidErr
import Derived.SizedLaws
import Derived.Handed
import Derived.Shelf.Vars
/- same of tokens, walked. Printed by a program (wip/tools); Lean checks each. -/
namespace Go.Proofs.YtpfignfgfhbblaaGreatDoorC
open Go.Proofs Go.Proofs.YtpfignfgfhbblaaGreatDoorSx Go.Lib
set_option maxRecDepth 100000
set_option maxHeartbeats 4000000
set_option linter.unusedVariables false
inductive saM_S where
  | st
  | l1 (xi0 : Int)
noncomputable def saM_K1 : List It := stackAt [1, 1, 0, 1, 0] (bd Tryz.f22) [] []
def saM_Fin (a b : List Tk) (pl : Bool) (f : Nat) (r : Rs) : saM_S → Prop
  | .st => FinR Tryz.f22 2 r [.code (bd Tryz.f22)] (argsS [.o 0, .o 1, .v (.bool pl)] Tryz.f22.ntmps) [(0, .ro 45 a false), (1, .ro 47 b false)] 2
  | .l1 xi0 => ∀ m0 : Nat, f ≤ m0 → FinR Tryz.f22 2 r (bodyK (saM_K1) m0) ([.o 0, .o 1, .v (.bool (pl)), .na, .na, .na, .na, .v (.int .i64 (xi0))] ++ List.replicate 65 .na) [(0, .ro 45 (a) false), (1, .ro 47 (b) false)] 2
noncomputable def saM_st (a b : List Tk) (pl : Bool) (rec : saM_S → Option Rs) : Option Rs :=
  bif ((a.length : Int) != (b.length : Int)) then some ((.v (.bool (false)) : SV), ([(0, .ro 45 (a) false), (1, .ro 47 (b) false)] : Tab cE), 2)
  else rec (.l1 ((0 : Int)))
noncomputable def saM_l1 (a b : List Tk) (pl : Bool) (rec : saM_S → Option Rs) (xi0 : Int) : Option Rs :=
  bif (decide (xi0 < (a.length : Int))) then grd ((0 : Int) ≤ xi0 ∧ xi0 < (a.length : Int)) (grd (xi0.toNat.succ.le a.length) (grd ((0 : Int) ≤ xi0 ∧ xi0 < (b.length : Int)) (grd (xi0.toNat.succ.le b.length) (bif ((a.getD xi0.toNat ((0 : Int), ByteArray.empty, ((0 : Int), (0 : Int), (0 : Int), ByteArray.empty), (0 : Int))).fst != (b.getD xi0.toNat ((0 : Int), ByteArray.empty, ((0 : Int), (0 : Int), (0 : Int), ByteArray.empty), (0 : Int))).fst) then some ((.v (.bool (false)) : SV), ([(0, .ro 45 (a) false), (1, .ro 47 (b) false)] : Tab cE), 2)
            else bif (!(a.getD xi0.toNat ((0 : Int), ByteArray.empty, ((0 : Int), (0 : Int), (0 : Int), ByteArray.empty), (0 : Int))).snd.fst.toList == (b.getD xi0.toNat ((0 : Int), ByteArray.empty, ((0 : Int), (0 : Int), (0 : Int), ByteArray.empty), (0 : Int))).snd.fst.toList) then some ((.v (.bool (false)) : SV), ([(0, .ro 45 (a) false), (1, .ro 47 (b) false)] : Tab cE), 2)
              else bif (!sm8 (a.getD xi0.toNat ((0 : Int), ByteArray.empty, ((0 : Int), (0 : Int), (0 : Int), ByteArray.empty), (0 : Int))).snd.snd.fst.fst (a.getD xi0.toNat ((0 : Int), ByteArray.empty, ((0 : Int), (0 : Int), (0 : Int), ByteArray.empty), (0 : Int))).snd.snd.fst.snd.fst (a.getD xi0.toNat ((0 : Int), ByteArray.empty, ((0 : Int), (0 : Int), (0 : Int), ByteArray.empty), (0 : Int))).snd.snd.fst.snd.snd.fst (a.getD xi0.toNat ((0 : Int), ByteArray.empty, ((0 : Int), (0 : Int), (0 : Int), ByteArray.empty), (0 : Int))).snd.snd.fst.snd.snd.snd (b.getD xi0.toNat ((0 : Int), ByteArray.empty, ((0 : Int), (0 : Int), (0 : Int), ByteArray.empty), (0 : Int))).snd.snd.fst.fst (b.getD xi0.toNat ((0 : Int), ByteArray.empty, ((0 : Int), (0 : Int), (0 : Int), ByteArray.empty), (0 : Int))).snd.snd.fst.snd.fst (b.getD xi0.toNat ((0 : Int), ByteArray.empty, ((0 : Int), (0 : Int), (0 : Int), ByteArray.empty), (0 : Int))).snd.snd.fst.snd.snd.fst (b.getD xi0.toNat ((0 : Int), ByteArray.empty, ((0 : Int), (0 : Int), (0 : Int), ByteArray.empty), (0 : Int))).snd.snd.fst.snd.snd.snd) then some ((.v (.bool (false)) : SV), ([(0, .ro 45 (a) false), (1, .ro 47 (b) false)] : Tab cE), 2)
                else bif (pl) then bif ((a.getD xi0.toNat ((0 : Int), ByteArray.empty, ((0 : Int), (0 : Int), (0 : Int), ByteArray.empty), (0 : Int))).snd.snd.snd != (b.getD xi0.toNat ((0 : Int), ByteArray.empty, ((0 : Int), (0 : Int), (0 : Int), ByteArray.empty), (0 : Int))).snd.snd.snd) then some ((.v (.bool (false)) : SV), ([(0, .ro 45 (a) false), (1, .ro 47 (b) false)] : Tab cE), 2)
                    else rec (.l1 (IntKind.i64.wrap (xi0 + (1 : Int))))
                  else rec (.l1 (IntKind.i64.wrap (xi0 + (1 : Int))))))))
  else some ((.v (.bool (true)) : SV), ([(0, .ro 45 (a) false), (1, .ro 47 (b) false)] : Tab cE), 2)
noncomputable def saM (a b : List Tk) (pl : Bool) : Nat → saM_S → Option Rs
  | 0, _ => none
  | f + 1, .st => saM_st a b pl (fun q => saM a b pl f q)
  | f + 1, .l1 xi0 => saM_l1 a b pl (fun q => saM a b pl f q) xi0
theorem saM_st_fin (a b : List Tk) (pl : Bool) (rec : saM_S → Option Rs) (f : Nat) (ih : ∀ q r, rec q = some r → saM_Fin a b pl f r q) (r : Rs) (h : saM_st a b pl rec = some r) : saM_Fin a b pl (f + 1) r .st := by
  unfold saM_st at h
  show FinR _ _ _ _ _ _ _
  refine obif h (fun c1 h => ?_) (fun c1 h => ?_)
  · exact osome h (sfin (keep := []) (by decide) [.t] (by kernel_rfl) (cj c1 cj0))
  · exact sat (keep := [0, 1, 2, 7]) (by decide) [.f] (by kernel_rfl) (cj c1 cj0) (fin_loop (f + 1) (fin_round (ih _ _ h f (by omega))))
theorem saM_l1_fin (a b : List Tk) (pl : Bool) (rec : saM_S → Option Rs) (f : Nat) (ih : ∀ q r, rec q = some r → saM_Fin a b pl f r q) (xi0 : Int) (r : Rs) (h : saM_l1 a b pl rec xi0 = some r) : saM_Fin a b pl (f + 1) r (.l1 xi0) := by
  unfold saM_l1 at h
  intro m0 m0h
  obtain ⟨m0, rfl⟩ : ∃ k, m0 = k + 1 := ⟨m0 - 1, by omega⟩
  refine obif h (fun c1 h => ?_) (fun c1 h => ?_)
  · refine ogrd h (fun c2 h => ?_)
    refine ogrd h (fun c3 h => ?_)
    refine ogrd h (fun c4 h => ?_)
    refine ogrd h (fun c5 h => ?_)
    refine obif h (fun c6 h => ?_) (fun c6 h => ?_)
    · exact osome h (sfin (keep := []) (by decide) [.t, .t, .t, .t, .t, .t, .t, .t, .t, .t, .t, .t, .t, .l, .l, .l, .l, .l, .l, .l, .l, .l, .l, .l, .l, .l, .l, .l, .l, .l, .l] (by kernel_rfl) (cj c1 (cj c2 (cj c3 (cj c4 (cj c5 (cj c6 (cj c6 (cj c6 (cj c6 (cj c6 (cj c6 (cj c6 (cj c6 (cj c6 (cj c6 (cj c6 (cj c6 cj0))))))))))))))))))
    · refine obif h (fun c7 h => ?_) (fun c7 h => ?_)
      · exact osome h (sfin (keep := []) (by decide) [.t, .f, .f, .f, .f, .f, .f, .f, .f, .f, .f, .f, .f, .t, .t, .t, .t, .t, .t, .t, .t, .t, .t, .t, .t, .t, .l, .l, .l, .l, .l] (by kernel_rfl) (cj c1 (cj c2 (cj c3 (cj c4 (cj c5 (cj c6 (cj c6 (cj c6 (cj c2 (cj c6 (cj c6 (cj c3 (cj c6 (cj c6 (cj c6 (cj c4 (cj c6 (cj c6 (cj c5 (cj c6 (cj c6 (cj c7 (cj c7 (cj c7 (cj c7 (cj c7 (cj c7 (cj c7 (cj c7 (cj c7 (cj c7 (cj c7 (cj c7 (cj c7 cj0)))))))))))))))))))))))))))))))))))
      · refine obif h (fun c8 h => ?_) (fun c8 h => ?_)
        · exact osome h (sfin (keep := []) (by decide) [.t, .f, .f, .f, .f, .f, .f, .f, .f, .f, .f, .f, .f, .f, .f, .f, .f, .f, .f, .f, .f, .f, .f, .f, .c (.v (.bool (sm8 (a.getD xi0.toNat (0, ByteArray.empty, (0, 0, 0, ByteArray.empty), 0)).snd.snd.fst.fst (a.getD xi0.toNat (0, ByteArray.empty, (0, 0, 0, ByteArray.empty), 0)).snd.snd.fst.snd.fst (a.getD xi0.toNat (0, ByteArray.empty, (0, 0, 0, ByteArray.empty), 0)).snd.snd.fst.snd.snd.fst (a.getD xi0.toNat (0, ByteArray.empty, (0, 0, 0, ByteArray.empty), 0)).snd.snd.fst.snd.snd.snd (b.getD xi0.toNat (0, ByteArray.empty, (0, 0, 0, ByteArray.empty), 0)).snd.snd.fst.fst (b.getD xi0.toNat (0, ByteArray.empty, (0, 0, 0, ByteArray.empty), 0)).snd.snd.fst.snd.fst (b.getD xi0.toNat (0, ByteArray.empty, (0, 0, 0, ByteArray.empty), 0)).snd.snd.fst.snd.snd.fst (b.getD xi0.toNat (0, ByteArray.empty, (0, 0, 0, ByteArray.empty), 0)).snd.snd.fst.snd.snd.snd))) [] 0, .f, .f, .t, .t, .t, .t, .l] (by kernel_rfl) (cj c1 (cj c2 (cj c3 (cj c4 (cj c5 (cj c6 (cj c6 (cj c6 (cj c2 (cj c6 (cj c6 (cj c3 (cj c6 (cj c6 (cj c6 (cj c4 (cj c6 (cj c6 (cj c5 (cj c6 (cj c6 (cj c7 (cj c7 (cj c7 (cj c2 (cj c7 (cj c7 (cj c3 (cj c7 (cj c7 (cj c7 (cj c4 (cj c7 (cj c7 (cj c5 (cj c7 (cj (same8_does ((a.getD xi0.toNat ((0 : Int), ByteArray.empty, ((0 : Int), (0 : Int), (0 : Int), ByteArray.empty), (0 : Int))).snd.snd.fst.fst) ((a.getD xi0.toNat ((0 : Int), ByteArray.empty, ((0 : Int), (0 : Int), (0 : Int), ByteArray.empty), (0 : Int))).snd.snd.fst.snd.fst) ((a.getD xi0.toNat ((0 : Int), ByteArray.empty, ((0 : Int), (0 : Int), (0 : Int), ByteArray.empty), (0 : Int))).snd.snd.fst.snd.snd.fst) ((a.getD xi0.toNat ((0 : Int), ByteArray.empty, ((0 : Int), (0 : Int), (0 : Int), ByteArray.empty), (0 : Int))).snd.snd.fst.snd.snd.snd) ((b.getD xi0.toNat ((0 : Int), ByteArray.empty, ((0 : Int), (0 : Int), (0 : Int), ByteArray.empty), (0 : Int))).snd.snd.fst.fst) ((b.getD xi0.toNat ((0 : Int), ByteArray.empty, ((0 : Int), (0 : Int), (0 : Int), ByteArray.empty), (0 : Int))).snd.snd.fst.snd.fst) ((b.getD xi0.toNat ((0 : Int), ByteArray.empty, ((0 : Int), (0 : Int), (0 : Int), ByteArray.empty), (0 : Int))).snd.snd.fst.snd.snd.fst) ((b.getD xi0.toNat ((0 : Int), ByteArray.empty, ((0 : Int), (0 : Int), (0 : Int), ByteArray.empty), (0 : Int))).snd.snd.fst.snd.snd.snd)) (cj c7 (cj c7 (cj c8 (cj c8 (cj c8 (cj c8 cj0))))))))))))))))))))))))))))))))))))))))))))
        · refine obif h (fun c9 h => ?_) (fun c9 h => ?_)
          · refine obif h (fun c10 h => ?_) (fun c10 h => ?_)
            · exact osome h (sfin (keep := []) (by decide) [.t, .f, .f, .f, .f, .f, .f, .f, .f, .f, .f, .f, .f, .f, .f, .f, .f, .f, .f, .f, .f, .f, .f, .f, .c (.v (.bool (sm8 (a.getD xi0.toNat (0, ByteArray.empty, (0, 0, 0, ByteArray.empty), 0)).snd.snd.fst.fst (a.getD xi0.toNat (0, ByteArray.empty, (0, 0, 0, ByteArray.empty), 0)).snd.snd.fst.snd.fst (a.getD xi0.toNat (0, ByteArray.empty, (0, 0, 0, ByteArray.empty), 0)).snd.snd.fst.snd.snd.fst (a.getD xi0.toNat (0, ByteArray.empty, (0, 0, 0, ByteArray.empty), 0)).snd.snd.fst.snd.snd.snd (b.getD xi0.toNat (0, ByteArray.empty, (0, 0, 0, ByteArray.empty), 0)).snd.snd.fst.fst (b.getD xi0.toNat (0, ByteArray.empty, (0, 0, 0, ByteArray.empty), 0)).snd.snd.fst.snd.fst (b.getD xi0.toNat (0, ByteArray.empty, (0, 0, 0, ByteArray.empty), 0)).snd.snd.fst.snd.snd.fst (b.getD xi0.toNat (0, ByteArray.empty, (0, 0, 0, ByteArray.empty), 0)).snd.snd.fst.snd.snd.snd))) [] 0, .f, .f, .f, .f, .t, .t, .t, .t, .t, .t, .t, .t, .t, .t, .t, .f, .t, .f, .t] (by kernel_rfl) (cj c1 (cj c2 (cj c3 (cj c4 (cj c5 (cj c6 (cj c6 (cj c6 (cj c2 (cj c6 (cj c6 (cj c3 (cj c6 (cj c6 (cj c6 (cj c4 (cj c6 (cj c6 (cj c5 (cj c6 (cj c6 (cj c7 (cj c7 (cj c7 (cj c2 (cj c7 (cj c7 (cj c3 (cj c7 (cj c7 (cj c7 (cj c4 (cj c7 (cj c7 (cj c5 (cj c7 (cj (same8_does ((a.getD xi0.toNat ((0 : Int), ByteArray.empty, ((0 : Int), (0 : Int), (0 : Int), ByteArray.empty), (0 : Int))).snd.snd.fst.fst) ((a.getD xi0.toNat ((0 : Int), ByteArray.empty, ((0 : Int), (0 : Int), (0 : Int), ByteArray.empty), (0 : Int))).snd.snd.fst.snd.fst) ((a.getD xi0.toNat ((0 : Int), ByteArray.empty, ((0 : Int), (0 : Int), (0 : Int), ByteArray.empty), (0 : Int))).snd.snd.fst.snd.snd.fst) ((a.getD xi0.toNat ((0 : Int), ByteArray.empty, ((0 : Int), (0 : Int), (0 : Int), ByteArray.empty), (0 : Int))).snd.snd.fst.snd.snd.snd) ((b.getD xi0.toNat ((0 : Int), ByteArray.empty, ((0 : Int), (0 : Int), (0 : Int), ByteArray.empty), (0 : Int))).snd.snd.fst.fst) ((b.getD xi0.toNat ((0 : Int), ByteArray.empty, ((0 : Int), (0 : Int), (0 : Int), ByteArray.empty), (0 : Int))).snd.snd.fst.snd.fst) ((b.getD xi0.toNat ((0 : Int), ByteArray.empty, ((0 : Int), (0 : Int), (0 : Int), ByteArray.empty), (0 : Int))).snd.snd.fst.snd.snd.fst) ((b.getD xi0.toNat ((0 : Int), ByteArray.empty, ((0 : Int), (0 : Int), (0 : Int), ByteArray.empty), (0 : Int))).snd.snd.fst.snd.snd.snd)) (cj c7 (cj c7 (cj c8 (cj c8 (cj c9 (cj c9 (cj c9 (cj c2 (cj c9 (cj c9 (cj c3 (cj c9 (cj c9 (cj c9 (cj c4 (cj c9 (cj c9 (cj c5 (cj c9 (cj c8 (cj c9 (cj c8 (cj c10 cj0)))))))))))))))))))))))))))))))))))))))))))))))))))))))))))))
            · exact sat (keep := [0, 1, 2, 7]) (by decide) [.t, .f, .f, .f, .f, .f, .f, .f, .f, .f, .f, .f, .f, .f, .f, .f, .f, .f, .f, .f, .f, .f, .f, .f, .c (.v (.bool (sm8 (a.getD xi0.toNat (0, ByteArray.empty, (0, 0, 0, ByteArray.empty), 0)).snd.snd.fst.fst (a.getD xi0.toNat (0, ByteArray.empty, (0, 0, 0, ByteArray.empty), 0)).snd.snd.fst.snd.fst (a.getD xi0.toNat (0, ByteArray.empty, (0, 0, 0, ByteArray.empty), 0)).snd.snd.fst.snd.snd.fst (a.getD xi0.toNat (0, ByteArray.empty, (0, 0, 0, ByteArray.empty), 0)).snd.snd.fst.snd.snd.snd (b.getD xi0.toNat (0, ByteArray.empty, (0, 0, 0, ByteArray.empty), 0)).snd.snd.fst.fst (b.getD xi0.toNat (0, ByteArray.empty, (0, 0, 0, ByteArray.empty), 0)).snd.snd.fst.snd.fst (b.getD xi0.toNat (0, ByteArray.empty, (0, 0, 0, ByteArray.empty), 0)).snd.snd.fst.snd.snd.fst (b.getD xi0.toNat (0, ByteArray.empty, (0, 0, 0, ByteArray.empty), 0)).snd.snd.fst.snd.snd.snd))) [] 0, .f, .f, .f, .f, .t, .t, .t, .t, .t, .t, .t, .t, .t, .t, .t, .f, .t, .f, .f] (by kernel_rfl) (cj c1 (cj c2 (cj c3 (cj c4 (cj c5 (cj c6 (cj c6 (cj c6 (cj c2 (cj c6 (cj c6 (cj c3 (cj c6 (cj c6 (cj c6 (cj c4 (cj c6 (cj c6 (cj c5 (cj c6 (cj c6 (cj c7 (cj c7 (cj c7 (cj c2 (cj c7 (cj c7 (cj c3 (cj c7 (cj c7 (cj c7 (cj c4 (cj c7 (cj c7 (cj c5 (cj c7 (cj (same8_does ((a.getD xi0.toNat ((0 : Int), ByteArray.empty, ((0 : Int), (0 : Int), (0 : Int), ByteArray.empty), (0 : Int))).snd.snd.fst.fst) ((a.getD xi0.toNat ((0 : Int), ByteArray.empty, ((0 : Int), (0 : Int), (0 : Int), ByteArray.empty), (0 : Int))).snd.snd.fst.snd.fst) ((a.getD xi0.toNat ((0 : Int), ByteArray.empty, ((0 : Int), (0 : Int), (0 : Int), ByteArray.empty), (0 : Int))).snd.snd.fst.snd.snd.fst) ((a.getD xi0.toNat ((0 : Int), ByteArray.empty, ((0 : Int), (0 : Int), (0 : Int), ByteArray.empty), (0 : Int))).snd.snd.fst.snd.snd.snd) ((b.getD xi0.toNat ((0 : Int), ByteArray.empty, ((0 : Int), (0 : Int), (0 : Int), ByteArray.empty), (0 : Int))).snd.snd.fst.fst) ((b.getD xi0.toNat ((0 : Int), ByteArray.empty, ((0 : Int), (0 : Int), (0 : Int), ByteArray.empty), (0 : Int))).snd.snd.fst.snd.fst) ((b.getD xi0.toNat ((0 : Int), ByteArray.empty, ((0 : Int), (0 : Int), (0 : Int), ByteArray.empty), (0 : Int))).snd.snd.fst.snd.snd.fst) ((b.getD xi0.toNat ((0 : Int), ByteArray.empty, ((0 : Int), (0 : Int), (0 : Int), ByteArray.empty), (0 : Int))).snd.snd.fst.snd.snd.snd)) (cj c7 (cj c7 (cj c8 (cj c8 (cj c9 (cj c9 (cj c9 (cj c2 (cj c9 (cj c9 (cj c3 (cj c9 (cj c9 (cj c9 (cj c4 (cj c9 (cj c9 (cj c5 (cj c9 (cj c8 (cj c9 (cj c8 (cj c10 cj0)))))))))))))))))))))))))))))))))))))))))))))))))))))))))))) (fin_round (ih _ _ h (m0) (by omega)))
          · exact sat (keep := [0, 1, 2, 7]) (by decide) [.t, .f, .f, .f, .f, .f, .f, .f, .f, .f, .f, .f, .f, .f, .f, .f, .f, .f, .f, .f, .f, .f, .f, .f, .c (.v (.bool (sm8 (a.getD xi0.toNat (0, ByteArray.empty, (0, 0, 0, ByteArray.empty), 0)).snd.snd.fst.fst (a.getD xi0.toNat (0, ByteArray.empty, (0, 0, 0, ByteArray.empty), 0)).snd.snd.fst.snd.fst (a.getD xi0.toNat (0, ByteArray.empty, (0, 0, 0, ByteArray.empty), 0)).snd.snd.fst.snd.snd.fst (a.getD xi0.toNat (0, ByteArray.empty, (0, 0, 0, ByteArray.empty), 0)).snd.snd.fst.snd.snd.snd (b.getD xi0.toNat (0, ByteArray.empty, (0, 0, 0, ByteArray.empty), 0)).snd.snd.fst.fst (b.getD xi0.toNat (0, ByteArray.empty, (0, 0, 0, ByteArray.empty), 0)).snd.snd.fst.snd.fst (b.getD xi0.toNat (0, ByteArray.empty, (0, 0, 0, ByteArray.empty), 0)).snd.snd.fst.snd.snd.fst (b.getD xi0.toNat (0, ByteArray.empty, (0, 0, 0, ByteArray.empty), 0)).snd.snd.fst.snd.snd.snd))) [] 0, .f, .f, .f, .f, .f, .f, .f, .f, .f, .f, .f, .f, .f, .f, .f, .f, .f, .f, .l] (by kernel_rfl) (cj c1 (cj c2 (cj c3 (cj c4 (cj c5 (cj c6 (cj c6 (cj c6 (cj c2 (cj c6 (cj c6 (cj c3 (cj c6 (cj c6 (cj c6 (cj c4 (cj c6 (cj c6 (cj c5 (cj c6 (cj c6 (cj c7 (cj c7 (cj c7 (cj c2 (cj c7 (cj c7 (cj c3 (cj c7 (cj c7 (cj c7 (cj c4 (cj c7 (cj c7 (cj c5 (cj c7 (cj (same8_does ((a.getD xi0.toNat ((0 : Int), ByteArray.empty, ((0 : Int), (0 : Int), (0 : Int), ByteArray.empty), (0 : Int))).snd.snd.fst.fst) ((a.getD xi0.toNat ((0 : Int), ByteArray.empty, ((0 : Int), (0 : Int), (0 : Int), ByteArray.empty), (0 : Int))).snd.snd.fst.snd.fst) ((a.getD xi0.toNat ((0 : Int), ByteArray.empty, ((0 : Int), (0 : Int), (0 : Int), ByteArray.empty), (0 : Int))).snd.snd.fst.snd.snd.fst) ((a.getD xi0.toNat ((0 : Int), ByteArray.empty, ((0 : Int), (0 : Int), (0 : Int), ByteArray.empty), (0 : Int))).snd.snd.fst.snd.snd.snd) ((b.getD xi0.toNat ((0 : Int), ByteArray.empty, ((0 : Int), (0 : Int), (0 : Int), ByteArray.empty), (0 : Int))).snd.snd.fst.fst) ((b.getD xi0.toNat ((0 : Int), ByteArray.empty, ((0 : Int), (0 : Int), (0 : Int), ByteArray.empty), (0 : Int))).snd.snd.fst.snd.fst) ((b.getD xi0.toNat ((0 : Int), ByteArray.empty, ((0 : Int), (0 : Int), (0 : Int), ByteArray.empty), (0 : Int))).snd.snd.fst.snd.snd.fst) ((b.getD xi0.toNat ((0 : Int), ByteArray.empty, ((0 : Int), (0 : Int), (0 : Int), ByteArray.empty), (0 : Int))).snd.snd.fst.snd.snd.snd)) (cj c7 (cj c7 (cj c8 (cj c8 (cj c9 (cj c9 (cj c9 (cj c9 (cj c9 (cj c9 (cj c9 (cj c9 (cj c9 (cj c9 (cj c9 (cj c8 (cj c9 (cj c8 cj0))))))))))))))))))))))))))))))))))))))))))))))))))))))) (fin_round (ih _ _ h (m0) (by omega)))
  · exact osome h (sfin (keep := []) (by decide) [.f] (by kernel_rfl) (cj c1 cj0))
theorem saM_ok (a b : List Tk) (pl : Bool) : ∀ f q r, saM a b pl f q = some r → saM_Fin a b pl f r q := by
  intro f
  induction f with
  | zero => intro q r h; cases h
  | succ f ih =>
    intro q r h
    cases q with
    | st => exact saM_st_fin a b pl _ f ih r h
    | l1 xi0 => exact saM_l1_fin a b pl _ f ih xi0 r h
theorem saM_does (a b : List Tk) (pl : Bool) (k : Nat) {r : Rs} (h : saM a b pl k .st = some r) : Does cE 22 [(0, .ro 45 a false), (1, .ro 47 b false)] 2 [.o 0, .o 1, .v (.bool pl)] r.1 r.2.1 r.2.2 :=
  does_of_fin (fn := Tryz.f22) (c := bd Tryz.f22) rfl (by kernel_rfl) rfl (saM_ok a b pl k .st r h)
end Go.Proofs.YtpfignfgfhbblaaGreatDoorC
/- Right of tokens, both; same tokens. -/
namespace Go.Proofs.YtpfignfgfhbblaaGreatDoorC
open Go.Proofs Go.Proofs.YtpfignfgfhbblaaGreatDoorSx Go.Lib
set_option maxRecDepth 100000
set_option linter.unusedVariables false
/-- A token lies within its text. -/
theorem split_in : ∀ (f a : Nat) (l : List UInt8) (ts : List Tk), splitL f a l = some ts → ∀ t ∈ ts, (a : Int) ≤ t.2.2.2 ∧ t.2.2.2 + (t.2.1.size : Int) ≤ (a : Int) + (l.length : Int)
  | f, a, [], ts, h, t, ht => by
    have e : splitL f a [] = some [] := by cases f <;> rfl
    rw [e] at h
    cases h
    cases ht
  | 0, a, c :: r, ts, h, t, ht => by cases h
  | f + 1, a, c :: r, ts, h, t, ht => by
    cases hb : blankB c with
    | true =>
      rw [split_blank hb] at h
      have := split_in f (a + 1) r ts h t ht
      rw [List.length_cons]
      omega
    | false =>
      cases hk : (oneR (c :: r)).2.2.2 with
      | false => rw [split_no hb hk] at h; cases h
      | true =>
        have hon := one_n hk
        rw [split_tok hb hk] at h
        cases hs : splitL f (a + (oneR (c :: r)).2.1) ((c :: r).drop (oneR (c :: r)).2.1) with
        | none => rw [hs] at h; cases h
        | some us =>
          rw [hs] at h
          simp only [Option.map_some, Option.some.injEq] at h
          subst h
          rcases List.mem_cons.1 ht with e | e
          · subst e
            refine ⟨Int.le_refl _, ?_⟩
            show (a : Int) + ((oL ((c :: r).take (oneR (c :: r)).2.1)).size : Int) ≤ _
            rw [oL_size, List.length_take]
            omega
          · have := split_in f _ _ us hs t e
            rw [List.length_drop] at this
            rw [List.length_cons] at *
            omega
theorem spOut_one {l : List UInt8} {x : Tk} {e : Int} (h : spOut l = ([x], e)) : 0 ≤ x.2.2.2 ∧ x.2.2.2 + (x.2.1.size : Int) ≤ (l.length : Int) := by
  unfold spOut at h
  by_cases hl : l.length > 4096
  · rw [decide_eq_true hl] at h
    cases h
  · rw [decide_eq_false hl] at h
    cases hs : splitL l.length 0 l with
    | none => rw [hs] at h; cases h
    | some ts =>
      rw [hs] at h
      have e1 : ts = [x] := congrArg Prod.fst h
      subst e1
      have := split_in _ _ _ _ hs x List.mem_cons_self
      omega
theorem riP_eq (k : Int) (t : ByteArray) (a b c : Int) (s : ByteArray) (p : Int) (ht : t.size ≤ 140737488351232) : riP k t a b c s p = some (.v (.bool (rightT k t (a, b, c, s))), [], 0) := by
  unfold riP rightT
  refine gp ht ?_
  cases he : ((spOut (bL t)).2 == 0) with
  | false => exact bf rfl rfl
  | true =>
    refine bt rfl ?_
    cases hl : (spOut (bL t)).1 with
    | nil => exact bf rfl rfl
    | cons x r =>
      cases r with
      | cons y r =>
        refine bf ?_ rfl
        exact beq_eq_false_iff_ne.2 (by simp only [List.length_cons]; omega)
      | nil =>
        have h1 := spOut_one (l := bL t) (x := x) (e := (spOut (bL t)).2) (by rw [← hl])
        refine bt rfl (gp ⟨by decide, Int.zero_lt_one⟩ (gp (Nat.le_refl 1) ?_))
        show some (SV.v (.bool (x.1 == k && (x.2.1 == t && ((x.2.2.1.1 == a && (x.2.2.1.2.1 == b && (x.2.2.1.2.2.1 == c && (x.2.2.1.2.2.2 == s && true)))) && (x.2.2.2 == 0 && true))))), _, _) = some (SV.v (.bool (true && (x.1 == k && (x.2.1 == t && (x.2.2.1.1 == a && (x.2.2.1.2.1 == b && (x.2.2.1.2.2.1 == c && x.2.2.1.2.2.2 == s))))))), _, _)
        have hp : (x.2.1 == t) = true → (x.2.2.2 == 0) = true := by
          intro h
          rw [bytes_beq] at h
          have e := congrArg List.length (eq_of_beq h)
          rw [ByteArray.toList_eq, ByteArray.toList_eq] at e
          have hz : (bL t).length = t.size := rfl
          have hy : x.2.1.size = t.size := e
          rw [hz, hy] at h1
          exact beq_iff_eq.2 (by omega)
        cases h2 : (x.2.1 == t) with
        | false => cases (x.1 == k) <;> rfl
        | true =>
          rw [hp h2]
          cases (x.1 == k) <;> cases (x.2.2.1.1 == a) <;> cases (x.2.2.1.2.1 == b) <;> cases (x.2.2.1.2.2.1 == c) <;> cases (x.2.2.1.2.2.2 == s) <;> rfl
theorem right5_does (k : Int) (t : ByteArray) (a b c : Int) (s : ByteArray) (p : Int) (ht : t.size ≤ 140737488351232) : Does cE 26 [] 0 [.v (tkS k t (a, b, c, s) p)] (.v (.bool (rightT k t (a, b, c, s)))) [] 0 :=
  Does.of (riP_does k t a b c s p (r := (_, _, _)) (riP_eq k t a b c s p ht)) rfl
theorem getD_t (p r : List Tk) (x : Tk) : (p ++ x :: r).getD (p.length : Int).toNat (0, ByteArray.empty, (0, 0, 0, ByteArray.empty), 0) = x := by
  have e : (p.length : Int).toNat = p.length := by omega
  rw [e, List.getD_eq_getElem?_getD, List.getElem?_append_right (Nat.le_refl _)]
  simp
/-- The same tokens are the same. -/
theorem saM_loop (pl : Bool) : ∀ (r p : List Tk) (f : Nat), r.length + 1 ≤ f → p.length + r.length ≤ 140737488355328 →
    saM (p ++ r) (p ++ r) pl f (.l1 (p.length : Int)) = some (.v (.bool true), [(0, .ro 45 (p ++ r) false), (1, .ro 47 (p ++ r) false)], 2)
  | [], p, f, hf, hs => by
    obtain ⟨f, rfl⟩ : ∃ k, f = k + 1 := ⟨f - 1, by omega⟩
    show saM_l1 _ _ _ _ _ = _
    unfold saM_l1
    exact bf (decide_eq_false (by simp)) rfl
  | x :: r, p, f, hf, hs => by
    simp only [List.length_cons] at hf hs
    obtain ⟨f, rfl⟩ : ∃ k, f = k + 1 := ⟨f - 1, by omega⟩
    show saM_l1 _ _ _ _ _ = _
    unfold saM_l1
    have hz : ((p ++ x :: r).length : Int) = p.length + r.length + 1 := by simp; omega
    have h := saM_loop pl r (p ++ [x]) f (by omega) (by simp; omega)
    have e1 : p ++ [x] ++ r = p ++ x :: r := by simp
    have e2 : (p ++ [x]).length = p.length + 1 := by simp
    rw [e1, e2] at h
    refine bt (decide_eq_true (by omega)) (gp (by omega) (gp (by show _ + 1 ≤ _; omega) (gp (by omega) (gp (by show _ + 1 ≤ _; omega) ?_))))
    rw [getD_t, w1 (by omega)]
    have hsm : sm8 x.2.2.1.1 x.2.2.1.2.1 x.2.2.1.2.2.1 x.2.2.1.2.2.2 x.2.2.1.1 x.2.2.1.2.1 x.2.2.1.2.2.1 x.2.2.1.2.2.2 = true := by
      unfold sm8
      simp
    refine bf (by simp) (bf (by simp) (bf (by rw [hsm]; rfl) ?_))
    cases pl with
    | true => exact bt rfl (bf (by simp) h)
    | false => exact bf rfl h
theorem same5_does (a : List Tk) (pl : Bool) (ha : a.length ≤ 140737488351232) : Does cE 22 [(0, .ro 45 a false), (1, .ro 47 a false)] 2 [.o 0, .o 1, .v (.bool pl)] (.v (.bool true)) [] 2 := by
  refine Does.nil (T' := [(0, .ro 45 a false), (1, .ro 47 a false)]) (Does.of (saM_does a a pl (a.length + 3) (r := (_, _, _)) ?_) rfl) rfl
  have h := saM_loop pl a [] (a.length + 2) (by omega) (by simp; omega)
  show saM_st _ _ _ _ = _
  unfold saM_st
  exact bf (by simp) h
end Go.Proofs.YtpfignfgfhbblaaGreatDoorC
/-
  DERIVED: THE SHELF's CONTRACTS AT THIS DUMP, IN PLAIN WORDS (tools/lay-plain.mjs out of 'YtpfignfgfhbblaaGreatDoorXL3x.lean', which tools/lay-shelf.mjs wrote): THE SAME DECLARATIONS UNDER THE SAME NAMES: 'import', 'namespace', 'open', 'def', 'theorem' AND NOTHING ELSE: no command of the shelf's: FOR A HAND-IN. Each laying: the table of numbers ('.._ren') and one theorem, a field a fact of the dump's own or the kernel's comparison; each contract: ONE APPLICATION.
-/
namespace Go.Proofs
open Go.Shelf
def Tryz.laysJoin_ren : Go.Shelf.Ren := ⟨fun | 156 => 63 | 165 => 121 | 166 => 122 | 169 => 123 | 240 => 166 | 241 => 167 | 276 => 196 | 277 => 197 | n => n, fun | 31 => 104 | 9 => 9 | 3 => 3 | 4 => 4 | 0 => 0 | 20 => 20 | 72 => 159 | 76 => 163 | 70 => 157 | 37 => 56 | 75 => 162 | 127 => 206 | 164 => 226 | 5 => 5 | 80 => 115 | n => n, fun | n => n⟩
theorem Tryz.laysJoin : Go.Proofs.Lays.n156 Tryz.prog Tryz.laysJoin_ren := {
  mixed := by kernel_rfl
  f156 := Tryz.func63.trans (congrArg some (by kernel_rfl))
  f165 := Tryz.func121.trans (congrArg some (by kernel_rfl))
  f166 := Tryz.func122.trans (congrArg some (by kernel_rfl))
  f169 := Tryz.func123.trans (congrArg some (by kernel_rfl))
  f240 := Tryz.func166.trans (congrArg some (by kernel_rfl))
  f241 := Tryz.func167.trans (congrArg some (by kernel_rfl))
  f276 := Tryz.func196.trans (congrArg some (by kernel_rfl))
  f277 := Tryz.func197.trans (congrArg some (by kernel_rfl))
  t0 := Tryz.underlying0
  a0 := Tryz.isAgg0
  z0 := Tryz.sizeOf0
  v0 := Tryz.zeroValue0
  t3 := Tryz.underlying3
  a3 := Tryz.isAgg3
  z3 := Tryz.sizeOf3
  v3 := Tryz.zeroValue3
  t4 := Tryz.underlying4
  a4 := Tryz.isAgg4
  z4 := Tryz.sizeOf4
  v4 := Tryz.zeroValue4
  t9 := Tryz.underlying9
  a9 := Tryz.isAgg9
  z9 := Tryz.sizeOf9
  v9 := Tryz.zeroValue9
  t20 := Tryz.underlying20
  a20 := Tryz.isAgg20
  z20 := Tryz.sizeOf20
  v20 := Tryz.zeroValue20
  t31 := Tryz.underlying104
  a31 := Tryz.isAgg104
  z31 := Tryz.sizeOf104
  v31 := Tryz.zeroValue104
  t37 := Tryz.underlying56
  a37 := Tryz.isAgg56
  z37 := Tryz.sizeOf56
  v37 := Tryz.zeroValue56
  t70 := Tryz.underlying157
  a70 := Tryz.isAgg157
  z70 := Tryz.sizeOf157
  v70 := Tryz.zeroValue157
  t72 := Tryz.underlying159
  a72 := Tryz.isAgg159
  z72 := Tryz.sizeOf159
  v72 := Tryz.zeroValue159
  t75 := Tryz.underlying162
  a75 := Tryz.isAgg162
  z75 := Tryz.sizeOf162
  v75 := Tryz.zeroValue162
  t76 := Tryz.underlying163
  a76 := Tryz.isAgg163
  z76 := Tryz.sizeOf163
  v76 := Tryz.zeroValue163
  t127 := Tryz.underlying206
  a127 := Tryz.isAgg206
  z127 := Tryz.sizeOf206
  v127 := Tryz.zeroValue206
  t164 := Tryz.underlying226
  a164 := Tryz.isAgg226
  z164 := Tryz.sizeOf226
  v164 := Tryz.zeroValue226 }
end Go.Proofs
/- strings.Join of a row of texts, told. -/
namespace Go.Proofs
open Go.Shelf Go.RowKit
theorem Tryz.extraJ : Builder.Extra Tryz.prog Tryz.laysJoin_ren where
  sizeBuilder := by kernel_rfl
  liesBuilder := by kernel_rfl
  t5 := Tryz.underlying5
  a5 := Tryz.isAgg5
  z5 := Tryz.sizeOf5
  v5 := Tryz.zeroValue5
  infoByte := by kernel_rfl
  cellsByte := by kernel_rfl
  sizeByte := by kernel_rfl
  neB5 := by decide
end Go.Proofs
namespace Go.Proofs.YtpfignfgfhbblaaGreatDoorC
open Go.Proofs Go.Proofs.YtpfignfgfhbblaaGreatDoorSx Go.RowKit Go.Lib Go.Shelf
set_option maxRecDepth 100000
set_option linter.unusedVariables false
abbrev joinL (l : List ByteArray) (sep : ByteArray) : List UInt8 := Lib.join (l.map bL) (bL sep)
theorem sjoin_does (l : List ByteArray) (sep : ByteArray) (hl : l.length ≤ 140737488355328) (hj : (joinL l sep).length ≤ 140737488355328) : Does cE 63 [(0, .ro 9 l false)] 1 [.o 0, .v (st sep)] (.v (st (oL (joinL l sep)))) [] 1 := by
  intro S w μ vs hm hs
  obtain ⟨u, r, rfl, hr, hr2⟩ := hs.consr
  obtain ⟨u2, r2, rfl, hr3, hr4⟩ := hr2.consr
  have e4 := hr4.nilr
  subst e4
  have e2 := rel_v.1 hr3
  subst e2
  unfold rel at hr
  have eu := hr.2.1
  have hrr := row_reads hm (k := 0) (x := .ro 9 l false) rfl (e := 9) (l := l) rfl
  have fin : ∀ (e : Ending) (w' : World), (e = .returned (.string (oL (joinL l sep))) ∧ Below w.heap.size w w') → ∃ u μ', e = .returned u ∧ (∀ k, k < 1 → μ' k = μ k) ∧ rel (fun k => k < 1) μ' (.v (st (oL (joinL l sep)))) u ∧ Mem S w (fun k => k < 1) μ' ([] : Tab cE) w' := by
    intro e w' hh
    exact ⟨_, μ, hh.1, fun _ _ => rfl, rel_v.2 rfl, ⟨fun k x h => (by cases (show (none : Option (SObj cE)) = some x from h)), fun k k' x x' g h => (by cases (show (none : Option (SObj cE)) = some x from h)), ⟨hh.2.os, hh.2.tape, hh.2.output, hh.2.size, fun k hk => hh.2.block k (hm.dom.1 k hk)⟩, hm.dom⟩⟩
  refine .inr ⟨enters (E := cE) (g := 63) (fn := Tryz.f63) rfl (by kernel_rfl) rfl _ _, ?_⟩
  have none : ∀ a c, l.length = 0 → μ 0 = .slice a 0 c → Calls cE.P 63 #[u, .string sep] w fun e w' => ∃ u μ', e = .returned u ∧ (∀ k, k < 1 → μ' k = μ k) ∧ rel (fun k => k < 1) μ' (.v (st (oL (joinL l sep)))) u ∧ Mem S w (fun k => k < 1) μ' ([] : Tab cE) w' := by
    intro a c h0 h1
    have el : l = [] := List.eq_nil_of_length_eq_zero h0
    rw [eu, h1]
    refine (Any.strings_Join_none Tryz.laysJoin Tryz.extraJ a c sep w).mono fun e w' hh => fin e w' ⟨?_, hh.2 ▸ Below.refl _ _⟩
    rw [el]
    exact hh.1
  rcases hrr with ⟨h1, h2⟩ | ⟨h2, a, c, h1⟩ | ⟨g, o, cap, h1, h2, h3, h4⟩
  · exact none _ _ h2 h1
  · exact none _ _ h2 h1
  · rw [eu, h1]
    refine (Any.strings_Join Tryz.laysJoin Tryz.extraJ g o cap l sep w (fun j x hx => ?_) h3 hl h2 hj).mono fun e w' hh => fin e w' hh
    refine h4 j _ ?_
    have h5 : (cellsF strF l)[j * 1 + 0]? = some (Value.string x) := cellsF_get strF l j 0 x hx (by decide)
    rw [Nat.mul_one, Nat.add_zero] at h5
    exact h5
end Go.Proofs.YtpfignfgfhbblaaGreatDoorC
/- lexer.Join, walked. Printed by a program (wip/tools); Lean checks each. -/
namespace Go.Proofs.YtpfignfgfhbblaaGreatDoorC
open Go.Proofs Go.Proofs.YtpfignfgfhbblaaGreatDoorSx Go.Lib
set_option maxRecDepth 100000
set_option maxHeartbeats 4000000
set_option linter.unusedVariables false
inductive jnP_S where
  | st
  | l1 (xi1 : Int) (xl2 : List ByteArray)
noncomputable def jnP_K1 : List It := stackAt [1, 1, 0, 1, 0] (bd Tryz.f28) [] []
def jnP_Fin (a : List Tk) (f : Nat) (r : Rs) : jnP_S → Prop
  | .st => FinR Tryz.f28 1 r [.code (bd Tryz.f28)] (argsS [.o 0] Tryz.f28.ntmps) [(0, .ro 45 a false)] 1
  | .l1 xi1 xl2 => ∀ m0 : Nat, f ≤ m0 → FinR Tryz.f28 1 r (bodyK (jnP_K1) m0) ([.na, .na, .na, .o 1, .na, .na, .o 0, .v (.int .i64 ((a.length : Int))), .v (.int .i64 (xi1))] ++ List.replicate 14 .na) [(0, .ro 45 (a) false), (1, .own 9 (xl2))] 2
noncomputable def jnP_st (a : List Tk) (rec : jnP_S → Option Rs) : Option Rs :=
  rec (.l1 ((0 : Int)) ([]))
noncomputable def jnP_l1 (a : List Tk) (rec : jnP_S → Option Rs) (xi1 : Int) (xl2 : List ByteArray) : Option Rs :=
  bif (decide (xi1 < (a.length : Int))) then grd ((0 : Int) ≤ xi1 ∧ xi1 < (a.length : Int)) (grd (xi1.toNat.succ.le a.length) (grd (((a.getD xi1.toNat (0, ByteArray.empty, (0, 0, 0, ByteArray.empty), 0)).snd.fst).size ≤ 140737488351232) (bif (!rightT (a.getD xi1.toNat ((0 : Int), ByteArray.empty, ((0 : Int), (0 : Int), (0 : Int), ByteArray.empty), (0 : Int))).fst (a.getD xi1.toNat ((0 : Int), ByteArray.empty, ((0 : Int), (0 : Int), (0 : Int), ByteArray.empty), (0 : Int))).snd.fst ((a.getD xi1.toNat ((0 : Int), ByteArray.empty, ((0 : Int), (0 : Int), (0 : Int), ByteArray.empty), (0 : Int))).snd.snd.fst.fst, (a.getD xi1.toNat ((0 : Int), ByteArray.empty, ((0 : Int), (0 : Int), (0 : Int), ByteArray.empty), (0 : Int))).snd.snd.fst.snd.fst, (a.getD xi1.toNat ((0 : Int), ByteArray.empty, ((0 : Int), (0 : Int), (0 : Int), ByteArray.empty), (0 : Int))).snd.snd.fst.snd.snd.fst, (a.getD xi1.toNat ((0 : Int), ByteArray.empty, ((0 : Int), (0 : Int), (0 : Int), ByteArray.empty), (0 : Int))).snd.snd.fst.snd.snd.snd)) then some ((.v (.string ((ByteArray.mk #[]))) : SV), ([(0, .ro 45 (a) false)] : Tab cE), 1)
          else grd (Room (xl2.length + [(a.getD xi1.toNat ((0 : Int), ByteArray.empty, ((0 : Int), (0 : Int), (0 : Int), ByteArray.empty), (0 : Int))).snd.fst].length) (16 : Nat)) (rec (.l1 (IntKind.i64.wrap (xi1 + (1 : Int))) (xl2 ++ [(a.getD xi1.toNat ((0 : Int), ByteArray.empty, ((0 : Int), (0 : Int), (0 : Int), ByteArray.empty), (0 : Int))).snd.fst]))))))
  else grd ((xl2).length ≤ 140737488355328) (grd ((joinL (xl2) ((ByteArray.mk #[32]))).length ≤ 140737488355328) (some ((.v (.string (oL (joinL xl2 (ByteArray.mk #[(32 : UInt8)])))) : SV), ([(0, .ro 45 (a) false)] : Tab cE), 1)))
noncomputable def jnP (a : List Tk) : Nat → jnP_S → Option Rs
  | 0, _ => none
  | f + 1, .st => jnP_st a (fun q => jnP a f q)
  | f + 1, .l1 xi1 xl2 => jnP_l1 a (fun q => jnP a f q) xi1 xl2
theorem jnP_st_fin (a : List Tk) (rec : jnP_S → Option Rs) (f : Nat) (ih : ∀ q r, rec q = some r → jnP_Fin a f r q) (r : Rs) (h : jnP_st a rec = some r) : jnP_Fin a (f + 1) r .st := by
  unfold jnP_st at h
  show FinR _ _ _ _ _ _ _
  exact sat (keep := [3, 6, 7, 8]) (by decide) [] (by kernel_rfl) cj0 (fin_nil (K0 := 1) (n := 1) (s := ([.na, .na, .na, .v (.slice (none) ((0 : Nat)) ((0 : Nat))), .na, .na, .o 0, .v (.int .i64 ((a.length : Int))), .v (.int .i64 ((0 : Int)))] ++ List.replicate 14 .na)) (b := [(0, .ro 45 (a) false)]) (i := 3) (e := 9) (by decide) rfl (fin_ren (by kernel_rfl) (fin_loop (f + 1) (fin_round (ih _ _ h f (by omega))))))
theorem jnP_l1_fin (a : List Tk) (rec : jnP_S → Option Rs) (f : Nat) (ih : ∀ q r, rec q = some r → jnP_Fin a f r q) (xi1 : Int) (xl2 : List ByteArray) (r : Rs) (h : jnP_l1 a rec xi1 xl2 = some r) : jnP_Fin a (f + 1) r (.l1 xi1 xl2) := by
  unfold jnP_l1 at h
  intro m0 m0h
  obtain ⟨m0, rfl⟩ : ∃ k, m0 = k + 1 := ⟨m0 - 1, by omega⟩
  refine obif h (fun c1 h => ?_) (fun c1 h => ?_)
  · refine ogrd h (fun c2 h => ?_)
    refine ogrd h (fun c3 h => ?_)
    refine ogrd h (fun c4 h => ?_)
    refine obif h (fun c5 h => ?_) (fun c5 h => ?_)
    · exact osome h (sfin (keep := []) (by decide) [.t, .c (.v (.bool (rightT (a.getD xi1.toNat (0, ByteArray.empty, (0, 0, 0, ByteArray.empty), 0)).fst (a.getD xi1.toNat (0, ByteArray.empty, (0, 0, 0, ByteArray.empty), 0)).snd.fst ((a.getD xi1.toNat (0, ByteArray.empty, (0, 0, 0, ByteArray.empty), 0)).snd.snd.fst.fst, (a.getD xi1.toNat (0, ByteArray.empty, (0, 0, 0, ByteArray.empty), 0)).snd.snd.fst.snd.fst, (a.getD xi1.toNat (0, ByteArray.empty, (0, 0, 0, ByteArray.empty), 0)).snd.snd.fst.snd.snd.fst, (a.getD xi1.toNat (0, ByteArray.empty, (0, 0, 0, ByteArray.empty), 0)).snd.snd.fst.snd.snd.snd)))) [] 0, .t] (by kernel_rfl) (cj c1 (cj c2 (cj c3 (cj (right5_does ((a.getD xi1.toNat ((0 : Int), ByteArray.empty, ((0 : Int), (0 : Int), (0 : Int), ByteArray.empty), (0 : Int))).fst) ((a.getD xi1.toNat ((0 : Int), ByteArray.empty, ((0 : Int), (0 : Int), (0 : Int), ByteArray.empty), (0 : Int))).snd.fst) ((a.getD xi1.toNat ((0 : Int), ByteArray.empty, ((0 : Int), (0 : Int), (0 : Int), ByteArray.empty), (0 : Int))).snd.snd.fst.fst) ((a.getD xi1.toNat ((0 : Int), ByteArray.empty, ((0 : Int), (0 : Int), (0 : Int), ByteArray.empty), (0 : Int))).snd.snd.fst.snd.fst) ((a.getD xi1.toNat ((0 : Int), ByteArray.empty, ((0 : Int), (0 : Int), (0 : Int), ByteArray.empty), (0 : Int))).snd.snd.fst.snd.snd.fst) ((a.getD xi1.toNat ((0 : Int), ByteArray.empty, ((0 : Int), (0 : Int), (0 : Int), ByteArray.empty), (0 : Int))).snd.snd.fst.snd.snd.snd) ((a.getD xi1.toNat ((0 : Int), ByteArray.empty, ((0 : Int), (0 : Int), (0 : Int), ByteArray.empty), (0 : Int))).snd.snd.snd) (by assumption)) (cj c5 cj0))))))
    · refine ogrd h (fun c6 h => ?_)
      exact sat (keep := [3, 6, 7, 8]) (by decide) [.t, .c (.v (.bool (rightT (a.getD xi1.toNat (0, ByteArray.empty, (0, 0, 0, ByteArray.empty), 0)).fst (a.getD xi1.toNat (0, ByteArray.empty, (0, 0, 0, ByteArray.empty), 0)).snd.fst ((a.getD xi1.toNat (0, ByteArray.empty, (0, 0, 0, ByteArray.empty), 0)).snd.snd.fst.fst, (a.getD xi1.toNat (0, ByteArray.empty, (0, 0, 0, ByteArray.empty), 0)).snd.snd.fst.snd.fst, (a.getD xi1.toNat (0, ByteArray.empty, (0, 0, 0, ByteArray.empty), 0)).snd.snd.fst.snd.snd.fst, (a.getD xi1.toNat (0, ByteArray.empty, (0, 0, 0, ByteArray.empty), 0)).snd.snd.fst.snd.snd.snd)))) [] 0, .f] (by kernel_rfl) (cj c1 (cj c2 (cj c3 (cj (right5_does ((a.getD xi1.toNat ((0 : Int), ByteArray.empty, ((0 : Int), (0 : Int), (0 : Int), ByteArray.empty), (0 : Int))).fst) ((a.getD xi1.toNat ((0 : Int), ByteArray.empty, ((0 : Int), (0 : Int), (0 : Int), ByteArray.empty), (0 : Int))).snd.fst) ((a.getD xi1.toNat ((0 : Int), ByteArray.empty, ((0 : Int), (0 : Int), (0 : Int), ByteArray.empty), (0 : Int))).snd.snd.fst.fst) ((a.getD xi1.toNat ((0 : Int), ByteArray.empty, ((0 : Int), (0 : Int), (0 : Int), ByteArray.empty), (0 : Int))).snd.snd.fst.snd.fst) ((a.getD xi1.toNat ((0 : Int), ByteArray.empty, ((0 : Int), (0 : Int), (0 : Int), ByteArray.empty), (0 : Int))).snd.snd.fst.snd.snd.fst) ((a.getD xi1.toNat ((0 : Int), ByteArray.empty, ((0 : Int), (0 : Int), (0 : Int), ByteArray.empty), (0 : Int))).snd.snd.fst.snd.snd.snd) ((a.getD xi1.toNat ((0 : Int), ByteArray.empty, ((0 : Int), (0 : Int), (0 : Int), ByteArray.empty), (0 : Int))).snd.snd.snd) (by assumption)) (cj c5 (cj c6 cj0)))))) (fin_round (ih _ _ h (m0) (by omega)))
  · refine ogrd h (fun c7 h => ?_)
    refine ogrd h (fun c8 h => ?_)
    exact osome h (sfin (keep := []) (by decide) [.f, .c (.v (.string (oL (joinL xl2 (ByteArray.mk #[32]))))) [] 1] (by kernel_rfl) (cj c1 (cj (sjoin_does (xl2) ((ByteArray.mk #[(32 : UInt8)])) (by assumption) (by assumption)) cj0)))
theorem jnP_ok (a : List Tk) : ∀ f q r, jnP a f q = some r → jnP_Fin a f r q := by
  intro f
  induction f with
  | zero => intro q r h; cases h
  | succ f ih =>
    intro q r h
    cases q with
    | st => exact jnP_st_fin a _ f ih r h
    | l1 xi1 xl2 => exact jnP_l1_fin a _ f ih xi1 xl2 r h
theorem jnP_does (a : List Tk) (k : Nat) {r : Rs} (h : jnP a k .st = some r) : Does cE 28 [(0, .ro 45 a false)] 1 [.o 0] r.1 r.2.1 r.2.2 :=
  does_of_fin (fn := Tryz.f28) (c := bd Tryz.f28) rfl (by kernel_rfl) rfl (jnP_ok a k .st r h)
end Go.Proofs.YtpfignfgfhbblaaGreatDoorC
/- lexer.Join, told. -/
namespace Go.Proofs.YtpfignfgfhbblaaGreatDoorC
open Go.Proofs Go.Proofs.YtpfignfgfhbblaaGreatDoorSx Go.Lib
set_option maxRecDepth 100000
set_option linter.unusedVariables false
abbrev rightTk (x : Tk) : Bool := rightT x.1 x.2.1 x.2.2.1
abbrev spcB : ByteArray := ByteArray.mk #[32]
/-- Tokens' text, if they may be. -/
def joinT (a : List Tk) : List UInt8 := bif a.all rightTk then joinL (a.map fun x => x.2.1) spcB else []
theorem room16 {n : Nat} (h : n ≤ 1000000000000) : Room n 16 := by
  unfold Room maxLen
  omega
theorem jnP_loop (a : List Tk) (ha : a.length ≤ 1000000000000) (h2 : ∀ x ∈ a, x.2.1.size ≤ 140737488351232) (h3 : (joinL (a.map fun x => x.2.1) spcB).length ≤ 140737488355328) :
    ∀ (r p : List Tk) (f : Nat), a = p ++ r → r.length + 1 ≤ f → p.all rightTk = true →
      jnP a f (.l1 (p.length : Int) (p.map fun x => x.2.1)) = some (.v (st (oL (joinT a))), [(0, .ro 45 a false)], 1)
  | [], p, f, e, hf, hp => by
    obtain ⟨f, rfl⟩ : ∃ k, f = k + 1 := ⟨f - 1, by omega⟩
    rw [List.append_nil] at e
    subst e
    show jnP_l1 _ _ _ _ = _
    unfold jnP_l1
    refine bf (decide_eq_false (by omega)) (gp (by rw [List.length_map]; omega) (gp h3 ?_))
    unfold joinT
    rw [hp]
    rfl
  | x :: r, p, f, e, hf, hp => by
    simp only [List.length_cons] at hf
    obtain ⟨f, rfl⟩ : ∃ k, f = k + 1 := ⟨f - 1, by omega⟩
    have hz : (a.length : Int) = p.length + r.length + 1 := by rw [e]; simp; omega
    have hg : a.getD (p.length : Int).toNat (0, ByteArray.empty, (0, 0, 0, ByteArray.empty), 0) = x := by rw [e]; exact getD_t p r x
    have hx : x ∈ a := by rw [e]; simp
    show jnP_l1 _ _ _ _ = _
    unfold jnP_l1
    rw [hg, w1 (by omega)]
    refine bt (decide_eq_true (by omega)) (gp (by omega) (gp (by show _ + 1 ≤ _; omega) (gp (h2 x hx) ?_)))
    show (bif !rightTk x then _ else _) = _
    cases hr : rightTk x with
    | false =>
      refine bt rfl ?_
      unfold joinT
      have hall : a.all rightTk = false := by
        rw [e, List.all_append, List.all_cons, hr]
        simp
      rw [hall]
      rfl
    | true =>
      refine bf rfl (gp (room16 (by simp; omega)) ?_)
      have h := jnP_loop a ha h2 h3 r (p ++ [x]) f (by rw [e]; simp) (by omega) (by rw [List.all_append, hp, List.all_cons, hr]; rfl)
      have e2 : (p ++ [x]).length = p.length + 1 := by simp
      rw [e2, List.map_append] at h
      exact h
theorem join_does (a : List Tk) (ha : a.length ≤ 1000000000000) (h2 : ∀ x ∈ a, x.2.1.size ≤ 140737488351232) (h3 : (joinL (a.map fun x => x.2.1) spcB).length ≤ 140737488355328) : Does cE 28 [(0, .ro 45 a false)] 1 [.o 0] (.v (st (oL (joinT a)))) [] 1 := by
  refine Does.nil (T' := [(0, .ro 45 a false)]) (Does.of (jnP_does a (a.length + 3) (r := (_, _, _)) ?_) rfl) rfl
  exact jnP_loop a ha h2 h3 a [] (a.length + 2) rfl (by omega) rfl
end Go.Proofs.YtpfignfgfhbblaaGreatDoorC
/- What the laws of the lexer know, walked. Printed by a program (wip/tools); Lean checks each. -/
namespace Go.Proofs.YtpfignfgfhbblaaGreatDoorC
open Go.Proofs Go.Proofs.YtpfignfgfhbblaaGreatDoorSx Go.Lib
set_option maxRecDepth 100000
set_option maxHeartbeats 4000000
set_option linter.unusedVariables false
noncomputable def knL : Option Rs :=
  grd (((ByteArray.mk #[97, 49, 60, 61, 50, 46, 53])).size ≤ 140737488351232) (grd (((fun x => (((1 : Nat) : Int), oL (List.take ((List.takeWhile wrdB [49, 60, 61, 50, 46, 53]).length + 1) [97, 49, 60, 61, 50, 46, 53]), zV, ((0 : Nat) : Int)) :: x) ((fun x => (((2 : Nat) : Int), oL (List.take (signL [60, 61, 50, 46, 53]).toNat [60, 61, 50, 46, 53]), zV, (((0 + ((List.takeWhile wrdB [49, 60, 61, 50, 46, 53]).length + 1)) : Nat) : Int)) :: x) ((fun x => (((3 : Nat) : Int), oL (List.take (numN false [50, 46, 53]) [50, 46, 53]), pv4 (List.take (numN false [50, 46, 53]) [50, 46, 53]), (((0 + ((List.takeWhile wrdB [49, 60, 61, 50, 46, 53]).length + 1) + (signL [60, 61, 50, 46, 53]).toNat) : Nat) : Int)) :: x) []))).length ≤ 1000000000000) (grd (∀ x ∈ ((fun x => (((1 : Nat) : Int), oL (List.take ((List.takeWhile wrdB [49, 60, 61, 50, 46, 53]).length + 1) [97, 49, 60, 61, 50, 46, 53]), zV, ((0 : Nat) : Int)) :: x) ((fun x => (((2 : Nat) : Int), oL (List.take (signL [60, 61, 50, 46, 53]).toNat [60, 61, 50, 46, 53]), zV, (((0 + ((List.takeWhile wrdB [49, 60, 61, 50, 46, 53]).length + 1)) : Nat) : Int)) :: x) ((fun x => (((3 : Nat) : Int), oL (List.take (numN false [50, 46, 53]) [50, 46, 53]), pv4 (List.take (numN false [50, 46, 53]) [50, 46, 53]), (((0 + ((List.takeWhile wrdB [49, 60, 61, 50, 46, 53]).length + 1) + (signL [60, 61, 50, 46, 53]).toNat) : Nat) : Int)) :: x) []))), x.2.1.size ≤ 140737488351232) (grd ((joinL (((fun x => (((1 : Nat) : Int), oL (List.take ((List.takeWhile wrdB [49, 60, 61, 50, 46, 53]).length + 1) [97, 49, 60, 61, 50, 46, 53]), zV, ((0 : Nat) : Int)) :: x) ((fun x => (((2 : Nat) : Int), oL (List.take (signL [60, 61, 50, 46, 53]).toNat [60, 61, 50, 46, 53]), zV, (((0 + ((List.takeWhile wrdB [49, 60, 61, 50, 46, 53]).length + 1)) : Nat) : Int)) :: x) ((fun x => (((3 : Nat) : Int), oL (List.take (numN false [50, 46, 53]) [50, 46, 53]), pv4 (List.take (numN false [50, 46, 53]) [50, 46, 53]), (((0 + ((List.takeWhile wrdB [49, 60, 61, 50, 46, 53]).length + 1) + (signL [60, 61, 50, 46, 53]).toNat) : Nat) : Int)) :: x) []))).map fun x => x.2.1) spcB).length ≤ 140737488355328) (grd (((ByteArray.mk #[97, 95, 49])).size ≤ 140737488351232) (some ((.v (.bool (wordL (bL (ByteArray.mk #[(97 : UInt8), (95 : UInt8), (49 : UInt8)])))) : SV), ([] : Tab cE), 0))))))
theorem knL_does {r : Rs} (h : knL = some r) : Does cE 24 [] 0 [] r.1 r.2.1 r.2.2 := by
  unfold knL at h
  refine does_of_fin (fn := Tryz.f24) (c := bd Tryz.f24) rfl (by kernel_rfl) rfl ?_
  refine ogrd h (fun c1 h => ?_)
  refine ogrd h (fun c2 h => ?_)
  refine ogrd h (fun c3 h => ?_)
  refine ogrd h (fun c4 h => ?_)
  refine ogrd h (fun c5 h => ?_)
  exact osome h (sfin (keep := []) (by decide) [.c (.t [.o 0, .v (.int .i64 (0))]) [(0, .own 45 ((fun x => (((1 : Nat) : Int), oL (List.take ((List.takeWhile wrdB [49, 60, 61, 50, 46, 53]).length + 1) [97, 49, 60, 61, 50, 46, 53]), zV, ((0 : Nat) : Int)) :: x) ((fun x => (((2 : Nat) : Int), oL (List.take (signL [60, 61, 50, 46, 53]).toNat [60, 61, 50, 46, 53]), zV, (((0 + ((List.takeWhile wrdB [49, 60, 61, 50, 46, 53]).length + 1)) : Nat) : Int)) :: x) ((fun x => (((3 : Nat) : Int), oL (List.take (numN false [50, 46, 53]) [50, 46, 53]), pv4 (List.take (numN false [50, 46, 53]) [50, 46, 53]), (((0 + ((List.takeWhile wrdB [49, 60, 61, 50, 46, 53]).length + 1) + (signL [60, 61, 50, 46, 53]).toNat) : Nat) : Int)) :: x) []))))] 1, .e, .l, .l, .l, .l, .l, .l, .l, .l, .l, .l, .l, .l, .l, .l, .l, .l, .l, .l, .l, .l, .l, .l, .l, .l, .l, .c (.v (.string (oL (joinT ((fun x => (((1 : Nat) : Int), oL (List.take ((List.takeWhile wrdB [49, 60, 61, 50, 46, 53]).length + 1) [97, 49, 60, 61, 50, 46, 53]), zV, ((0 : Nat) : Int)) :: x) ((fun x => (((2 : Nat) : Int), oL (List.take (signL [60, 61, 50, 46, 53]).toNat [60, 61, 50, 46, 53]), zV, (((0 + ((List.takeWhile wrdB [49, 60, 61, 50, 46, 53]).length + 1)) : Nat) : Int)) :: x) ((fun x => (((3 : Nat) : Int), oL (List.take (numN false [50, 46, 53]) [50, 46, 53]), pv4 (List.take (numN false [50, 46, 53]) [50, 46, 53]), (((0 + ((List.takeWhile wrdB [49, 60, 61, 50, 46, 53]).length + 1) + (signL [60, 61, 50, 46, 53]).toNat) : Nat) : Int)) :: x) []))))))) [] 1, .l, .l, .l, .c (.v (.bool (wordL (bL (ByteArray.mk #[97, 95, 49]))))) [] 0, .l] (by kernel_rfl) (cj (split_does ((ByteArray.mk #[(97 : UInt8), (49 : UInt8), (60 : UInt8), (61 : UInt8), (50 : UInt8), (46 : UInt8), (53 : UInt8)])) (by assumption)) (cj (by first | decide | exact ⟨by decide, by decide⟩ | exact Nat.le_of_ble_eq_true rfl : (0 : Int) ≤ (1 : Int) ∧ (1 : Int) < ((((fun x => ((((1 : Nat) : Nat) : Int), oL (List.take ((List.takeWhile wrdB [(49 : UInt8), (60 : UInt8), (61 : UInt8), (50 : UInt8), (46 : UInt8), (53 : UInt8)]).length + (1 : Nat)) [(97 : UInt8), (49 : UInt8), (60 : UInt8), (61 : UInt8), (50 : UInt8), (46 : UInt8), (53 : UInt8)]), zV, (((0 : Nat) : Nat) : Int)) :: x) ((fun x => ((((2 : Nat) : Nat) : Int), oL (List.take (signL [(60 : UInt8), (61 : UInt8), (50 : UInt8), (46 : UInt8), (53 : UInt8)]).toNat [(60 : UInt8), (61 : UInt8), (50 : UInt8), (46 : UInt8), (53 : UInt8)]), zV, ((((0 : Nat) + ((List.takeWhile wrdB [(49 : UInt8), (60 : UInt8), (61 : UInt8), (50 : UInt8), (46 : UInt8), (53 : UInt8)]).length + (1 : Nat))) : Nat) : Int)) :: x) ((fun x => ((((3 : Nat) : Nat) : Int), oL (List.take (numN false [(50 : UInt8), (46 : UInt8), (53 : UInt8)]) [(50 : UInt8), (46 : UInt8), (53 : UInt8)]), pv4 (List.take (numN false [(50 : UInt8), (46 : UInt8), (53 : UInt8)]) [(50 : UInt8), (46 : UInt8), (53 : UInt8)]), ((((0 : Nat) + ((List.takeWhile wrdB [(49 : UInt8), (60 : UInt8), (61 : UInt8), (50 : UInt8), (46 : UInt8), (53 : UInt8)]).length + (1 : Nat)) + (signL [(60 : UInt8), (61 : UInt8), (50 : UInt8), (46 : UInt8), (53 : UInt8)]).toNat) : Nat) : Int)) :: x) []))).length : Nat) : Int)) (cj (by first | decide | exact ⟨by decide, by decide⟩ | exact Nat.le_of_ble_eq_true rfl : (Int.toNat (1 : Int)).succ.le ((fun x => ((((1 : Nat) : Nat) : Int), oL (List.take ((List.takeWhile wrdB [(49 : UInt8), (60 : UInt8), (61 : UInt8), (50 : UInt8), (46 : UInt8), (53 : UInt8)]).length + (1 : Nat)) [(97 : UInt8), (49 : UInt8), (60 : UInt8), (61 : UInt8), (50 : UInt8), (46 : UInt8), (53 : UInt8)]), zV, (((0 : Nat) : Nat) : Int)) :: x) ((fun x => ((((2 : Nat) : Nat) : Int), oL (List.take (signL [(60 : UInt8), (61 : UInt8), (50 : UInt8), (46 : UInt8), (53 : UInt8)]).toNat [(60 : UInt8), (61 : UInt8), (50 : UInt8), (46 : UInt8), (53 : UInt8)]), zV, ((((0 : Nat) + ((List.takeWhile wrdB [(49 : UInt8), (60 : UInt8), (61 : UInt8), (50 : UInt8), (46 : UInt8), (53 : UInt8)]).length + (1 : Nat))) : Nat) : Int)) :: x) ((fun x => ((((3 : Nat) : Nat) : Int), oL (List.take (numN false [(50 : UInt8), (46 : UInt8), (53 : UInt8)]) [(50 : UInt8), (46 : UInt8), (53 : UInt8)]), pv4 (List.take (numN false [(50 : UInt8), (46 : UInt8), (53 : UInt8)]) [(50 : UInt8), (46 : UInt8), (53 : UInt8)]), ((((0 : Nat) + ((List.takeWhile wrdB [(49 : UInt8), (60 : UInt8), (61 : UInt8), (50 : UInt8), (46 : UInt8), (53 : UInt8)]).length + (1 : Nat)) + (signL [(60 : UInt8), (61 : UInt8), (50 : UInt8), (46 : UInt8), (53 : UInt8)]).toNat) : Nat) : Int)) :: x) []))).length) (cj (by first | decide | exact ⟨by decide, by decide⟩ | exact Nat.le_of_ble_eq_true rfl : (0 : Int) ≤ (2 : Int) ∧ (2 : Int) < ((((fun x => ((((1 : Nat) : Nat) : Int), oL (List.take ((List.takeWhile wrdB [(49 : UInt8), (60 : UInt8), (61 : UInt8), (50 : UInt8), (46 : UInt8), (53 : UInt8)]).length + (1 : Nat)) [(97 : UInt8), (49 : UInt8), (60 : UInt8), (61 : UInt8), (50 : UInt8), (46 : UInt8), (53 : UInt8)]), zV, (((0 : Nat) : Nat) : Int)) :: x) ((fun x => ((((2 : Nat) : Nat) : Int), oL (List.take (signL [(60 : UInt8), (61 : UInt8), (50 : UInt8), (46 : UInt8), (53 : UInt8)]).toNat [(60 : UInt8), (61 : UInt8), (50 : UInt8), (46 : UInt8), (53 : UInt8)]), zV, ((((0 : Nat) + ((List.takeWhile wrdB [(49 : UInt8), (60 : UInt8), (61 : UInt8), (50 : UInt8), (46 : UInt8), (53 : UInt8)]).length + (1 : Nat))) : Nat) : Int)) :: x) ((fun x => ((((3 : Nat) : Nat) : Int), oL (List.take (numN false [(50 : UInt8), (46 : UInt8), (53 : UInt8)]) [(50 : UInt8), (46 : UInt8), (53 : UInt8)]), pv4 (List.take (numN false [(50 : UInt8), (46 : UInt8), (53 : UInt8)]) [(50 : UInt8), (46 : UInt8), (53 : UInt8)]), ((((0 : Nat) + ((List.takeWhile wrdB [(49 : UInt8), (60 : UInt8), (61 : UInt8), (50 : UInt8), (46 : UInt8), (53 : UInt8)]).length + (1 : Nat)) + (signL [(60 : UInt8), (61 : UInt8), (50 : UInt8), (46 : UInt8), (53 : UInt8)]).toNat) : Nat) : Int)) :: x) []))).length : Nat) : Int)) (cj (by first | decide | exact ⟨by decide, by decide⟩ | exact Nat.le_of_ble_eq_true rfl : (Int.toNat (2 : Int)).succ.le ((fun x => ((((1 : Nat) : Nat) : Int), oL (List.take ((List.takeWhile wrdB [(49 : UInt8), (60 : UInt8), (61 : UInt8), (50 : UInt8), (46 : UInt8), (53 : UInt8)]).length + (1 : Nat)) [(97 : UInt8), (49 : UInt8), (60 : UInt8), (61 : UInt8), (50 : UInt8), (46 : UInt8), (53 : UInt8)]), zV, (((0 : Nat) : Nat) : Int)) :: x) ((fun x => ((((2 : Nat) : Nat) : Int), oL (List.take (signL [(60 : UInt8), (61 : UInt8), (50 : UInt8), (46 : UInt8), (53 : UInt8)]).toNat [(60 : UInt8), (61 : UInt8), (50 : UInt8), (46 : UInt8), (53 : UInt8)]), zV, ((((0 : Nat) + ((List.takeWhile wrdB [(49 : UInt8), (60 : UInt8), (61 : UInt8), (50 : UInt8), (46 : UInt8), (53 : UInt8)]).length + (1 : Nat))) : Nat) : Int)) :: x) ((fun x => ((((3 : Nat) : Nat) : Int), oL (List.take (numN false [(50 : UInt8), (46 : UInt8), (53 : UInt8)]) [(50 : UInt8), (46 : UInt8), (53 : UInt8)]), pv4 (List.take (numN false [(50 : UInt8), (46 : UInt8), (53 : UInt8)]) [(50 : UInt8), (46 : UInt8), (53 : UInt8)]), ((((0 : Nat) + ((List.takeWhile wrdB [(49 : UInt8), (60 : UInt8), (61 : UInt8), (50 : UInt8), (46 : UInt8), (53 : UInt8)]).length + (1 : Nat)) + (signL [(60 : UInt8), (61 : UInt8), (50 : UInt8), (46 : UInt8), (53 : UInt8)]).toNat) : Nat) : Int)) :: x) []))).length) (cj (by first | decide | exact ⟨by decide, by decide⟩ | exact Nat.le_of_ble_eq_true rfl : (0 : Int) ≤ (2 : Int) ∧ (2 : Int) < ((((fun x => ((((1 : Nat) : Nat) : Int), oL (List.take ((List.takeWhile wrdB [(49 : UInt8), (60 : UInt8), (61 : UInt8), (50 : UInt8), (46 : UInt8), (53 : UInt8)]).length + (1 : Nat)) [(97 : UInt8), (49 : UInt8), (60 : UInt8), (61 : UInt8), (50 : UInt8), (46 : UInt8), (53 : UInt8)]), zV, (((0 : Nat) : Nat) : Int)) :: x) ((fun x => ((((2 : Nat) : Nat) : Int), oL (List.take (signL [(60 : UInt8), (61 : UInt8), (50 : UInt8), (46 : UInt8), (53 : UInt8)]).toNat [(60 : UInt8), (61 : UInt8), (50 : UInt8), (46 : UInt8), (53 : UInt8)]), zV, ((((0 : Nat) + ((List.takeWhile wrdB [(49 : UInt8), (60 : UInt8), (61 : UInt8), (50 : UInt8), (46 : UInt8), (53 : UInt8)]).length + (1 : Nat))) : Nat) : Int)) :: x) ((fun x => ((((3 : Nat) : Nat) : Int), oL (List.take (numN false [(50 : UInt8), (46 : UInt8), (53 : UInt8)]) [(50 : UInt8), (46 : UInt8), (53 : UInt8)]), pv4 (List.take (numN false [(50 : UInt8), (46 : UInt8), (53 : UInt8)]) [(50 : UInt8), (46 : UInt8), (53 : UInt8)]), ((((0 : Nat) + ((List.takeWhile wrdB [(49 : UInt8), (60 : UInt8), (61 : UInt8), (50 : UInt8), (46 : UInt8), (53 : UInt8)]).length + (1 : Nat)) + (signL [(60 : UInt8), (61 : UInt8), (50 : UInt8), (46 : UInt8), (53 : UInt8)]).toNat) : Nat) : Int)) :: x) []))).length : Nat) : Int)) (cj (by first | decide | exact ⟨by decide, by decide⟩ | exact Nat.le_of_ble_eq_true rfl : (Int.toNat (2 : Int)).succ.le ((fun x => ((((1 : Nat) : Nat) : Int), oL (List.take ((List.takeWhile wrdB [(49 : UInt8), (60 : UInt8), (61 : UInt8), (50 : UInt8), (46 : UInt8), (53 : UInt8)]).length + (1 : Nat)) [(97 : UInt8), (49 : UInt8), (60 : UInt8), (61 : UInt8), (50 : UInt8), (46 : UInt8), (53 : UInt8)]), zV, (((0 : Nat) : Nat) : Int)) :: x) ((fun x => ((((2 : Nat) : Nat) : Int), oL (List.take (signL [(60 : UInt8), (61 : UInt8), (50 : UInt8), (46 : UInt8), (53 : UInt8)]).toNat [(60 : UInt8), (61 : UInt8), (50 : UInt8), (46 : UInt8), (53 : UInt8)]), zV, ((((0 : Nat) + ((List.takeWhile wrdB [(49 : UInt8), (60 : UInt8), (61 : UInt8), (50 : UInt8), (46 : UInt8), (53 : UInt8)]).length + (1 : Nat))) : Nat) : Int)) :: x) ((fun x => ((((3 : Nat) : Nat) : Int), oL (List.take (numN false [(50 : UInt8), (46 : UInt8), (53 : UInt8)]) [(50 : UInt8), (46 : UInt8), (53 : UInt8)]), pv4 (List.take (numN false [(50 : UInt8), (46 : UInt8), (53 : UInt8)]) [(50 : UInt8), (46 : UInt8), (53 : UInt8)]), ((((0 : Nat) + ((List.takeWhile wrdB [(49 : UInt8), (60 : UInt8), (61 : UInt8), (50 : UInt8), (46 : UInt8), (53 : UInt8)]).length + (1 : Nat)) + (signL [(60 : UInt8), (61 : UInt8), (50 : UInt8), (46 : UInt8), (53 : UInt8)]).toNat) : Nat) : Int)) :: x) []))).length) (cj (join_does ((fun x => ((((1 : Nat) : Nat) : Int), oL (List.take ((List.takeWhile wrdB [(49 : UInt8), (60 : UInt8), (61 : UInt8), (50 : UInt8), (46 : UInt8), (53 : UInt8)]).length + (1 : Nat)) [(97 : UInt8), (49 : UInt8), (60 : UInt8), (61 : UInt8), (50 : UInt8), (46 : UInt8), (53 : UInt8)]), zV, (((0 : Nat) : Nat) : Int)) :: x) ((fun x => ((((2 : Nat) : Nat) : Int), oL (List.take (signL [(60 : UInt8), (61 : UInt8), (50 : UInt8), (46 : UInt8), (53 : UInt8)]).toNat [(60 : UInt8), (61 : UInt8), (50 : UInt8), (46 : UInt8), (53 : UInt8)]), zV, ((((0 : Nat) + ((List.takeWhile wrdB [(49 : UInt8), (60 : UInt8), (61 : UInt8), (50 : UInt8), (46 : UInt8), (53 : UInt8)]).length + (1 : Nat))) : Nat) : Int)) :: x) ((fun x => ((((3 : Nat) : Nat) : Int), oL (List.take (numN false [(50 : UInt8), (46 : UInt8), (53 : UInt8)]) [(50 : UInt8), (46 : UInt8), (53 : UInt8)]), pv4 (List.take (numN false [(50 : UInt8), (46 : UInt8), (53 : UInt8)]) [(50 : UInt8), (46 : UInt8), (53 : UInt8)]), ((((0 : Nat) + ((List.takeWhile wrdB [(49 : UInt8), (60 : UInt8), (61 : UInt8), (50 : UInt8), (46 : UInt8), (53 : UInt8)]).length + (1 : Nat)) + (signL [(60 : UInt8), (61 : UInt8), (50 : UInt8), (46 : UInt8), (53 : UInt8)]).toNat) : Nat) : Int)) :: x) []))) (by assumption) (by assumption) (by assumption)) (cj (word_does ((ByteArray.mk #[(97 : UInt8), (95 : UInt8), (49 : UInt8)])) (by assumption)) cj0))))))))))
end Go.Proofs.YtpfignfgfhbblaaGreatDoorC
/- What the laws of the lexer know: it is so. -/
namespace Go.Proofs.YtpfignfgfhbblaaGreatDoorC
open Go.Proofs Go.Proofs.YtpfignfgfhbblaaGreatDoorSx Go.Lib
set_option maxRecDepth 100000
set_option linter.unusedVariables false
theorem knL_eq : knL = some (.v (.bool true), [], 0) := by
  unfold knL
  exact gp (by decide +kernel) (gp (by decide +kernel) (gp (by decide +kernel) (gp (by decide +kernel) (gp (by decide +kernel) rfl))))
theorem lknows_does : Does cE 24 [] 0 [] (.v (.bool true)) [] 0 := Does.of (knL_does (r := (_, _, _)) knL_eq) rfl
end Go.Proofs.YtpfignfgfhbblaaGreatDoorC
/- LexerSplits, walked. Printed by a program (wip/tools); Lean checks each. -/
namespace Go.Proofs.YtpfignfgfhbblaaGreatDoorC
open Go.Proofs Go.Proofs.YtpfignfgfhbblaaGreatDoorSx Go.Lib
set_option maxRecDepth 100000
set_option maxHeartbeats 4000000
set_option linter.unusedVariables false
noncomputable def laS (s : ByteArray) : Option Rs :=
  grd ((s).size ≤ 140737488351232) (grd (((spOut (bL s)).fst).length ≤ 140737488351232) (bif ((spOut (bL s)).snd == (spOut (bL s)).snd) then some ((.v (.bool (true)) : SV), ([] : Tab cE), 0)
      else some ((.v (.bool (false)) : SV), ([] : Tab cE), 0)))
theorem laS_does (s : ByteArray) {r : Rs} (h : laS s = some r) : Does cE 4 [] 0 [.v (st s)] r.1 r.2.1 r.2.2 := by
  unfold laS at h
  refine does_of_fin (fn := Tryz.f4) (c := bd Tryz.f4) rfl (by kernel_rfl) rfl ?_
  refine ogrd h (fun c1 h => ?_)
  refine ogrd h (fun c2 h => ?_)
  refine obif h (fun c3 h => ?_) (fun c3 h => ?_)
  · exact osome h (sfin (keep := []) (by decide) [.c (.t [.o 0, .v (.int .i64 ((spOut (bL s)).snd))]) [(0, .own 45 ((spOut (bL s)).fst))] 1, .c (.t [.o 0, .v (.int .i64 ((spOut (bL s)).snd))]) [(0, .own 47 ((spOut (bL s)).fst))] 1, .c (.v (.bool (true))) [] 2, .l, .l, .e, .l, .l, .l, .t, .c (.v (.bool (true))) [] 0, .t] (by kernel_rfl) (cj (split_does (s) (by assumption)) (cj (rsplit_does (s) (by assumption)) (cj (same5_does ((spOut (bL s)).fst) (true) (by assumption)) (cj c3 (cj (lknows_does) (cj c3 cj0)))))))
  · exact osome h (sfin (keep := []) (by decide) [.c (.t [.o 0, .v (.int .i64 ((spOut (bL s)).snd))]) [(0, .own 45 ((spOut (bL s)).fst))] 1, .c (.t [.o 0, .v (.int .i64 ((spOut (bL s)).snd))]) [(0, .own 47 ((spOut (bL s)).fst))] 1, .c (.v (.bool (true))) [] 2, .l, .l, .e, .l, .l, .l, .f, .f] (by kernel_rfl) (cj (split_does (s) (by assumption)) (cj (rsplit_does (s) (by assumption)) (cj (same5_does ((spOut (bL s)).fst) (true) (by assumption)) (cj c3 (cj c3 cj0))))))
end Go.Proofs.YtpfignfgfhbblaaGreatDoorC
/- LexerSplits: true at every text. -/
namespace Go.Proofs.YtpfignfgfhbblaaGreatDoorC
open Go.Proofs Go.Proofs.YtpfignfgfhbblaaGreatDoorSx Go.RowKit Go.Lib
set_option maxRecDepth 100000
set_option linter.unusedVariables false
theorem split_len : ∀ (f a : Nat) (l : List UInt8) (ts : List Tk), splitL f a l = some ts → ts.length ≤ l.length
  | f, a, [], ts, h => by
    have e : splitL f a [] = some [] := by cases f <;> rfl
    rw [e] at h
    cases h
    exact Nat.le_refl _
  | 0, a, c :: r, ts, h => by cases h
  | f + 1, a, c :: r, ts, h => by
    cases hb : blankB c with
    | true =>
      rw [split_blank hb] at h
      have := split_len f (a + 1) r ts h
      rw [List.length_cons]
      omega
    | false =>
      cases hk : (oneR (c :: r)).2.2.2 with
      | false => rw [split_no hb hk] at h; cases h
      | true =>
        have hon := one_n hk
        rw [split_tok hb hk] at h
        cases hs : splitL f (a + (oneR (c :: r)).2.1) ((c :: r).drop (oneR (c :: r)).2.1) with
        | none => rw [hs] at h; cases h
        | some us =>
          rw [hs] at h
          simp only [Option.map_some, Option.some.injEq] at h
          subst h
          have := split_len f _ _ us hs
          rw [List.length_drop, List.length_cons] at this
          rw [List.length_cons, List.length_cons]
          omega
theorem spOut_len (l : List UInt8) : (spOut l).1.length ≤ 4096 := by
  unfold spOut
  by_cases hl : l.length > 4096
  · rw [decide_eq_true hl]
    exact Nat.zero_le _
  · rw [decide_eq_false hl]
    cases hs : splitL l.length 0 l with
    | none => exact Nat.zero_le _
    | some ts =>
      have := split_len _ _ _ _ hs
      show ts.length ≤ 4096
      omega
theorem splits_true (s : ByteArray) (hs : s.size ≤ 140737488351232) (w : World) (hg : GlobIn cE w) :
    Calls Tryz.prog 4 #[st s] w fun e w' => e = .returned (.bool true) ∧ Below w.heap.size w w' :=
  law_calls (E := cE) (l := [st s]) (enters (fn := Tryz.f4) rfl (by kernel_rfl) rfl) (Does.of (laS_does s (r := (_, _, _)) (by
    have h := spOut_len (bL s)
    unfold laS
    exact gp hs (gp (by omega) (bt (by simp) rfl)))) rfl) w hg
end Go.Proofs.YtpfignfgfhbblaaGreatDoorC
/- What the rows say of the whole program: each a closed fact, apart. -/
namespace Go.Proofs.YtpfignfgfhbblaaGreatDoorJ
open Go.Proofs.YtpfignfgfhbblaaGreatDoor
set_option maxRecDepth 100000
theorem bt {a b : Bool} (h : a = true) (k : b = true) : (a && b) = true := by rw [h, k]; rfl
theorem pLaid : laidOutB Tryz.prog = true := by kernel_rfl
theorem pMaps : mapsRowed Tryz.prog = true := by kernel_rfl
theorem pStops : (Tryz.prog.stops == []) = true := by kernel_rfl
theorem pKnobs : (Tryz.prog.stopKnobs == []) = true := by kernel_rfl
theorem pKeys : (Rows.datumTextsRow.plainKeys == Tryz.prog.plainKeys) = true := by kernel_rfl
theorem pHeard : Tryz.prog.stopsHeard = true := by kernel_rfl
theorem pMay : Tryz.prog.mayEnter = true := by kernel_rfl
theorem pLifts : (Rows.datumTextsRow.lifted == Tryz.prog.liftsFinal) = true := by kernel_rfl
theorem pMake : (Tryz.prog.make == some Rows.datumTextsRow.make) = true := by kernel_rfl
theorem pLooks : true = Tryz.prog.looks [] := by kernel_rfl
theorem pMain : Tryz.pinned.checked.prog.mainIs = some (true, "feaf21c062311904bfd92c7785647edaee1d9319c4fe03e55dc6c16d2606d535".toList) := by kernel_rfl
end Go.Proofs.YtpfignfgfhbblaaGreatDoorJ
/- What the listed package-level variables hold: the table of powers of ten, the two tables of unicode/utf8, cell for cell. -/
namespace Go.Proofs.YtpfignfgfhbblaaGreatDoorC
open Go.Proofs Go.Proofs.YtpfignfgfhbblaaGreatDoorSx Go.Proofs.YtpfignfgfhbblaaGreatDoor Go.Lib
set_option maxRecDepth 100000
abbrev laid3 : List (String × DataW Unit) := [("math/bits.deBruijn32tab", Rows.laid_math_bits_deBruijn32tab), ("math/bits.deBruijn64tab", Rows.laid_math_bits_deBruijn64tab), ("internal/strconv.uint64pow10", Rows.laid_internal_strconv_uint64pow10), ("unicode/utf8.acceptRanges", Rows.laid_unicode_utf8_acceptRanges), ("strconv.ErrRange", Rows.laid_strconv_ErrRange), ("strconv.ErrSyntax", Rows.laid_strconv_ErrSyntax), ("unicode/utf8.first", Rows.laid_unicode_utf8_first)]
theorem var_block {P : Program} {w : World} {n : String} {cs : Array Value} {g : Nat} (h : w.var? P n = some cs) (hg : P.globalNamed n = some g) : ∃ t f, w.heap[g]? = some (.cells cs t f) := by
  unfold World.var? at h
  rw [hg] at h
  simp only [Option.bind_some] at h
  split at h
  · rename_i cs' t f hb
    simp only [Option.some.injEq] at h
    exact ⟨t, f, by rw [hb, h]⟩
  · cases h
theorem tab_at {W : World} {n : String} {k : IntKind} {zs : List Int} {g : Nat} {t e : TypeId} {m : Nat} (h : VarReads Tryz.prog W n (Lib.tabData k zs)) (hg : Tryz.prog.globalNamed n = some g) (hy : (Tryz.prog.globals[g]?).map (·.type) = some t)
    (ht : Tryz.prog.underlying t = some (.array m e)) (he : Tryz.prog.underlying e = some (.int k)) (hce : Tryz.prog.cellsOf e = 1) (hct : Tryz.prog.cellsOf t = m) : ∃ t f, W.heap[g]? = some (.cells (zs.map (Value.int k)).toArray t f) := by
  obtain ⟨g', t', cs, fuel, p, h1, h2, h3, h4⟩ := h
  obtain rfl := Option.some.inj (hg.symm.trans h1)
  obtain rfl := Option.some.inj (hy.symm.trans h2)
  have hcs := cells_of_tab ht he hce hct h4
  obtain ⟨t, f, hb⟩ := var_block h3 hg
  refine ⟨t, f, ?_⟩
  rw [hb]
  congr 2
  apply Array.ext'
  rw [hcs]
theorem arr_len {H : Type} {enc : TypeId × Value → H} {P : Program} {w : World} {base : Nat} {sp : Nat → Bool} {held : Bool} {fuel : Nat} {t e : TypeId} {n : Nat} {cs : List Value} {ds : List (DataW H)} {p : List MemPlace} (ht : P.underlying t = some (.array n e))
    (h : DataW.trod enc P w base sp held fuel t cs = some (.agg ds, p)) : cs.length = P.cellsOf t := by
  cases fuel with
  | zero => simp [DataW.trod] at h
  | succ fuel =>
    simp only [DataW.trod, ht] at h
    split at h
    · rename_i hl
      exact hl
    · cases h
theorem acc_at {W : World} (h : VarReads Tryz.prog W "unicode/utf8.acceptRanges" acceptData) : ∃ t f, W.heap[1]? = some (.cells (accL.map (Value.int .u8)).toArray t f) := by
  obtain ⟨g', t', cs, fuel, p, h1, h2, h3, h4⟩ := h
  have hg : Tryz.prog.globalNamed "unicode/utf8.acceptRanges" = some 1 := by kernel_rfl
  have hy : (Tryz.prog.globals[1]?).map (·.type) = some 200 := by kernel_rfl
  have ht : Tryz.prog.underlying 200 = some (.array 16 199) := by kernel_rfl
  have hs : Tryz.prog.underlying 199 = some (TypeDesc.struct #[{ name := "lo", type := 5, offset := 0, embedded := false, tag := "", pkgPath := "unicode/utf8", byteOffset := 0 }, { name := "hi", type := 5, offset := 1, embedded := false, tag := "", pkgPath := "unicode/utf8", byteOffset := 1 }]) := by kernel_rfl
  have h5 : Tryz.prog.underlying 5 = some (.int .u8) := by kernel_rfl
  have c5 : Tryz.prog.cellsOf 5 = 1 := by kernel_rfl
  have c2 : Tryz.prog.cellsOf 199 = 2 := by kernel_rfl
  have c32 : Tryz.prog.cellsOf 200 = 32 := by kernel_rfl
  obtain rfl := Option.some.inj (hg.symm.trans h1)
  obtain rfl := Option.some.inj (hy.symm.trans h2)
  obtain ⟨t, f, hb⟩ := var_block h3 hg
  refine ⟨t, f, ?_⟩
  rw [hb]
  congr 2
  apply Array.ext'
  have hl := arr_len ht h4
  rw [c32] at hl
  have acc : ∀ k : _root_.Fin 16, accL[2 * k.val]? = some ((accLo k.val : Nat) : Int) ∧ accL[2 * k.val + 1]? = some ((accHi k.val : Nat) : Int) := by decide
  have hlen : accL.length = 32 := by decide
  apply List.ext_getElem?
  intro j
  by_cases hj : j < 32
  · obtain ⟨fuel', d, q, hdi, he⟩ := array_elem ht h4 (j / 2) (by omega)
    simp only [List.getElem?_map, List.getElem?_range (by omega : j / 2 < 16), Option.map_some, Option.some.injEq] at hdi
    subst hdi
    rw [c2] at he
    have hcs := ints_of_struct hs (fun j f hj => by
      match j, hj with
      | 0, hj => simp at hj; subst hj; exact ⟨h5, rfl, c5⟩
      | 1, hj => simp at hj; subst hj; exact ⟨h5, rfl, c5⟩
      | j + 2, hj => simp at hj) (by rw [c2]; rfl) he
    obtain ⟨a0, a1⟩ := acc ⟨j / 2, by omega⟩
    simp only at a0 a1
    have hj2 : j = 2 * (j / 2) ∨ j = 2 * (j / 2) + 1 := by omega
    rcases hj2 with e | e
    · have e0 : cs.toList[2 * (j / 2)]? = some (.int .u8 ((accLo (j / 2) : Nat) : Int)) := by
        have := congrArg (·[0]?) hcs
        simpa [List.getElem?_take, List.getElem?_drop, Nat.mul_comm] using this
      rw [List.getElem?_map, e, e0, a0]
      rfl
    · have e0 : cs.toList[2 * (j / 2) + 1]? = some (.int .u8 ((accHi (j / 2) : Nat) : Int)) := by
        have := congrArg (·[1]?) hcs
        simpa [List.getElem?_take, List.getElem?_drop, Nat.mul_comm] using this
      rw [List.getElem?_map, e, e0, a1]
      rfl
  · rw [List.getElem?_eq_none (by omega), List.getElem?_eq_none (by simp; omega)]
theorem cell_lt {w : World} {g : Nat} {v : Value} (h : w.cell? ⟨g, 0, none⟩ = some v) : g < w.heap.size := World.block_lt_of_cell? w ⟨g, 0, none⟩ h
theorem star_err : "*" ++ "errors.errorString" = "*errors.errorString" := by decide
theorem row_err (u : TypeId) (h : Tryz.prog.typeName? 3 u = some "*errors.errorString") : u = 251 :=
  typeName_ptr_named (nm := "errors.errorString") (by rw [star_err]; kernel_rfl) (by kernel_rfl) (by decide) u (by rw [star_err]; exact h)
theorem err_at {W : World} {n : String} {text : List UInt8} {r : List (String × DataW Unit)} {g : Nat} (h : laidMet Tryz.prog ((n, .iface "*errors.errorString" (.ptr (.agg [.lit (.string text)]))) :: r) W) (hg : Tryz.prog.globalNamed n = some g) (ht : (Tryz.prog.globals[g]?).map (·.type) = some 162) :
    ∃ v, W.cell? ⟨g, 0, none⟩ = some v ∧ (v = .nilIface ∨ ∃ te pe, v = .iface te pe) := by
  obtain ⟨a, s, hv, _⟩ := laid_sentinel h hg ht Tryz.underlying162 row_err Tryz.underlying251 Tryz.underlying253 rfl rfl Tryz.underlying9 (by kernel_rfl) (by kernel_rfl)
  obtain ⟨t, f, hb⟩ := var_block hv hg
  exact ⟨.iface 251 (.pointer (some a)), by simp [World.cell?, hb], .inr ⟨_, _, rfl⟩⟩
theorem glob_in {W : World} (h : laidMetH Tryz.prog laid3 W) (hsh : W.ShapedOpen Tryz.prog) : GlobIn cE W := by
  rw [MakeChecks.laidMetH_plain _ _ _ (by kernel_rfl)] at h
  have g0 := tab_at (k := .u64) (zs := Lib.pow10Tab) (m := 20) (e := 121) (t := 238) (laidMet.reads h (n := "internal/strconv.uint64pow10") (d := Lib.tabData .u64 Lib.pow10Tab) (by simp [laid3]; rfl)) (g := 4) (by kernel_rfl) (by kernel_rfl) (by kernel_rfl) (by kernel_rfl) (by kernel_rfl) (by kernel_rfl)
  have g1 := tab_at (k := .u8) (zs := firstTab) (m := 256) (e := 5) (t := 197) (laidMet.reads h (n := "unicode/utf8.first") (d := firstData) (by simp [laid3]; rfl)) (g := 0) (by kernel_rfl) (by kernel_rfl) (by kernel_rfl) (by kernel_rfl) (by kernel_rfl) (by kernel_rfl)
  have g2 := acc_at (laidMet.reads h (n := "unicode/utf8.acceptRanges") (d := acceptData) (by simp [laid3]; rfl))
  refine ⟨fun g vs hv => ?_, fun g p hp => ?_⟩
  · by_cases hg0 : g = 4
    · subst hg0
      have e : cE.gl 4 = .ints .u64 Lib.pow10Tab := rfl
      rw [e] at hv
      simp only [glAll, Option.some.injEq] at hv
      subst hv
      exact g0
    · by_cases hg1 : g = 0
      · subst hg1
        have e : cE.gl 0 = .ints .u8 firstL := rfl
        rw [e] at hv
        simp only [glAll, Option.some.injEq] at hv
        subst hv
        exact g1
      · by_cases hg2 : g = 1
        · subst hg2
          have e : cE.gl 1 = .ints .u8 accL := rfl
          rw [e] at hv
          simp only [glAll, Option.some.injEq] at hv
          subst hv
          exact g2
        · have e : cE.gl g = .no := by
            show (bif Nat.beq g 4 then _ else bif Nat.beq g 0 then _ else bif Nat.beq g 1 then _ else _) = _
            rw [nbeq_ne hg0, nbeq_ne hg1, nbeq_ne hg2]
            rfl
          rw [e] at hv
          cases hv
  · by_cases hg0 : g = 2
    · subst hg0
      have e : cE.ga 2 = some (fun v => ∃ m, v = .int .i64 m) := rfl
      rw [e] at hp
      obtain rfl := Option.some.inj hp
      obtain ⟨m, hm⟩ := cell_of_shapedOpen_int (P := Tryz.prog) (g := 2) (t := 3) (zero := #[.int .i64 0]) hsh (of_decide_eq_true (by kernel_rfl)) (by kernel_rfl) rfl (by kernel_rfl) (by kernel_rfl) Tryz.underlying3
      exact ⟨cell_lt hm, _, hm, m, rfl⟩
    · by_cases hg1 : g = 5
      · subst hg1
        have e : cE.ga 5 = some (fun v => v = .nilIface ∨ ∃ te pe, v = .iface te pe) := rfl
        rw [e] at hp
        obtain rfl := Option.some.inj hp
        obtain ⟨v, hm, hv⟩ := err_at (g := 5) (h.tail.tail.tail.tail.tail) (by kernel_rfl) (by kernel_rfl)
        exact ⟨cell_lt hm, v, hm, hv⟩
      · by_cases hg2 : g = 6
        · subst hg2
          have e : cE.ga 6 = some (fun v => v = .nilIface ∨ ∃ te pe, v = .iface te pe) := rfl
          rw [e] at hp
          obtain rfl := Option.some.inj hp
          obtain ⟨v, hm, hv⟩ := err_at (g := 6) (h.tail.tail.tail.tail) (by kernel_rfl) (by kernel_rfl)
          exact ⟨cell_lt hm, v, hm, hv⟩
        · have e : cE.ga g = none := by
            show (bif Nat.beq g 2 then _ else bif Nat.beq g 5 then _ else bif Nat.beq g 6 then _ else _) = _
            rw [nbeq_ne hg0, nbeq_ne hg1, nbeq_ne hg2]
            rfl
          rw [e] at hp
          cases hp
/-- The wrap of a row over listed variables, the world's shape handed on. -/
theorem handed_shaped {H : Type} {enc : TypeId × Value → H} {a : Assume} {C : Checked} {os : Os} {f : FuncId} {fn : Func} {s : ChangeSpec} {conds : List PathCond} {apart fresh handsOn again : Bool} {X : World → Array Value → Prop}
    (hX : ∀ (w w' : World) (args : Array Value), w.heap = w'.heap → X w args → X w' args)
    (own : ownKnob C.prog.godebug = none) (started : os.Started) (noInit : C.prog.inits.idxOf? f = none) (hfn : C.prog.funcs[f]? = some fn)
    (wit : ∃ (w : World) (tape : Tape) (i : Input), w.os = os ∧ (w.forCall tape i).Shaped C.prog ∧ i.vars = [] ∧ Input.okWide C.prog (w.forCall tape i) .any w.heap.size f i ∧
      ((s.pre enc C.prog fn conds apart (w.forCall tape i).memory i.args ∧ X (w.forCall tape i).memory i.args) ∧ sizedMet enc C.prog fn (OpenSpec.ofChange s) apart (w.forCall tape i).memory i.args) ∧ a.holds C.prog (lone (Frame.enter C.prog f i.args .normal) [] (w.forCall tape i)))
    (run : ∀ (W : World) (base : Nat) (args : Array Value) (ds gs : List (DataW H)) (before : List MemPlace),
      (∀ (j : Nat) t v, fn.params[j]? = some t → args[j]? = some v → Value.okWide C.prog W .any base t v) →
      DataW.Whole enc C.prog fn.params.toList s.vars apart W args.toList ds gs before →
      conds.all (PathCond.test C.prog ⟨fn.params.toList, ds, s.plain.varTypes C.prog, gs⟩) = true →
      (DataW.weightsEach C.prog (fn.params.toList ++ s.plain.varTypes C.prog) (ds ++ gs)).all (· ≤ reachBytes) = true → X W args → W.ShapedOpen C.prog →
      a.holds C.prog (lone (Frame.enter C.prog f args .normal) [] W) →
      Calls C.prog f args W fun e W' => ∃ v, e = .returned v ∧ s.post enc C.prog fn apart fresh handsOn again W args v W') :
    ReturnsInHanded a C os f .any (fun w args => (s.pre enc C.prog fn conds apart w args ∧ X w args) ∧ sizedMet enc C.prog fn (OpenSpec.ofChange s) apart w args) (s.post enc C.prog fn apart fresh handsOn again) := by
  refine returnsInHanded_of_calls own started noInit wit ?_
  intro w tape i _ hsh _ ok hpre hh
  obtain ⟨_, _, _, g, hg, _, _, _, _, hval⟩ := ok
  obtain rfl : g = fn := Option.some.inj (hg.symm.trans hfn)
  obtain ⟨⟨⟨ds, gs, before, hw, hc⟩, hx⟩, hz⟩ := hpre
  have hw2 := DataW.Whole.of_heap (w' := w.forCall tape i) (by rfl) hw
  refine (run (w.forCall tape i) w.heap.size i.args ds gs before hval hw2 hc (hz.weights hw) (hX _ _ _ (by rfl) hx) hsh hh).mono fun e W' hv => ?_
  obtain ⟨v, he, hp⟩ := hv
  subst he
  exact ChangeSpec.post_blind hp
end Go.Proofs.YtpfignfgfhbblaaGreatDoorC
