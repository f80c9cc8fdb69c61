import Derived.Test.YtnchjdhepakokaaGreatDoorOs11
import Derived.KernelRfl
import Derived.Shelf.Strings.Replace
import Derived.Shelf.Strings.SplitShaped
import Derived.Shelf.LaysM
import Derived.Ground.NamesProg
import Derived.Test.YtnchjdhepakokaaGreatDoorProg
import Derived.Test.YtnchjdhepakokaaGreatDoorOs05
import Derived.Test.YtnchjdhepakokaaGreatDoorOs09
/- Rows: loops over values. Printed by a program (wip/tools); Lean checks each. -/
namespace Go.Proofs.YtnchjdhepakokaaGreatDoorC
open Go.Proofs Go.Proofs.YtnchjdhepakokaaGreatDoorSx Go.Lib
set_option maxRecDepth 100000
set_option linter.unusedVariables false
noncomputable def ixK : List It := stackAt [1, 0, 1, 0] (bd Tryz.f148) [] []
noncomputable def cfK : List It := stackAt [1, 0, 1, 0] (bd Tryz.f131) [] []
noncomputable def rwK : List It := stackAt [1, 0, 1, 0] (bd Tryz.f37) [] []
noncomputable def rsK : List It := stackAt [1, 0, 1, 0] (bd Tryz.f54) [] []
abbrev ixS (r : List (Int × Int × Int × ByteArray)) (i : Nat) : List SV := [.o 0, .v (.func (.func 130) #[] #[]), .na, .na, .na, .na, .o 0, .v (it r.length), .v (it i)] ++ List.replicate 10 .na
abbrev cfS (r : List (Int × Int × Int × ByteArray)) (i : Nat) : List SV := [.o 0, .o 1, .v (.func (.func 48) #[] #[]), .na, .na, .na, .na, .na, .na, .na, .na, .o 0, .v (it r.length), .v (it i)] ++ List.replicate 25 .na
abbrev rwS (i : Nat) : List SV := [.o 0, .na, .na, .v (it i)] ++ List.replicate 15 .na
abbrev rsS (i : Nat) : List SV := [.o 0, .o 1, .na, .na, .na, .v (it i)] ++ List.replicate 30 .na
abbrev vT (r : List (Int × Int × Int × ByteArray)) : Tab cE := [(0, .ro 25 r false)]
abbrev vvT (r q : List (Int × Int × Int × ByteArray)) : Tab cE := [(0, .ro 25 r false), (1, .ro 25 q false)]
def pIxb (r : List (Int × Int × Int × ByteArray)) (i m : Nat) (R1 : Value) : Value :=
  bif (decide ((i : Int) < (r.length : Int))) then bif (!okV (r.getD i (0, 0, 0, ByteArray.empty)).fst (r.getD i (0, 0, 0, ByteArray.empty)).snd.fst (r.getD i (0, 0, 0, ByteArray.empty)).snd.snd.fst (r.getD i (0, 0, 0, ByteArray.empty)).snd.snd.snd) then (.int .i64 ((i : Int)))
    else R1
  else (.int .i64 (-1))
theorem pIxb_fin (r : List (Int × Int × Int × ByteArray)) (i m : Nat) (R1 : Value) (hi : i ≤ r.length) (hl : r.length ≤ 4000000000000) (hs : (r.getD i (0, 0, 0, ByteArray.empty)).2.2.2.size ≤ 140737488351232) (hF1 : (decide ((i : Int) < (r.length : Int))) = true → (!okV (r.getD i (0, 0, 0, ByteArray.empty)).fst (r.getD i (0, 0, 0, ByteArray.empty)).snd.fst (r.getD i (0, 0, 0, ByteArray.empty)).snd.snd.fst (r.getD i (0, 0, 0, ByteArray.empty)).snd.snd.snd) = false → Fin cE Tryz.f148 1 (.v R1) [(0, .ro 25 (r) false)] 1 (inK ixK (m)) ([.o 0, .v (.func (Go.Fn.func 130) #[] #[]), .na, .na, .na, .na, .o 0, .v (.int .i64 ((r.length : Int))), .v (.int .i64 (IntKind.i64.wrap ((i : Int) + 1)))] ++ List.replicate 10 .na) [(0, .ro 25 (r) false)] 1) : Fin cE Tryz.f148 1 (.v (pIxb r i m R1)) [(0, .ro 25 (r) false)] 1 (bodyK ixK m) (ixS r i) (vT r) 1 := by
  unfold pIxb
  refine fbif (fun c1 => ?_) (fun c1 => ?_)
  · refine fbif (fun c2 => ?_) (fun c2 => ?_)
    · exact sfin (keep := [0, 1, 6, 7, 8]) (by decide) [.t, .c (.v (.bool (!okV (r.getD i (0, 0, 0, ByteArray.empty)).fst (r.getD i (0, 0, 0, ByteArray.empty)).snd.fst (r.getD i (0, 0, 0, ByteArray.empty)).snd.snd.fst (r.getD i (0, 0, 0, ByteArray.empty)).snd.snd.snd))) [] 0, .t] (by kernel_rfl) (cj c1 (cj (by (have := of_decide_eq_true c1; omega) : 0 ≤ (i : Int) ∧ (i : Int) < (r.length : Int)) (cj (by (have := of_decide_eq_true c1; omega) : i < r.length) (cj (rowbad_does ((r.getD i (0, 0, 0, ByteArray.empty)).fst) ((r.getD i (0, 0, 0, ByteArray.empty)).snd.fst) ((r.getD i (0, 0, 0, ByteArray.empty)).snd.snd.fst) ((r.getD i (0, 0, 0, ByteArray.empty)).snd.snd.snd) (by first | assumption | decide)) (cj c2 cj0)))))
    · exact sat (keep := [0, 1, 6, 7, 8]) (by decide) [.t, .c (.v (.bool (!okV (r.getD i (0, 0, 0, ByteArray.empty)).fst (r.getD i (0, 0, 0, ByteArray.empty)).snd.fst (r.getD i (0, 0, 0, ByteArray.empty)).snd.snd.fst (r.getD i (0, 0, 0, ByteArray.empty)).snd.snd.snd))) [] 0, .f] (by kernel_rfl) (cj c1 (cj (by (have := of_decide_eq_true c1; omega) : 0 ≤ (i : Int) ∧ (i : Int) < (r.length : Int)) (cj (by (have := of_decide_eq_true c1; omega) : i < r.length) (cj (rowbad_does ((r.getD i (0, 0, 0, ByteArray.empty)).fst) ((r.getD i (0, 0, 0, ByteArray.empty)).snd.fst) ((r.getD i (0, 0, 0, ByteArray.empty)).snd.snd.fst) ((r.getD i (0, 0, 0, ByteArray.empty)).snd.snd.snd) (by first | assumption | decide)) (cj c2 cj0))))) (hF1 c1 c2)
  · exact sfin (keep := [0, 1, 6, 7, 8]) (by decide) [.f] (by kernel_rfl) (cj c1 cj0)
def rRwb (r : List (Int × Int × Int × ByteArray)) (i m : Nat) (R1 : Value) : Value :=
  bif (decide ((i : Int) < (r.length : Int))) then bif (!okV (r.getD i (0, 0, 0, ByteArray.empty)).fst (r.getD i (0, 0, 0, ByteArray.empty)).snd.fst (r.getD i (0, 0, 0, ByteArray.empty)).snd.snd.fst (r.getD i (0, 0, 0, ByteArray.empty)).snd.snd.snd) then (.bool (false))
    else R1
  else (.bool (decide ((r.length : Int) ≤ 64)))
theorem rRwb_fin (r : List (Int × Int × Int × ByteArray)) (i m : Nat) (R1 : Value) (hi : i ≤ r.length) (hl : r.length ≤ 4000000000000) (hs : (r.getD i (0, 0, 0, ByteArray.empty)).2.2.2.size ≤ 140737488351232) (hF1 : (decide ((i : Int) < (r.length : Int))) = true → (!okV (r.getD i (0, 0, 0, ByteArray.empty)).fst (r.getD i (0, 0, 0, ByteArray.empty)).snd.fst (r.getD i (0, 0, 0, ByteArray.empty)).snd.snd.fst (r.getD i (0, 0, 0, ByteArray.empty)).snd.snd.snd) = false → Fin cE Tryz.f37 1 (.v R1) [(0, .ro 25 (r) false)] 1 (inK rwK (m)) ([.o 0, .na, .na, .v (.int .i64 (IntKind.i64.wrap ((i : Int) + 1)))] ++ List.replicate 15 .na) [(0, .ro 25 (r) false)] 1) : Fin cE Tryz.f37 1 (.v (rRwb r i m R1)) [(0, .ro 25 (r) false)] 1 (bodyK rwK m) (rwS i) (vT r) 1 := by
  unfold rRwb
  refine fbif (fun c1 => ?_) (fun c1 => ?_)
  · refine fbif (fun c2 => ?_) (fun c2 => ?_)
    · exact sfin (keep := [0, 3]) (by decide) [.t, .c (.v (.bool (okV (r.getD i (0, 0, 0, ByteArray.empty)).fst (r.getD i (0, 0, 0, ByteArray.empty)).snd.fst (r.getD i (0, 0, 0, ByteArray.empty)).snd.snd.fst (r.getD i (0, 0, 0, ByteArray.empty)).snd.snd.snd))) [] 0, .t] (by kernel_rfl) (cj c1 (cj (by (have := of_decide_eq_true c1; omega) : 0 ≤ (i : Int) ∧ (i : Int) < (r.length : Int)) (cj (by (have := of_decide_eq_true c1; omega) : i < r.length) (cj (right4_does ((r.getD i (0, 0, 0, ByteArray.empty)).fst) ((r.getD i (0, 0, 0, ByteArray.empty)).snd.fst) ((r.getD i (0, 0, 0, ByteArray.empty)).snd.snd.fst) ((r.getD i (0, 0, 0, ByteArray.empty)).snd.snd.snd) (by first | assumption | decide)) (cj c2 cj0)))))
    · exact sat (keep := [0, 3]) (by decide) [.t, .c (.v (.bool (okV (r.getD i (0, 0, 0, ByteArray.empty)).fst (r.getD i (0, 0, 0, ByteArray.empty)).snd.fst (r.getD i (0, 0, 0, ByteArray.empty)).snd.snd.fst (r.getD i (0, 0, 0, ByteArray.empty)).snd.snd.snd))) [] 0, .f] (by kernel_rfl) (cj c1 (cj (by (have := of_decide_eq_true c1; omega) : 0 ≤ (i : Int) ∧ (i : Int) < (r.length : Int)) (cj (by (have := of_decide_eq_true c1; omega) : i < r.length) (cj (right4_does ((r.getD i (0, 0, 0, ByteArray.empty)).fst) ((r.getD i (0, 0, 0, ByteArray.empty)).snd.fst) ((r.getD i (0, 0, 0, ByteArray.empty)).snd.snd.fst) ((r.getD i (0, 0, 0, ByteArray.empty)).snd.snd.snd) (by first | assumption | decide)) (cj c2 cj0))))) (hF1 c1 c2)
  · exact sfin (keep := [0, 3]) (by decide) [.f] (by kernel_rfl) (cj c1 cj0)
def pCfb (r q : List (Int × Int × Int × ByteArray)) (i m : Nat) (R1 : Value) : Value :=
  bif (decide ((i : Int) < (r.length : Int))) then bif (decide ((i : Int) ≥ (q.length : Int))) then (.int .i64 (1))
    else bif (cpV (r.getD i (0, 0, 0, ByteArray.empty)).fst (r.getD i (0, 0, 0, ByteArray.empty)).snd.fst (r.getD i (0, 0, 0, ByteArray.empty)).snd.snd.fst (r.getD i (0, 0, 0, ByteArray.empty)).snd.snd.snd (q.getD i (0, 0, 0, ByteArray.empty)).fst (q.getD i (0, 0, 0, ByteArray.empty)).snd.fst (q.getD i (0, 0, 0, ByteArray.empty)).snd.snd.fst (q.getD i (0, 0, 0, ByteArray.empty)).snd.snd.snd != 0) then (.int .i64 (cpV (r.getD i (0, 0, 0, ByteArray.empty)).fst (r.getD i (0, 0, 0, ByteArray.empty)).snd.fst (r.getD i (0, 0, 0, ByteArray.empty)).snd.snd.fst (r.getD i (0, 0, 0, ByteArray.empty)).snd.snd.snd (q.getD i (0, 0, 0, ByteArray.empty)).fst (q.getD i (0, 0, 0, ByteArray.empty)).snd.fst (q.getD i (0, 0, 0, ByteArray.empty)).snd.snd.fst (q.getD i (0, 0, 0, ByteArray.empty)).snd.snd.snd))
      else R1
  else bif (decide ((r.length : Int) < (q.length : Int))) then (.int .i64 (-1))
    else (.int .i64 (0))
theorem pCfb_fin (r q : List (Int × Int × Int × ByteArray)) (i m : Nat) (R1 : Value) (hi : i ≤ r.length) (hl : r.length ≤ 4000000000000) (hs : (r.getD i (0, 0, 0, ByteArray.empty)).2.2.2.size ≤ 140737488351232) (hn : I64 (r.getD i (0, 0, 0, ByteArray.empty)).2.1) (hm : I64 (r.getD i (0, 0, 0, ByteArray.empty)).2.2.1) (hj : q.length ≤ 4000000000000) (hsq : (q.getD i (0, 0, 0, ByteArray.empty)).2.2.2.size ≤ 140737488351232) (hnq : I64 (q.getD i (0, 0, 0, ByteArray.empty)).2.1) (hmq : I64 (q.getD i (0, 0, 0, ByteArray.empty)).2.2.1) (hF1 : (decide ((i : Int) < (r.length : Int))) = true → (decide ((i : Int) ≥ (q.length : Int))) = false → (cpV (r.getD i (0, 0, 0, ByteArray.empty)).fst (r.getD i (0, 0, 0, ByteArray.empty)).snd.fst (r.getD i (0, 0, 0, ByteArray.empty)).snd.snd.fst (r.getD i (0, 0, 0, ByteArray.empty)).snd.snd.snd (q.getD i (0, 0, 0, ByteArray.empty)).fst (q.getD i (0, 0, 0, ByteArray.empty)).snd.fst (q.getD i (0, 0, 0, ByteArray.empty)).snd.snd.fst (q.getD i (0, 0, 0, ByteArray.empty)).snd.snd.snd != 0) = false → Fin cE Tryz.f131 2 (.v R1) [(0, .ro 25 (r) false), (1, .ro 25 (q) false)] 2 (inK cfK (m)) ([.o 0, .o 1, .v (.func (Go.Fn.func 48) #[] #[]), .na, .na, .na, .na, .na, .na, .na, .na, .o 0, .v (.int .i64 ((r.length : Int))), .v (.int .i64 (IntKind.i64.wrap ((i : Int) + 1)))] ++ List.replicate 25 .na) [(0, .ro 25 (r) false), (1, .ro 25 (q) false)] 2) : Fin cE Tryz.f131 2 (.v (pCfb r q i m R1)) [(0, .ro 25 (r) false), (1, .ro 25 (q) false)] 2 (bodyK cfK m) (cfS r i) (vvT r q) 2 := by
  unfold pCfb
  refine fbif (fun c1 => ?_) (fun c1 => ?_)
  · refine fbif (fun c2 => ?_) (fun c2 => ?_)
    · exact sfin (keep := [0, 1, 2, 11, 12, 13]) (by decide) [.t, .t] (by kernel_rfl) (cj c1 (cj (by (first | (have := of_decide_eq_true c1; have := of_decide_eq_false c2; omega) | (have := of_decide_eq_true c1; have := of_decide_eq_true c2; omega) | (have := of_decide_eq_true c1; omega)) : 0 ≤ (i : Int) ∧ (i : Int) < (r.length : Int)) (cj (by (first | (have := of_decide_eq_true c1; have := of_decide_eq_false c2; omega) | (have := of_decide_eq_true c1; have := of_decide_eq_true c2; omega) | (have := of_decide_eq_true c1; omega)) : i < r.length) (cj c2 cj0))))
    · refine fbif (fun c3 => ?_) (fun c3 => ?_)
      · exact sfin (keep := [0, 1, 2, 11, 12, 13]) (by decide) [.t, .f, .c (.v (.int .i64 (cpV (r.getD i (0, 0, 0, ByteArray.empty)).fst (r.getD i (0, 0, 0, ByteArray.empty)).snd.fst (r.getD i (0, 0, 0, ByteArray.empty)).snd.snd.fst (r.getD i (0, 0, 0, ByteArray.empty)).snd.snd.snd (q.getD i (0, 0, 0, ByteArray.empty)).fst (q.getD i (0, 0, 0, ByteArray.empty)).snd.fst (q.getD i (0, 0, 0, ByteArray.empty)).snd.snd.fst (q.getD i (0, 0, 0, ByteArray.empty)).snd.snd.snd))) [] 0, .t] (by kernel_rfl) (cj c1 (cj (by (first | (have := of_decide_eq_true c1; have := of_decide_eq_false c2; omega) | (have := of_decide_eq_true c1; have := of_decide_eq_true c2; omega) | (have := of_decide_eq_true c1; omega)) : 0 ≤ (i : Int) ∧ (i : Int) < (r.length : Int)) (cj (by (first | (have := of_decide_eq_true c1; have := of_decide_eq_false c2; omega) | (have := of_decide_eq_true c1; have := of_decide_eq_true c2; omega) | (have := of_decide_eq_true c1; omega)) : i < r.length) (cj c2 (cj (by (first | (have := of_decide_eq_true c1; have := of_decide_eq_false c2; omega) | (have := of_decide_eq_true c1; have := of_decide_eq_true c2; omega) | (have := of_decide_eq_true c1; omega)) : 0 ≤ (i : Int) ∧ (i : Int) < (q.length : Int)) (cj (by (first | (have := of_decide_eq_true c1; have := of_decide_eq_false c2; omega) | (have := of_decide_eq_true c1; have := of_decide_eq_true c2; omega) | (have := of_decide_eq_true c1; omega)) : i < q.length) (cj (compare_does ((r.getD i (0, 0, 0, ByteArray.empty)).fst) ((r.getD i (0, 0, 0, ByteArray.empty)).snd.fst) ((r.getD i (0, 0, 0, ByteArray.empty)).snd.snd.fst) ((r.getD i (0, 0, 0, ByteArray.empty)).snd.snd.snd) ((q.getD i (0, 0, 0, ByteArray.empty)).fst) ((q.getD i (0, 0, 0, ByteArray.empty)).snd.fst) ((q.getD i (0, 0, 0, ByteArray.empty)).snd.snd.fst) ((q.getD i (0, 0, 0, ByteArray.empty)).snd.snd.snd) (by first | assumption | decide) (by first | assumption | decide) (by first | assumption | decide) (by first | assumption | decide) (by first | assumption | decide) (by first | assumption | decide)) (cj c3 cj0))))))))
      · exact sat (keep := [0, 1, 2, 11, 12, 13]) (by decide) [.t, .f, .c (.v (.int .i64 (cpV (r.getD i (0, 0, 0, ByteArray.empty)).fst (r.getD i (0, 0, 0, ByteArray.empty)).snd.fst (r.getD i (0, 0, 0, ByteArray.empty)).snd.snd.fst (r.getD i (0, 0, 0, ByteArray.empty)).snd.snd.snd (q.getD i (0, 0, 0, ByteArray.empty)).fst (q.getD i (0, 0, 0, ByteArray.empty)).snd.fst (q.getD i (0, 0, 0, ByteArray.empty)).snd.snd.fst (q.getD i (0, 0, 0, ByteArray.empty)).snd.snd.snd))) [] 0, .f] (by kernel_rfl) (cj c1 (cj (by (first | (have := of_decide_eq_true c1; have := of_decide_eq_false c2; omega) | (have := of_decide_eq_true c1; have := of_decide_eq_true c2; omega) | (have := of_decide_eq_true c1; omega)) : 0 ≤ (i : Int) ∧ (i : Int) < (r.length : Int)) (cj (by (first | (have := of_decide_eq_true c1; have := of_decide_eq_false c2; omega) | (have := of_decide_eq_true c1; have := of_decide_eq_true c2; omega) | (have := of_decide_eq_true c1; omega)) : i < r.length) (cj c2 (cj (by (first | (have := of_decide_eq_true c1; have := of_decide_eq_false c2; omega) | (have := of_decide_eq_true c1; have := of_decide_eq_true c2; omega) | (have := of_decide_eq_true c1; omega)) : 0 ≤ (i : Int) ∧ (i : Int) < (q.length : Int)) (cj (by (first | (have := of_decide_eq_true c1; have := of_decide_eq_false c2; omega) | (have := of_decide_eq_true c1; have := of_decide_eq_true c2; omega) | (have := of_decide_eq_true c1; omega)) : i < q.length) (cj (compare_does ((r.getD i (0, 0, 0, ByteArray.empty)).fst) ((r.getD i (0, 0, 0, ByteArray.empty)).snd.fst) ((r.getD i (0, 0, 0, ByteArray.empty)).snd.snd.fst) ((r.getD i (0, 0, 0, ByteArray.empty)).snd.snd.snd) ((q.getD i (0, 0, 0, ByteArray.empty)).fst) ((q.getD i (0, 0, 0, ByteArray.empty)).snd.fst) ((q.getD i (0, 0, 0, ByteArray.empty)).snd.snd.fst) ((q.getD i (0, 0, 0, ByteArray.empty)).snd.snd.snd) (by first | assumption | decide) (by first | assumption | decide) (by first | assumption | decide) (by first | assumption | decide) (by first | assumption | decide) (by first | assumption | decide)) (cj c3 cj0)))))))) (hF1 c1 c2 c3)
  · refine fbif (fun c4 => ?_) (fun c4 => ?_)
    · exact sfin (keep := [0, 1, 2, 11, 12, 13]) (by decide) [.f, .t] (by kernel_rfl) (cj c1 (cj c4 cj0))
    · exact sfin (keep := [0, 1, 2, 11, 12, 13]) (by decide) [.f, .f] (by kernel_rfl) (cj c1 (cj c4 cj0))
def rRsb (r q : List (Int × Int × Int × ByteArray)) (i m : Nat) (R1 : Value) : Value :=
  bif (decide ((i : Int) < (r.length : Int))) then bif (decide ((i : Int) < (q.length : Int))) then bif (cpV (r.getD i (0, 0, 0, ByteArray.empty)).fst (r.getD i (0, 0, 0, ByteArray.empty)).snd.fst (r.getD i (0, 0, 0, ByteArray.empty)).snd.snd.fst (r.getD i (0, 0, 0, ByteArray.empty)).snd.snd.snd (q.getD i (0, 0, 0, ByteArray.empty)).fst (q.getD i (0, 0, 0, ByteArray.empty)).snd.fst (q.getD i (0, 0, 0, ByteArray.empty)).snd.snd.fst (q.getD i (0, 0, 0, ByteArray.empty)).snd.snd.snd != 0) then (.int .i64 (cpV (r.getD i (0, 0, 0, ByteArray.empty)).fst (r.getD i (0, 0, 0, ByteArray.empty)).snd.fst (r.getD i (0, 0, 0, ByteArray.empty)).snd.snd.fst (r.getD i (0, 0, 0, ByteArray.empty)).snd.snd.snd (q.getD i (0, 0, 0, ByteArray.empty)).fst (q.getD i (0, 0, 0, ByteArray.empty)).snd.fst (q.getD i (0, 0, 0, ByteArray.empty)).snd.snd.fst (q.getD i (0, 0, 0, ByteArray.empty)).snd.snd.snd))
      else R1
    else (.int .i64 (cmI (r.length : Int) (q.length : Int)))
  else (.int .i64 (cmI (r.length : Int) (q.length : Int)))
theorem rRsb_fin (r q : List (Int × Int × Int × ByteArray)) (i m : Nat) (R1 : Value) (hi : i ≤ r.length) (hl : r.length ≤ 4000000000000) (hs : (r.getD i (0, 0, 0, ByteArray.empty)).2.2.2.size ≤ 140737488351232) (hn : I64 (r.getD i (0, 0, 0, ByteArray.empty)).2.1) (hm : I64 (r.getD i (0, 0, 0, ByteArray.empty)).2.2.1) (hj : q.length ≤ 4000000000000) (hsq : (q.getD i (0, 0, 0, ByteArray.empty)).2.2.2.size ≤ 140737488351232) (hnq : I64 (q.getD i (0, 0, 0, ByteArray.empty)).2.1) (hmq : I64 (q.getD i (0, 0, 0, ByteArray.empty)).2.2.1) (hF1 : (decide ((i : Int) < (r.length : Int))) = true → (decide ((i : Int) < (q.length : Int))) = true → (cpV (r.getD i (0, 0, 0, ByteArray.empty)).fst (r.getD i (0, 0, 0, ByteArray.empty)).snd.fst (r.getD i (0, 0, 0, ByteArray.empty)).snd.snd.fst (r.getD i (0, 0, 0, ByteArray.empty)).snd.snd.snd (q.getD i (0, 0, 0, ByteArray.empty)).fst (q.getD i (0, 0, 0, ByteArray.empty)).snd.fst (q.getD i (0, 0, 0, ByteArray.empty)).snd.snd.fst (q.getD i (0, 0, 0, ByteArray.empty)).snd.snd.snd != 0) = false → Fin cE Tryz.f54 2 (.v R1) [(0, .ro 25 (r) false), (1, .ro 25 (q) false)] 2 (inK rsK (m)) ([.o 0, .o 1, .na, .na, .na, .v (.int .i64 (IntKind.i64.wrap ((i : Int) + 1)))] ++ List.replicate 30 .na) [(0, .ro 25 (r) false), (1, .ro 25 (q) false)] 2) : Fin cE Tryz.f54 2 (.v (rRsb r q i m R1)) [(0, .ro 25 (r) false), (1, .ro 25 (q) false)] 2 (bodyK rsK m) (rsS i) (vvT r q) 2 := by
  unfold rRsb
  refine fbif (fun c1 => ?_) (fun c1 => ?_)
  · refine fbif (fun c2 => ?_) (fun c2 => ?_)
    · refine fbif (fun c3 => ?_) (fun c3 => ?_)
      · exact sfin (keep := [0, 1, 5]) (by decide) [.t, .t, .t, .t, .t, .t, .c (.v (.int .i64 (cpV (r.getD i (0, 0, 0, ByteArray.empty)).fst (r.getD i (0, 0, 0, ByteArray.empty)).snd.fst (r.getD i (0, 0, 0, ByteArray.empty)).snd.snd.fst (r.getD i (0, 0, 0, ByteArray.empty)).snd.snd.snd (q.getD i (0, 0, 0, ByteArray.empty)).fst (q.getD i (0, 0, 0, ByteArray.empty)).snd.fst (q.getD i (0, 0, 0, ByteArray.empty)).snd.snd.fst (q.getD i (0, 0, 0, ByteArray.empty)).snd.snd.snd))) [] 0, .t] (by kernel_rfl) (cj c1 (cj c1 (cj c1 (cj c1 (cj c1 (cj c2 (cj (by (first | (have := of_decide_eq_true c1; have := of_decide_eq_false c2; omega) | (have := of_decide_eq_true c1; have := of_decide_eq_true c2; omega) | (have := of_decide_eq_true c1; omega)) : 0 ≤ (i : Int) ∧ (i : Int) < (r.length : Int)) (cj (by (first | (have := of_decide_eq_true c1; have := of_decide_eq_false c2; omega) | (have := of_decide_eq_true c1; have := of_decide_eq_true c2; omega) | (have := of_decide_eq_true c1; omega)) : i < r.length) (cj (by (first | (have := of_decide_eq_true c1; have := of_decide_eq_false c2; omega) | (have := of_decide_eq_true c1; have := of_decide_eq_true c2; omega) | (have := of_decide_eq_true c1; omega)) : 0 ≤ (i : Int) ∧ (i : Int) < (q.length : Int)) (cj (by (first | (have := of_decide_eq_true c1; have := of_decide_eq_false c2; omega) | (have := of_decide_eq_true c1; have := of_decide_eq_true c2; omega) | (have := of_decide_eq_true c1; omega)) : i < q.length) (cj (rcompare_does ((r.getD i (0, 0, 0, ByteArray.empty)).fst) ((r.getD i (0, 0, 0, ByteArray.empty)).snd.fst) ((r.getD i (0, 0, 0, ByteArray.empty)).snd.snd.fst) ((r.getD i (0, 0, 0, ByteArray.empty)).snd.snd.snd) ((q.getD i (0, 0, 0, ByteArray.empty)).fst) ((q.getD i (0, 0, 0, ByteArray.empty)).snd.fst) ((q.getD i (0, 0, 0, ByteArray.empty)).snd.snd.fst) ((q.getD i (0, 0, 0, ByteArray.empty)).snd.snd.snd) (by first | assumption | decide) (by first | assumption | decide) (by first | assumption | decide) (by first | assumption | decide) (by first | assumption | decide) (by first | assumption | decide)) (cj c3 cj0))))))))))))
      · exact sat (keep := [0, 1, 5]) (by decide) [.t, .t, .t, .t, .t, .t, .c (.v (.int .i64 (cpV (r.getD i (0, 0, 0, ByteArray.empty)).fst (r.getD i (0, 0, 0, ByteArray.empty)).snd.fst (r.getD i (0, 0, 0, ByteArray.empty)).snd.snd.fst (r.getD i (0, 0, 0, ByteArray.empty)).snd.snd.snd (q.getD i (0, 0, 0, ByteArray.empty)).fst (q.getD i (0, 0, 0, ByteArray.empty)).snd.fst (q.getD i (0, 0, 0, ByteArray.empty)).snd.snd.fst (q.getD i (0, 0, 0, ByteArray.empty)).snd.snd.snd))) [] 0, .f] (by kernel_rfl) (cj c1 (cj c1 (cj c1 (cj c1 (cj c1 (cj c2 (cj (by (first | (have := of_decide_eq_true c1; have := of_decide_eq_false c2; omega) | (have := of_decide_eq_true c1; have := of_decide_eq_true c2; omega) | (have := of_decide_eq_true c1; omega)) : 0 ≤ (i : Int) ∧ (i : Int) < (r.length : Int)) (cj (by (first | (have := of_decide_eq_true c1; have := of_decide_eq_false c2; omega) | (have := of_decide_eq_true c1; have := of_decide_eq_true c2; omega) | (have := of_decide_eq_true c1; omega)) : i < r.length) (cj (by (first | (have := of_decide_eq_true c1; have := of_decide_eq_false c2; omega) | (have := of_decide_eq_true c1; have := of_decide_eq_true c2; omega) | (have := of_decide_eq_true c1; omega)) : 0 ≤ (i : Int) ∧ (i : Int) < (q.length : Int)) (cj (by (first | (have := of_decide_eq_true c1; have := of_decide_eq_false c2; omega) | (have := of_decide_eq_true c1; have := of_decide_eq_true c2; omega) | (have := of_decide_eq_true c1; omega)) : i < q.length) (cj (rcompare_does ((r.getD i (0, 0, 0, ByteArray.empty)).fst) ((r.getD i (0, 0, 0, ByteArray.empty)).snd.fst) ((r.getD i (0, 0, 0, ByteArray.empty)).snd.snd.fst) ((r.getD i (0, 0, 0, ByteArray.empty)).snd.snd.snd) ((q.getD i (0, 0, 0, ByteArray.empty)).fst) ((q.getD i (0, 0, 0, ByteArray.empty)).snd.fst) ((q.getD i (0, 0, 0, ByteArray.empty)).snd.snd.fst) ((q.getD i (0, 0, 0, ByteArray.empty)).snd.snd.snd) (by first | assumption | decide) (by first | assumption | decide) (by first | assumption | decide) (by first | assumption | decide) (by first | assumption | decide) (by first | assumption | decide)) (cj c3 cj0)))))))))))) (hF1 c1 c2 c3)
    · exact sfin (keep := [0, 1, 5]) (by decide) [.t, .t, .t, .t, .t, .f, .c (.v (.int .i64 (cmI (r.length : Int) (q.length : Int)))) [] 0] (by kernel_rfl) (cj c1 (cj c1 (cj c1 (cj c1 (cj c1 (cj c2 (cj (rcmi_does ((r.length : Int)) ((q.length : Int))) cj0)))))))
  · exact sfin (keep := [0, 1, 5]) (by decide) [.f, .f, .f, .f, .f, .l, .c (.v (.int .i64 (cmI (r.length : Int) (q.length : Int)))) [] 0] (by kernel_rfl) (cj c1 (cj c1 (cj c1 (cj c1 (cj c1 (cj (rcmi_does ((r.length : Int)) ((q.length : Int))) cj0))))))
def pIxa (r : List (Int × Int × Int × ByteArray)) (R1 : SV × Tab cE × Nat) : SV × Tab cE × Nat :=
  R1
theorem pIxa_fin (r : List (Int × Int × Int × ByteArray)) (R1 : SV × Tab cE × Nat) (hF1 : Fin cE Tryz.f148 1 R1.1 R1.2.1 R1.2.2 ixK ([.o 0, .v (.func (Go.Fn.func 130) #[] #[]), .na, .na, .na, .na, .o 0, .v (.int .i64 ((r.length : Int))), .v (.int .i64 (0))] ++ List.replicate 10 .na) [(0, .ro 25 (r) false)] 1) : Fin cE Tryz.f148 1 (pIxa r R1).1 (pIxa r R1).2.1 (pIxa r R1).2.2 [.code (bd Tryz.f148)] (argsS [.o 0, .v (.func (.func 130) #[] #[])] Tryz.f148.ntmps) [(0, .ro 25 r false)] 1 := by
  unfold pIxa
  exact sat (keep := [0, 1, 6, 7, 8]) (by decide) [] (by kernel_rfl) cj0 (hF1 )
def pCfa (r q : List (Int × Int × Int × ByteArray)) (R1 : SV × Tab cE × Nat) : SV × Tab cE × Nat :=
  R1
theorem pCfa_fin (r q : List (Int × Int × Int × ByteArray)) (R1 : SV × Tab cE × Nat) (hF1 : Fin cE Tryz.f131 2 R1.1 R1.2.1 R1.2.2 cfK ([.o 0, .o 1, .v (.func (Go.Fn.func 48) #[] #[]), .na, .na, .na, .na, .na, .na, .na, .na, .o 0, .v (.int .i64 ((r.length : Int))), .v (.int .i64 (0))] ++ List.replicate 25 .na) [(0, .ro 25 (r) false), (1, .ro 25 (q) false)] 2) : Fin cE Tryz.f131 2 (pCfa r q R1).1 (pCfa r q R1).2.1 (pCfa r q R1).2.2 [.code (bd Tryz.f131)] (argsS [.o 0, .o 1, .v (.func (.func 48) #[] #[])] Tryz.f131.ntmps) [(0, .ro 25 r false), (1, .ro 25 q false)] 2 := by
  unfold pCfa
  exact sat (keep := [0, 1, 2, 11, 12, 13]) (by decide) [] (by kernel_rfl) cj0 (hF1 )
def rRwa (r : List (Int × Int × Int × ByteArray)) (R1 : SV × Tab cE × Nat) : SV × Tab cE × Nat :=
  R1
theorem rRwa_fin (r : List (Int × Int × Int × ByteArray)) (R1 : SV × Tab cE × Nat) (hF1 : Fin cE Tryz.f37 1 R1.1 R1.2.1 R1.2.2 rwK ([.o 0, .na, .na, .v (.int .i64 (0))] ++ List.replicate 15 .na) [(0, .ro 25 (r) false)] 1) : Fin cE Tryz.f37 1 (rRwa r R1).1 (rRwa r R1).2.1 (rRwa r R1).2.2 [.code (bd Tryz.f37)] (argsS [.o 0] Tryz.f37.ntmps) [(0, .ro 25 r false)] 1 := by
  unfold rRwa
  exact sat (keep := [0, 3]) (by decide) [] (by kernel_rfl) cj0 (hF1 )
def rRsa (r q : List (Int × Int × Int × ByteArray)) (R1 : SV × Tab cE × Nat) : SV × Tab cE × Nat :=
  R1
theorem rRsa_fin (r q : List (Int × Int × Int × ByteArray)) (R1 : SV × Tab cE × Nat) (hF1 : Fin cE Tryz.f54 2 R1.1 R1.2.1 R1.2.2 rsK ([.o 0, .o 1, .na, .na, .na, .v (.int .i64 (0))] ++ List.replicate 30 .na) [(0, .ro 25 (r) false), (1, .ro 25 (q) false)] 2) : Fin cE Tryz.f54 2 (rRsa r q R1).1 (rRsa r q R1).2.1 (rRsa r q R1).2.2 [.code (bd Tryz.f54)] (argsS [.o 0, .o 1] Tryz.f54.ntmps) [(0, .ro 25 r false), (1, .ro 25 q false)] 2 := by
  unfold rRsa
  exact sat (keep := [0, 1, 5]) (by decide) [] (by kernel_rfl) cj0 (hF1 )
end Go.Proofs.YtnchjdhepakokaaGreatDoorC
/- The order of values is one order: plain law. -/
namespace Go.Proofs.YtnchjdhepakokaaGreatDoorC
open Go.Proofs Go.Proofs.YtnchjdhepakokaaGreatDoorSx Go.Lib
set_option maxRecDepth 100000
set_option linter.unusedVariables false
set_option linter.unusedSimpArgs false
theorem sg_mul (u p : Int) : sg (ab u * p) (ng u) = u * p := by
  rcases ab_spec u with ⟨h1, h2⟩ | ⟨h1, h2⟩
  · rw [show ng u = true from decide_eq_true h1, h2]
    simp only [sg, if_pos]
    rw [Int.neg_mul]
    omega
  · rw [show ng u = false from decide_eq_false (by omega), h2]
    simp [sg]
theorem sg_mulT (u p : Int) (t : Bool) : sg (ab u * p) (ng u != t) = if t then -(u * p) else u * p := by
  rcases ab_spec u with ⟨h1, h2⟩ | ⟨h1, h2⟩
  · rw [show ng u = true from decide_eq_true h1, h2]
    cases t <;> simp [sg, Int.neg_mul]
  · rw [show ng u = false from decide_eq_false (by omega), h2]
    cases t <;> simp [sg]
theorem addM_sg {x y : Int} (hx : 0 ≤ x) (hy : 0 ≤ y) (s t : Bool) : sg (addM x s y t).1 (addM x s y t).2 = sg x s + sg y t := by
  unfold addM
  by_cases h : s = t
  · subst h
    rw [if_pos rfl]
    cases s <;> simp [sg] <;> omega
  · rw [if_neg h]
    by_cases hlt : x < y
    · rw [if_pos hlt]
      cases s <;> cases t <;> simp [sg] at h ⊢ <;> omega
    · rw [if_neg hlt]
      cases s <;> cases t <;> simp [sg] at h ⊢ <;> omega
theorem cmpZ {u x v y : Int} (hu : I64 u) (hv : I64 v) (hx : sc6 x) (hy : sc6 y) : cmpM u x v y = cmpI (u * p10 (6 - x)) (v * p10 (6 - y)) := by
  have m1 := up_mul (z := 6 - x) hu (by omega)
  have m2 := up_mul (z := 6 - y) hv (by omega)
  have hb := addM_bound (B := 0) m1.1 m2.1 (ng u) (!ng v)
  have hs := addM_sg m1.1 m2.1 (ng u) (!ng v)
  have e : (!ng v) = (ng v != true) := by simp
  rw [e] at hs hb
  rw [sg_mul, sg_mulT] at hs
  unfold cmpM cmpI
  rw [if_pos ⟨hx, hy⟩, e]
  generalize addM (ab u * p10 (6 - x)) (ng u) (ab v * p10 (6 - y)) (ng v != true) = D at hs hb
  obtain ⟨d, n⟩ := D
  simp only [if_pos] at hs hb ⊢
  by_cases h0 : d = 0
  · rw [if_pos h0]
    have : u * p10 (6 - x) = v * p10 (6 - y) := by
      cases n <;> simp [sg] at hs <;> omega
    rw [if_neg (by omega), if_neg (by omega)]
  · rw [if_neg h0]
    cases n with
    | true =>
      simp [sg] at hs
      rw [if_pos rfl, if_pos (by omega)]
    | false =>
      simp [sg] at hs
      rw [if_neg (by decide), if_neg (by omega), if_pos (by omega)]
theorem cmI_spec (a b : Int) : (a < b ∧ cmI a b = -1) ∨ (b < a ∧ cmI a b = 1) ∨ (a = b ∧ cmI a b = 0) := by
  unfold cmI
  by_cases h : a < b
  · exact .inl ⟨h, by rw [decide_eq_true h]; rfl⟩
  · by_cases g : a > b
    · exact .inr (.inl ⟨g, by rw [decide_eq_false h, decide_eq_true g]; rfl⟩)
    · exact .inr (.inr ⟨by omega, by rw [decide_eq_false h, decide_eq_false g]; rfl⟩)
theorem Ord.key_eq {x y : Int} (h : cmI x y = 0) : x = y := by
  have := cmI_spec x y
  omega
theorem Ord.key_zero {x y z : Int} (h : cmI x y = 0) (g : cmI y z = 0) : cmI x z = 0 := by
  have h1 := cmI_spec x y
  have h2 := cmI_spec y z
  have h3 := cmI_spec x z
  omega
theorem Ord.key_sym {x y : Int} (h : cmI x y = 0) : cmI y x = 0 := by
  have h1 := cmI_spec x y
  have h3 := cmI_spec y x
  omega
def ors (x y : Int) : Int := bif x != 0 then x else y
theorem ors_spec (x y : Int) : (x ≠ 0 ∧ ors x y = x) ∨ (x = 0 ∧ ors x y = y) := by
  unfold ors
  by_cases h : x = 0
  · exact .inr ⟨h, by rw [h]; rfl⟩
  · exact .inl ⟨h, by rw [show (x != 0) = true by simpa using h]; rfl⟩
/-- One order, among those of which R speaks. -/
structure Ord {α : Type} (R : α → α → Prop) (c : α → α → Int) : Prop where
  anti : ∀ a b, R a b → c b a = - c a b
  trans : ∀ a b d, R a b → R b d → c a b ≤ 0 → c b d ≤ 0 → c a d ≤ 0
theorem Ord.two {α : Type} {R : α → α → Prop} (tr : ∀ a b d, R a b → R b d → R a d) (sy : ∀ a b, R a b → R b a) {c1 c2 : α → α → Int} (h1 : Ord R c1) (h2 : Ord (fun a b => R a b ∧ c1 a b = 0) c2) : Ord R (fun a b => ors (c1 a b) (c2 a b)) where
  anti a b r := by
    show ors (c1 b a) (c2 b a) = - ors (c1 a b) (c2 a b)
    have e := h1.anti a b r
    rcases ors_spec (c1 a b) (c2 a b) with ⟨n, e1⟩ | ⟨z, e1⟩ <;> rcases ors_spec (c1 b a) (c2 b a) with ⟨n2, e2⟩ | ⟨z2, e2⟩
    · rw [e1, e2, e]
    · omega
    · omega
    · rw [e1, e2]; exact h2.anti a b ⟨r, z⟩
  trans a b d r1 r2 e1 e2 := by
    have e1 : ors (c1 a b) (c2 a b) ≤ 0 := e1
    have e2 : ors (c1 b d) (c2 b d) ≤ 0 := e2
    show ors (c1 a d) (c2 a d) ≤ 0
    have s1 := ors_spec (c1 a b) (c2 a b)
    have s2 := ors_spec (c1 b d) (c2 b d)
    have k1 : c1 a b ≤ 0 := by omega
    have k2 : c1 b d ≤ 0 := by omega
    have k3 := h1.trans a b d r1 r2 k1 k2
    rcases ors_spec (c1 a d) (c2 a d) with ⟨n, e⟩ | ⟨z, e⟩
    · rw [e]; exact k3
    · have r3 := tr a b d r1 r2
      have a3 := h1.anti a d r3
      have t1 := h1.trans b d a r2 (sy _ _ r3) k2 (by omega)
      have t2 := h1.trans d a b (sy _ _ r3) r1 (by omega) k1
      have a1 := h1.anti a b r1
      have a2 := h1.anti b d r2
      have z1 : c1 a b = 0 := by omega
      have z2 : c1 b d = 0 := by omega
      rw [e]
      exact h2.trans a b d ⟨r1, z1⟩ ⟨r2, z2⟩ (by omega) (by omega)
theorem Ord.key {α : Type} {R : α → α → Prop} (f : α → Int) : Ord R (fun a b => cmI (f a) (f b)) where
  anti a b r := by
    show cmI (f b) (f a) = - cmI (f a) (f b)
    have h1 := cmI_spec (f a) (f b)
    have h2 := cmI_spec (f b) (f a)
    omega
  trans a b d r1 r2 e1 e2 := by
    have e1 : cmI (f a) (f b) ≤ 0 := e1
    have e2 : cmI (f b) (f d) ≤ 0 := e2
    show cmI (f a) (f d) ≤ 0
    have h1 := cmI_spec (f a) (f b)
    have h2 := cmI_spec (f b) (f d)
    have h3 := cmI_spec (f a) (f d)
    omega
theorem Ord.like {α : Type} {R : α → α → Prop} (tr : ∀ a b d, R a b → R b d → R a d) (sy : ∀ a b, R a b → R b a) {c c' : α → α → Int} (h : Ord R c') (e : ∀ a b, R a b → c a b = c' a b) : Ord R c where
  anti a b r := by rw [e a b r, e b a (sy _ _ r)]; exact h.anti a b r
  trans a b d r1 r2 e1 e2 := by
    rw [e a b r1] at e1
    rw [e b d r2] at e2
    rw [e a d (tr _ _ _ r1 r2)]
    exact h.trans a b d r1 r2 e1 e2
theorem Ord.less {α : Type} {R R' : α → α → Prop} {c : α → α → Int} (h : Ord R c) (e : ∀ a b, R' a b → R a b) : Ord R' c :=
  ⟨fun a b r => h.anti a b (e a b r), fun a b d r1 r2 => h.trans a b d (e a b r1) (e b d r2)⟩
theorem Ord.zero {α : Type} {R : α → α → Prop} : Ord R (fun _ _ => (0 : Int)) := ⟨fun _ _ _ => rfl, fun _ _ _ _ _ _ _ => Int.le_refl _⟩
theorem cb_cons (a b : UInt8) (x y : List UInt8) : (a.toNat < b.toNat ∧ compareBytes (a :: x) (b :: y) = -1) ∨ (b.toNat < a.toNat ∧ compareBytes (a :: x) (b :: y) = 1) ∨ (a = b ∧ compareBytes (a :: x) (b :: y) = compareBytes x y) := by
  have e : compareBytes (a :: x) (b :: y) = if a < b then -1 else if b < a then 1 else compareBytes x y := rfl
  rw [e]
  by_cases h : a < b
  · exact .inl ⟨UInt8.lt_iff_toNat_lt.1 h, if_pos h⟩
  · by_cases g : b < a
    · exact .inr (.inl ⟨UInt8.lt_iff_toNat_lt.1 g, by rw [if_neg h, if_pos g]⟩)
    · refine .inr (.inr ⟨?_, by rw [if_neg h, if_neg g]⟩)
      rw [UInt8.lt_iff_toNat_lt] at h g
      exact UInt8.toNat_inj.1 (by omega)
theorem cb_anti : ∀ x y : List UInt8, compareBytes y x = - compareBytes x y
  | [], [] => rfl
  | [], _ :: _ => rfl
  | _ :: _, [] => rfl
  | a :: x, b :: y => by
    have ih := cb_anti x y
    have h1 := cb_cons a b x y
    have h2 := cb_cons b a y x
    have k1 : a = b → a.toNat = b.toNat := fun h => by rw [h]
    have k2 : b = a → b.toNat = a.toNat := fun h => by rw [h]
    rcases h1 with ⟨g, e⟩ | ⟨g, e⟩ | ⟨g, e⟩ <;> rcases h2 with ⟨g2, e2⟩ | ⟨g2, e2⟩ | ⟨g2, e2⟩ <;> first | omega | (have := k1 g; omega) | (have := k2 g2; omega)
theorem cb_trans : ∀ x y z : List UInt8, compareBytes x y ≤ 0 → compareBytes y z ≤ 0 → compareBytes x z ≤ 0
  | [], _, [], _, _ => by decide
  | [], _, _ :: _, _, _ => by show (-1 : Int) ≤ 0; decide
  | a :: x, [], _, h, _ => by
    have : (1 : Int) ≤ 0 := h
    omega
  | a :: x, b :: y, [], _, h => by
    have : (1 : Int) ≤ 0 := h
    omega
  | a :: x, b :: y, d :: z, h, g => by
    have ih := cb_trans x y z
    have k1 : a = b → a.toNat = b.toNat := fun h => by rw [h]
    have k2 : b = d → b.toNat = d.toNat := fun h => by rw [h]
    have k3 : a = d → a.toNat = d.toNat := fun h => by rw [h]
    rcases cb_cons a b x y with ⟨q1, e1⟩ | ⟨q1, e1⟩ | ⟨q1, e1⟩ <;> rcases cb_cons b d y z with ⟨q2, e2⟩ | ⟨q2, e2⟩ | ⟨q2, e2⟩ <;> rcases cb_cons a d x z with ⟨q3, e3⟩ | ⟨q3, e3⟩ | ⟨q3, e3⟩ <;>
      first | omega | (have := k1 q1; omega) | (have := k2 q2; omega) | (have := k3 q3; omega) | (have := k1 q1; have := k2 q2; omega) | (have := k2 q2; have := k3 q3; omega) | (have := k1 q1; have := k3 q3; omega) | (rw [e3]; exact ih (by omega) (by omega))
theorem cb_self (x : List UInt8) : compareBytes x x = 0 := by
  have := cb_anti x x
  omega
theorem cb_zero : ∀ x y : List UInt8, compareBytes x y = 0 → x = y
  | [], [], _ => rfl
  | [], _ :: _, h => by cases (show (-1 : Int) = 0 from h)
  | _ :: _, [], h => by cases (show (1 : Int) = 0 from h)
  | a :: x, b :: y, h => by
    rcases cb_cons a b x y with ⟨q1, e1⟩ | ⟨q1, e1⟩ | ⟨q1, e1⟩
    · omega
    · omega
    · rw [q1, cb_zero x y (by omega)]
/-! ### Values -/
abbrev VT := Int × Int × Int × ByteArray
abbrev okT (a : VT) : Prop := okV a.1 a.2.1 a.2.2.1 a.2.2.2 = true ∧ I64 a.2.1
abbrev cpT (a b : VT) : Int := cpV a.1 a.2.1 a.2.2.1 a.2.2.2 b.1 b.2.1 b.2.2.1 b.2.2.2
abbrev clT (a : VT) : Int := clsV a.1
def cnT (a b : VT) : Int := orL [cmpM a.2.1 a.2.2.1 b.2.1 b.2.2.1, cmI a.1 b.1, cmI a.2.2.1 b.2.2.1]
def cfT (a b : VT) : Int := byF a.1 a.2.1 a.2.2.1 a.2.2.2 b.1 b.2.1 b.2.2.1 b.2.2.2
theorem ok_num {k n m : Int} {s : ByteArray} (h : okV k n m s = true) (hc : clsV k = 2) : sc6 m ∧ s.toList = [] := by
  rcases ok_kind h with rfl | rfl | rfl | rfl | rfl | rfl
  · exact absurd hc (by decide)
  · have h' : (m == 0 && eqE s) = true := h
    simp only [Bool.and_eq_true, beq_iff_eq, eqE] at h'
    obtain ⟨e, h'⟩ := h'
    subst e
    exact ⟨by decide, h'.trans (by rw [Go.ByteArray.toList_eq])⟩
  · have h' : (decide (0 ≤ m) && decide (m ≤ 6) && eqE s) = true := h
    simp only [Bool.and_eq_true, decide_eq_true_eq, beq_iff_eq, eqE] at h'
    exact ⟨h'.1, h'.2.trans (by rw [Go.ByteArray.toList_eq])⟩
  · exact absurd hc (by decide)
  · exact absurd hc (by decide)
  · exact absurd hc (by decide)
theorem cmpI_cmI (x y : Int) : cmpI x y = cmI x y := by
  unfold cmpI cmI
  by_cases h : x < y
  · rw [if_pos h, decide_eq_true h]; rfl
  · rw [if_neg h, decide_eq_false h]
    by_cases g : x > y
    · rw [if_pos g, decide_eq_true g]; rfl
    · rw [if_neg g, decide_eq_false g]; rfl
def nkT (a : VT) : Int := a.2.1 * p10 (6 - a.2.2.1)
abbrev RT (a b : VT) : Prop := okT a ∧ okT b
abbrev RN (a b : VT) : Prop := RT a b ∧ clT a = 2 ∧ clT b = 2
theorem cmpM_key {a b : VT} (h : RN a b) : cmpM a.2.1 a.2.2.1 b.2.1 b.2.2.1 = cmI (nkT a) (nkT b) := by
  rw [cmpZ h.1.1.2 h.1.2.2 (ok_num h.1.1.1 h.2.1).1 (ok_num h.1.2.1 h.2.2).1, cmpI_cmI]
  rfl
theorem ordN : Ord RN cnT := by
  have tr : ∀ a b d, RN a b → RN b d → RN a d := fun a b d h g => ⟨⟨h.1.1, g.1.2⟩, h.2.1, g.2.2⟩
  have sy : ∀ a b, RN a b → RN b a := fun a b h => ⟨⟨h.1.2, h.1.1⟩, h.2.2, h.2.1⟩
  have h := Ord.two (R := RN) tr sy (c1 := fun a b : VT => cmI (nkT a) (nkT b)) (c2 := fun a b : VT => ors (cmI a.1 b.1) (ors (cmI a.2.2.1 b.2.2.1) 0)) (Ord.key nkT)
    (Ord.two (fun a b d h g => ⟨tr a b d h.1 g.1, (Ord.key_zero h.2 g.2)⟩) (fun a b h => ⟨sy a b h.1, Ord.key_sym h.2⟩) (Ord.key fun a : VT => a.1)
      ((Ord.two (R := fun _ _ => True) (fun _ _ _ _ _ => trivial) (fun _ _ _ => trivial) (Ord.key fun a : VT => a.2.2.1) Ord.zero).less fun _ _ _ => trivial))
  exact h.like tr sy (fun a b r => by
    show orL _ = ors _ _
    rw [cmpM_key r]
    rfl)
theorem ordF : Ord (fun _ _ : VT => True) cfT := by
  have tr : ∀ a b d : VT, True → True → True := fun _ _ _ _ _ => trivial
  have sy : ∀ a b : VT, True → True := fun _ _ _ => trivial
  have hb : Ord (fun _ _ : VT => True) (fun a b : VT => compareBytes a.2.2.2.data.toList b.2.2.2.data.toList) := ⟨fun a b _ => cb_anti _ _, fun a b d _ _ => cb_trans _ _ _⟩
  have h0 := Ord.two tr sy hb (Ord.zero (R := fun a b : VT => True ∧ compareBytes a.2.2.2.data.toList b.2.2.2.data.toList = 0))
  have h1 := Ord.two tr sy (Ord.key fun a : VT => a.2.2.1) (h0.less fun _ _ _ => trivial)
  have h2 := Ord.two tr sy (Ord.key fun a : VT => a.2.1) (h1.less fun _ _ _ => trivial)
  exact Ord.two tr sy (Ord.key fun a : VT => a.1) (h2.less fun _ _ _ => trivial)
theorem cpT_eq {a b : VT} (h : RT a b) : cpT a b = ors (cmI (clT a) (clT b)) (bif clT a == 2 then cnT a b else cfT a b) := by
  show cpV _ _ _ _ _ _ _ _ = _
  unfold cpV
  rw [h.1.1, h.2.1]
  rfl
theorem ordV : Ord RT cpT := by
  have tr : ∀ a b d, RT a b → RT b d → RT a d := fun a b d h g => ⟨h.1, g.2⟩
  have sy : ∀ a b, RT a b → RT b a := fun a b h => ⟨h.2, h.1⟩
  refine (Ord.two tr sy (Ord.key clT) (c2 := fun a b => bif clT a == 2 then cnT a b else cfT a b) ⟨fun a b r => ?_, fun a b d r1 r2 e1 e2 => ?_⟩).like tr sy (fun a b r => cpT_eq r)
  · have e := Ord.key_eq r.2
    show (bif clT b == 2 then cnT b a else cfT b a) = - (bif clT a == 2 then cnT a b else cfT a b)
    rw [← e]
    cases hc : (clT a == 2)
    · exact ordF.anti a b trivial
    · have := eq_of_beq hc
      exact ordN.anti a b ⟨r.1, this, by omega⟩
  · have g1 := Ord.key_eq r1.2
    have g2 := Ord.key_eq r2.2
    have e1 : (bif clT a == 2 then cnT a b else cfT a b) ≤ 0 := e1
    have e2 : (bif clT b == 2 then cnT b d else cfT b d) ≤ 0 := e2
    show (bif clT a == 2 then cnT a d else cfT a d) ≤ 0
    rw [← g1] at e2
    cases hc : (clT a == 2)
    · rw [hc] at e1 e2
      exact ordF.trans a b d trivial trivial e1 e2
    · rw [hc] at e1 e2
      have := eq_of_beq hc
      exact ordN.trans a b d ⟨r1.1, this, by omega⟩ ⟨r2.1, by omega, by omega⟩ e1 e2
theorem cp_zero {a b : VT} (h : RT a b) (z : cpT a b = 0) : a = b := by
  rw [cpT_eq h] at z
  have s1 := ors_spec (cmI (clT a) (clT b)) (bif clT a == 2 then cnT a b else cfT a b)
  have hcl : cmI (clT a) (clT b) = 0 := by omega
  have e := Ord.key_eq hcl
  have z : (bif clT a == 2 then cnT a b else cfT a b) = 0 := by omega
  have key : ∀ {x y : Int}, cmI x y = 0 → x = y := fun {x y} hh => Ord.key_eq hh
  cases hc : (clT a == 2)
  · rw [hc] at z
    have z' : ors (cmI a.1 b.1) (ors (cmI a.2.1 b.2.1) (ors (cmI a.2.2.1 b.2.2.1) (ors (compareBytes a.2.2.2.data.toList b.2.2.2.data.toList) 0))) = 0 := z
    have t1 := ors_spec (cmI a.1 b.1) (ors (cmI a.2.1 b.2.1) (ors (cmI a.2.2.1 b.2.2.1) (ors (compareBytes a.2.2.2.data.toList b.2.2.2.data.toList) 0)))
    have t2 := ors_spec (cmI a.2.1 b.2.1) (ors (cmI a.2.2.1 b.2.2.1) (ors (compareBytes a.2.2.2.data.toList b.2.2.2.data.toList) 0))
    have t3 := ors_spec (cmI a.2.2.1 b.2.2.1) (ors (compareBytes a.2.2.2.data.toList b.2.2.2.data.toList) 0)
    have t4 := ors_spec (compareBytes a.2.2.2.data.toList b.2.2.2.data.toList) 0
    have k1 := key (x := a.1) (y := b.1) (by omega)
    have k2 := key (x := a.2.1) (y := b.2.1) (by omega)
    have k3 := key (x := a.2.2.1) (y := b.2.2.1) (by omega)
    have k4 := cb_zero a.2.2.2.data.toList b.2.2.2.data.toList (by omega)
    obtain ⟨a1, a2, a3, a4⟩ := a
    obtain ⟨b1, b2, b3, b4⟩ := b
    simp only at k1 k2 k3 k4
    have k4' : a4 = b4 := by
      cases a4; cases b4
      simp only at k4
      congr 1
      exact Array.toList_inj.1 k4
    rw [k1, k2, k3, k4']
  · rw [hc] at z
    have hc2 := eq_of_beq hc
    have r : RN a b := ⟨h, hc2, by omega⟩
    have z' : ors (cmpM a.2.1 a.2.2.1 b.2.1 b.2.2.1) (ors (cmI a.1 b.1) (ors (cmI a.2.2.1 b.2.2.1) 0)) = 0 := z
    rw [cmpM_key r] at z'
    have t1 := ors_spec (cmI (nkT a) (nkT b)) (ors (cmI a.1 b.1) (ors (cmI a.2.2.1 b.2.2.1) 0))
    have t2 := ors_spec (cmI a.1 b.1) (ors (cmI a.2.2.1 b.2.2.1) 0)
    have t3 := ors_spec (cmI a.2.2.1 b.2.2.1) 0
    have k0 := key (x := nkT a) (y := nkT b) (by omega)
    have k1 := key (x := a.1) (y := b.1) (by omega)
    have k3 := key (x := a.2.2.1) (y := b.2.2.1) (by omega)
    have o1 := ok_num h.1.1 r.2.1
    have o2 := ok_num h.2.1 r.2.2
    obtain ⟨a1, a2, a3, a4⟩ := a
    obtain ⟨b1, b2, b3, b4⟩ := b
    simp only at k1 k3 o1 o2
    unfold nkT at k0
    simp only at k0
    subst k3
    have hp := p10_le (z := 6 - a3) (by omega)
    have k2 : a2 = b2 := Int.eq_of_mul_eq_mul_right (by omega) k0
    have k4 : a4 = b4 := by
      have h1 : a4.data.toList = [] := by rw [← Go.ByteArray.toList_eq]; exact o1.2
      have h2 : b4.data.toList = [] := by rw [← Go.ByteArray.toList_eq]; exact o2.2
      cases a4; cases b4
      simp only at h1 h2
      congr 1
      exact Array.toList_inj.1 (h1.trans h2.symm)
    rw [k1, k2, k4]
theorem cp_self {a : VT} (h : okT a) : cpT a a = 0 := by
  have := ordV.anti a a ⟨h, h⟩
  omega
theorem same_eq (k n m : Int) (s : ByteArray) (j p q : Int) (u : ByteArray) : sameV k n m s j p q u = true ↔ ((k, n, m, s) : VT) = (j, p, q, u) := by
  unfold sameV
  simp only [Bool.and_eq_true, beq_iff_eq, Prod.mk.injEq]
  constructor
  · rintro ⟨⟨⟨a, b⟩, c⟩, d⟩
    refine ⟨a, b, c, ?_⟩
    rw [Go.ByteArray.toList_eq, Go.ByteArray.toList_eq] at d
    cases s; cases u
    simp only at d
    congr 1
    exact Array.toList_inj.1 d
  · rintro ⟨a, b, c, d⟩
    subst d
    exact ⟨⟨⟨a, b⟩, c⟩, rfl⟩
theorem cp_same {k n m : Int} {s : ByteArray} {j p q : Int} {u : ByteArray} (h1 : okV k n m s = true) (h2 : okV j p q u = true) (hn : I64 n) (hp : I64 p) : (cpV k n m s j p q u == 0) = sameV k n m s j p q u := by
  rw [Bool.eq_iff_iff, beq_iff_eq, same_eq]
  constructor
  · intro z
    exact cp_zero (a := (k, n, m, s)) (b := (j, p, q, u)) ⟨⟨h1, hn⟩, h2, hp⟩ z
  · intro e
    cases e
    exact cp_self (a := (k, n, m, s)) ⟨h1, hn⟩
theorem cmI_b (x y : Int) : -1 ≤ cmI x y ∧ cmI x y ≤ 1 := by
  have := cmI_spec x y
  omega
theorem ors_b {x y : Int} (hx : -1 ≤ x ∧ x ≤ 1) (hy : -1 ≤ y ∧ y ≤ 1) : -1 ≤ ors x y ∧ ors x y ≤ 1 := by
  have := ors_spec x y
  omega
theorem cb_b : ∀ x y : List UInt8, -1 ≤ compareBytes x y ∧ compareBytes x y ≤ 1
  | [], [] => by decide
  | [], _ :: _ => by show (-1 : Int) ≤ -1 ∧ (-1 : Int) ≤ 1; decide
  | _ :: _, [] => by show (-1 : Int) ≤ 1 ∧ (1 : Int) ≤ 1; decide
  | a :: x, b :: y => by
    have ih := cb_b x y
    have := cb_cons a b x y
    omega
theorem cmpM_b (u x v y : Int) : -1 ≤ cmpM u x v y ∧ cmpM u x v y ≤ 1 := by
  unfold cmpM
  split
  · split
    · decide
    · split <;> decide
  · decide
theorem cp_b {a b : VT} (h : RT a b) : -1 ≤ cpT a b ∧ cpT a b ≤ 1 := by
  rw [cpT_eq h]
  have z0 : (-1 : Int) ≤ 0 ∧ (0 : Int) ≤ 1 := by decide
  refine ors_b (cmI_b _ _) ?_
  cases hc : (clT a == 2)
  · exact ors_b (cmI_b _ _) (ors_b (cmI_b _ _) (ors_b (cmI_b _ _) (ors_b (cb_b _ _) z0)))
  · exact ors_b (cmpM_b _ _ _ _) (ors_b (cmI_b _ _) (ors_b (cmI_b _ _) z0))
end Go.Proofs.YtnchjdhepakokaaGreatDoorC
/- Rows: the loops, told. -/
namespace Go.Proofs.YtnchjdhepakokaaGreatDoorC
open Go.Proofs Go.Proofs.YtnchjdhepakokaaGreatDoorSx Go.Lib
set_option maxRecDepth 100000
set_option linter.unusedVariables false
set_option linter.unusedSimpArgs false
theorem ix_loop (r : List VZ) (hv : Vals r) (hl : r.length ≤ 4000000000000) : ∀ (m i : Nat), i + m = r.length → Fin cE Tryz.f148 1 (.v (it (ixL (r.drop i) i))) (vT r) 1 (inK ixK (m + 1)) (ixS r i) (vT r) 1 := by
  intro m
  induction m with
  | zero =>
    intro i hi
    refine fin_round ?_
    have h := pIxb_fin r i 0 (it 0) (by omega) hl (vals_at hv i).2.2 (fun c1 => absurd (of_decide_eq_true c1) (by omega))
    have e : pIxb r i 0 (it 0) = it (ixL (r.drop i) i) := by
      unfold pIxb
      rw [decide_eq_false (by omega), List.drop_of_length_le (by omega)]
      rfl
    rw [e] at h
    exact h
  | succ m ih =>
    intro i hi
    refine fin_round ?_
    have h := pIxb_fin r i (m + 1) (it (ixL (r.drop (i + 1)) ((i + 1 : Nat) : Int))) (by omega) hl (vals_at hv i).2.2 (fun c1 c2 => by
      rw [wsuc (by omega : i < r.length) hl]
      exact ih (i + 1) (by omega))
    have e : pIxb r i (m + 1) (it (ixL (r.drop (i + 1)) ((i + 1 : Nat) : Int))) = it (ixL (r.drop i) i) := by
      unfold pIxb
      rw [decide_eq_true (by omega), drop_at (by omega : i < r.length)]
      show (bif (!okZ (r.getD i d0)) then it i else it (ixL (r.drop (i + 1)) ((i + 1 : Nat) : Int))) = it (bif !okZ (r.getD i d0) then (i : Int) else ixL (r.drop (i + 1)) ((i : Int) + 1))
      cases okZ (r.getD i d0) <;> rfl
    rw [e] at h
    exact h
theorem ix_nil (r : List VZ) (hv : Vals r) (hl : r.length ≤ 4000000000000) : Does cE 148 (vT r) 1 [.o 0, .v (.func (.func 130) #[] #[])] (.v (it (ixL r 0))) [] 1 := by
  refine Does.nil (T' := vT r) ?_ rfl
  refine does_of_fin (fn := Tryz.f148) (c := bd Tryz.f148) rfl (by kernel_rfl) rfl ?_
  exact pIxa_fin r (.v (it (ixL r 0)), vT r, 1) (fin_loop (r.length + 1) (ix_loop r hv hl r.length 0 (by omega)))
theorem rw_loop (r : List VZ) (hv : Vals r) (hl : r.length ≤ 4000000000000) : ∀ (m i : Nat), i + m = r.length → Fin cE Tryz.f37 1 (.v (.bool (decide (r.length ≤ 64) && (r.drop i).all okZ))) (vT r) 1 (inK rwK (m + 1)) (rwS i) (vT r) 1 := by
  intro m
  induction m with
  | zero =>
    intro i hi
    refine fin_round ?_
    have h := rRwb_fin r i 0 (it 0) (by omega) hl (vals_at hv i).2.2 (fun c1 => absurd (of_decide_eq_true c1) (by omega))
    have e : rRwb r i 0 (it 0) = .bool (decide (r.length ≤ 64) && (r.drop i).all okZ) := by
      unfold rRwb
      rw [decide_eq_false (by omega : ¬ (i : Int) < r.length), List.drop_of_length_le (by omega)]
      show Value.bool (decide ((r.length : Int) ≤ 64)) = Value.bool (decide (r.length ≤ 64) && true)
      rw [Bool.and_true]
      congr 1
      rw [Bool.eq_iff_iff]
      simp
      omega
    rw [e] at h
    exact h
  | succ m ih =>
    intro i hi
    refine fin_round ?_
    have h := rRwb_fin r i (m + 1) (.bool (decide (r.length ≤ 64) && (r.drop (i + 1)).all okZ)) (by omega) hl (vals_at hv i).2.2 (fun c1 c2 => by
      rw [wsuc (by omega : i < r.length) hl]
      exact ih (i + 1) (by omega))
    have e : rRwb r i (m + 1) (.bool (decide (r.length ≤ 64) && (r.drop (i + 1)).all okZ)) = .bool (decide (r.length ≤ 64) && (r.drop i).all okZ) := by
      unfold rRwb
      rw [decide_eq_true (by omega : (i : Int) < r.length), drop_at (by omega : i < r.length), List.all_cons]
      show (bif (!okZ (r.getD i d0)) then Value.bool false else _) = _
      cases okZ (r.getD i d0)
      · simp
      · rfl
    rw [e] at h
    exact h
theorem rrow_does (r : List VZ) (hv : Vals r) (hl : r.length ≤ 4000000000000) : Does cE 37 (vT r) 1 [.o 0] (.v (.bool (rowV r))) [] 1 := by
  refine Does.nil (T' := vT r) ?_ rfl
  refine does_of_fin (fn := Tryz.f37) (c := bd Tryz.f37) rfl (by kernel_rfl) rfl ?_
  exact rRwa_fin r (.v (.bool (rowV r)), vT r, 1) (fin_loop (r.length + 1) (rw_loop r hv hl r.length 0 (by omega)))
theorem cf_end {r q : List VZ} {i : Nat} (hi : i = r.length) : (bif decide ((r.length : Int) < (q.length : Int)) then it (-1) else it 0) = it (cfL (r.drop i) (q.drop i)) ∨ q.length < i := by
  by_cases h : q.length < i
  · exact .inr h
  · refine .inl ?_
    rw [List.drop_of_length_le (by omega : r.length ≤ i)]
    by_cases h2 : q.length = i
    · rw [List.drop_of_length_le (by omega : q.length ≤ i), decide_eq_false (by omega)]; rfl
    · rw [drop_at (by omega : i < q.length), decide_eq_true (by omega)]; rfl
theorem cf_loop (r q : List VZ) (hv : Vals r) (hq : Vals q) (hl : r.length ≤ 4000000000000) (hj : q.length ≤ 4000000000000) : ∀ (m i : Nat), i + m = r.length → i ≤ q.length → Fin cE Tryz.f131 2 (.v (it (cfL (r.drop i) (q.drop i)))) (vvT r q) 2 (inK cfK (m + 1)) (cfS r i) (vvT r q) 2 := by
  intro m
  induction m with
  | zero =>
    intro i hi hiq
    refine fin_round ?_
    have h := pCfb_fin r q i 0 (it 0) (by omega) hl (vals_at hv i).2.2 (vals_at hv i).1 (vals_at hv i).2.1 hj (vals_at hq i).2.2 (vals_at hq i).1 (vals_at hq i).2.1 (fun c1 => absurd (of_decide_eq_true c1) (by omega))
    have e : pCfb r q i 0 (it 0) = it (cfL (r.drop i) (q.drop i)) := by
      unfold pCfb
      rw [decide_eq_false (by omega : ¬ (i : Int) < r.length)]
      rcases cf_end (r := r) (q := q) (i := i) (by omega) with e | e
      · exact e
      · omega
    rw [e] at h
    exact h
  | succ m ih =>
    intro i hi hiq
    refine fin_round ?_
    have h := pCfb_fin r q i (m + 1) (it (cfL (r.drop (i + 1)) (q.drop (i + 1)))) (by omega) hl (vals_at hv i).2.2 (vals_at hv i).1 (vals_at hv i).2.1 hj (vals_at hq i).2.2 (vals_at hq i).1 (vals_at hq i).2.1 (fun c1 c2 c3 => by
      rw [wsuc (by omega : i < r.length) hl]
      have := of_decide_eq_false c2
      exact ih (i + 1) (by omega) (by omega))
    have e : pCfb r q i (m + 1) (it (cfL (r.drop (i + 1)) (q.drop (i + 1)))) = it (cfL (r.drop i) (q.drop i)) := by
      unfold pCfb
      rw [decide_eq_true (by omega : (i : Int) < r.length), drop_at (by omega : i < r.length)]
      by_cases h2 : i < q.length
      · rw [decide_eq_false (by omega : ¬ (i : Int) ≥ q.length), drop_at h2]
        show (bif (cpZ (r.getD i d0) (q.getD i d0) != 0) then it (cpZ (r.getD i d0) (q.getD i d0)) else it (cfL (r.drop (i + 1)) (q.drop (i + 1)))) = it (bif cpZ (r.getD i d0) (q.getD i d0) != 0 then cpZ (r.getD i d0) (q.getD i d0) else cfL (r.drop (i + 1)) (q.drop (i + 1)))
        cases (cpZ (r.getD i d0) (q.getD i d0) != 0) <;> rfl
      · rw [decide_eq_true (by omega : (i : Int) ≥ q.length), List.drop_of_length_le (by omega : q.length ≤ i)]
        rfl
    rw [e] at h
    exact h
theorem cf_nil (r q : List VZ) (hv : Vals r) (hl : r.length ≤ 4000000000000) (hq : Vals q) (hj : q.length ≤ 4000000000000) : Does cE 131 (vvT r q) 2 [.o 0, .o 1, .v (.func (.func 48) #[] #[])] (.v (it (cfL r q))) [] 2 := by
  refine Does.nil (T' := vvT r q) ?_ rfl
  refine does_of_fin (fn := Tryz.f131) (c := bd Tryz.f131) rfl (by kernel_rfl) rfl ?_
  exact pCfa_fin r q (.v (it (cfL r q)), vvT r q, 2) (fin_loop (r.length + 1) (cf_loop r q hv hq hl hj r.length 0 (by omega) (by omega)))
theorem cmI_len (a b : Nat) : cmI a b = bif decide (a < b) then -1 else bif decide (b < a) then 1 else 0 := by
  have h := cmI_spec a b
  by_cases h1 : a < b
  · rw [decide_eq_true h1]; show _ = (-1 : Int); omega
  · rw [decide_eq_false h1]
    by_cases h2 : b < a
    · rw [decide_eq_true h2]; show _ = (1 : Int); omega
    · rw [decide_eq_false h2]; show _ = (0 : Int); omega
theorem rs_end {r q : List VZ} {i : Nat} (hi : i ≤ r.length) (hiq : i ≤ q.length) (h : ¬ i < r.length ∨ ¬ i < q.length) : cmI r.length q.length = cfL (r.drop i) (q.drop i) := by
  rw [cmI_len]
  by_cases h1 : i < r.length
  · rw [drop_at h1, List.drop_of_length_le (by omega : q.length ≤ i), decide_eq_false (by omega), decide_eq_true (by omega)]; rfl
  · rw [List.drop_of_length_le (by omega : r.length ≤ i)]
    by_cases h2 : i < q.length
    · rw [drop_at h2, decide_eq_true (by omega)]; rfl
    · rw [List.drop_of_length_le (by omega : q.length ≤ i), decide_eq_false (by omega), decide_eq_false (by omega)]; rfl
theorem rs_loop (r q : List VZ) (hv : Vals r) (hq : Vals q) (hl : r.length ≤ 4000000000000) (hj : q.length ≤ 4000000000000) : ∀ (m i : Nat), i + m = r.length → i ≤ q.length → Fin cE Tryz.f54 2 (.v (it (cfL (r.drop i) (q.drop i)))) (vvT r q) 2 (inK rsK (m + 1)) (rsS i) (vvT r q) 2 := by
  intro m
  induction m with
  | zero =>
    intro i hi hiq
    refine fin_round ?_
    have h := rRsb_fin r q i 0 (it 0) (by omega) hl (vals_at hv i).2.2 (vals_at hv i).1 (vals_at hv i).2.1 hj (vals_at hq i).2.2 (vals_at hq i).1 (vals_at hq i).2.1 (fun c1 => absurd (of_decide_eq_true c1) (by omega))
    have e : rRsb r q i 0 (it 0) = it (cfL (r.drop i) (q.drop i)) := by
      unfold rRsb
      rw [decide_eq_false (by omega : ¬ (i : Int) < r.length), ← rs_end (by omega) hiq (.inl (by omega))]
      rfl
    rw [e] at h
    exact h
  | succ m ih =>
    intro i hi hiq
    refine fin_round ?_
    have h := rRsb_fin r q i (m + 1) (it (cfL (r.drop (i + 1)) (q.drop (i + 1)))) (by omega) hl (vals_at hv i).2.2 (vals_at hv i).1 (vals_at hv i).2.1 hj (vals_at hq i).2.2 (vals_at hq i).1 (vals_at hq i).2.1 (fun c1 c2 c3 => by
      rw [wsuc (by omega : i < r.length) hl]
      have := of_decide_eq_true c2
      exact ih (i + 1) (by omega) (by omega))
    have e : rRsb r q i (m + 1) (it (cfL (r.drop (i + 1)) (q.drop (i + 1)))) = it (cfL (r.drop i) (q.drop i)) := by
      unfold rRsb
      rw [decide_eq_true (by omega : (i : Int) < r.length)]
      by_cases h2 : i < q.length
      · rw [decide_eq_true (by omega : (i : Int) < q.length), drop_at (by omega : i < r.length), drop_at h2]
        show (bif (cpZ (r.getD i d0) (q.getD i d0) != 0) then it (cpZ (r.getD i d0) (q.getD i d0)) else it (cfL (r.drop (i + 1)) (q.drop (i + 1)))) = it (bif cpZ (r.getD i d0) (q.getD i d0) != 0 then cpZ (r.getD i d0) (q.getD i d0) else cfL (r.drop (i + 1)) (q.drop (i + 1)))
        cases (cpZ (r.getD i d0) (q.getD i d0) != 0) <;> rfl
      · rw [decide_eq_false (by omega : ¬ (i : Int) < q.length), ← rs_end (by omega) hiq (.inr h2)]
        rfl
    rw [e] at h
    exact h
theorem rrows_does (r q : List VZ) (hv : Vals r) (hl : r.length ≤ 4000000000000) (hq : Vals q) (hj : q.length ≤ 4000000000000) : Does cE 54 (vvT r q) 2 [.o 0, .o 1] (.v (it (cfL r q))) [] 2 := by
  refine Does.nil (T' := vvT r q) ?_ rfl
  refine does_of_fin (fn := Tryz.f54) (c := bd Tryz.f54) rfl (by kernel_rfl) rfl ?_
  exact rRsa_fin r q (.v (it (cfL r q)), vvT r q, 2) (fin_loop (r.length + 1) (rs_loop r q hv hq hl hj r.length 0 (by omega) (by omega)))
theorem room40 {n : Nat} (h : n ≤ 4000000000000) : Room (0 + n) 40 := by
  unfold Room
  refine ⟨?_, by omega⟩
  have : maxLen = 9223372036854775807 := rfl
  omega
theorem ix_all (r : List VZ) : ∀ i : Int, 0 ≤ i → decide (ixL r i ≥ 0) = !r.all okZ := by
  induction r with
  | nil => intro i h; rfl
  | cons z r ih =>
    intro i h
    unfold ixL
    rw [List.all_cons]
    cases okZ z
    · show decide (i ≥ 0) = true
      exact decide_eq_true h
    · exact ih (i + 1) (by omega)
end Go.Proofs.YtnchjdhepakokaaGreatDoorC
/- Rows. Printed by a program (wip/tools); Lean checks each. -/
namespace Go.Proofs.YtnchjdhepakokaaGreatDoorC
open Go.Proofs Go.Proofs.YtnchjdhepakokaaGreatDoorSx Go.Lib
set_option maxRecDepth 100000
set_option linter.unusedVariables false
def pCn (r : List (Int × Int × Int × ByteArray)) : Value :=
  (.bool (decide (ixL r 0 ≥ 0)))
theorem pCn_does (r : List (Int × Int × Int × ByteArray)) (hv : Vals r) (hl : r.length ≤ 4000000000000) : Does cE 63 (vT r) 1 [.o 0, .v (.func (.func 130) #[] #[])] (.v (pCn r)) [(0, .ro 25 (r) false)] 1 := by
  unfold pCn
  exact pth (fn := Tryz.f63) rfl (by kernel_rfl) [.c (.v (.int .i64 (ixL r 0))) [] 1] (by kernel_rfl) (cj (ix_nil (r) (by first | assumption | decide) (by first | assumption | decide)) cj0)
def pRs (r q : List (Int × Int × Int × ByteArray)) : Value :=
  (.int .i64 (cfL r q))
theorem pRs_does (r q : List (Int × Int × Int × ByteArray)) (hv : Vals r) (hl : r.length ≤ 4000000000000) (hq : Vals q) (hj : q.length ≤ 4000000000000) : Does cE 53 (vvT r q) 2 [.o 0, .o 1] (.v (pRs r q)) [(0, .ro 25 (r) false), (1, .ro 25 (q) false)] 2 := by
  unfold pRs
  exact pth (fn := Tryz.f53) rfl (by kernel_rfl) [.c (.v (.int .i64 (cfL r q))) [] 2] (by kernel_rfl) (cj (cf_nil (r) (q) (by first | assumption | decide) (by first | assumption | decide) (by first | assumption | decide) (by first | assumption | decide)) cj0)
end Go.Proofs.YtnchjdhepakokaaGreatDoorC
/- Rows: told. -/
namespace Go.Proofs.YtnchjdhepakokaaGreatDoorC
open Go.Proofs Go.Proofs.YtnchjdhepakokaaGreatDoorSx Go.Lib
set_option maxRecDepth 100000
set_option linter.unusedVariables false
theorem cont_nil (r : List VZ) (hv : Vals r) (hl : r.length ≤ 4000000000000) : Does cE 63 (vT r) 1 [.o 0, .v (.func (.func 130) #[] #[])] (.v (.bool (decide (ixL r 0 ≥ 0)))) [] 1 := Does.nil (pCn_does r hv hl) rfl
theorem rows_does (r q : List VZ) (hv : Vals r) (hl : r.length ≤ 4000000000000) (hq : Vals q) (hj : q.length ≤ 4000000000000) : Does cE 53 (vvT r q) 2 [.o 0, .o 1] (.v (it (cfL r q))) [] 2 := Does.nil (pRs_does r q hv hl hq hj) rfl
end Go.Proofs.YtnchjdhepakokaaGreatDoorC
/- A row. Printed by a program (wip/tools); Lean checks each. -/
namespace Go.Proofs.YtnchjdhepakokaaGreatDoorC
open Go.Proofs Go.Proofs.YtnchjdhepakokaaGreatDoorSx Go.Lib
set_option maxRecDepth 100000
set_option linter.unusedVariables false
def pRo (r : List (Int × Int × Int × ByteArray)) : Value :=
  bif (decide ((r.length : Int) ≤ 64)) then (.bool (!decide (ixL r 0 ≥ 0)))
  else (.bool (false))
theorem pRo_does (r : List (Int × Int × Int × ByteArray)) (hv : Vals r) (hl : r.length ≤ 4000000000000) : Does cE 52 (vT r) 1 [.o 0] (.v (pRo r)) [(0, .ro 25 (r) false)] 1 := by
  unfold pRo
  refine tbif (fun c1 => ?_) (fun c1 => ?_)
  · exact pth (fn := Tryz.f52) rfl (by kernel_rfl) [.t, .t, .c (.v (.bool (decide (ixL r 0 ≥ 0)))) [] 1, .t, .t] (by kernel_rfl) (cj c1 (cj c1 (cj (cont_nil (r) (by first | assumption | decide) (by first | assumption | decide)) (cj c1 (cj c1 cj0)))))
  · exact pth (fn := Tryz.f52) rfl (by kernel_rfl) [.f, .f, .f, .f] (by kernel_rfl) (cj c1 (cj c1 (cj c1 (cj c1 cj0))))
end Go.Proofs.YtnchjdhepakokaaGreatDoorC
/- May a row be: told. -/
namespace Go.Proofs.YtnchjdhepakokaaGreatDoorC
open Go.Proofs Go.Proofs.YtnchjdhepakokaaGreatDoorSx Go.Lib
set_option maxRecDepth 100000
set_option linter.unusedVariables false
theorem row_does (r : List VZ) (hv : Vals r) (hl : r.length ≤ 4000000000000) : Does cE 52 (vT r) 1 [.o 0] (.v (.bool (rowV r))) [] 1 := by
  have h := Does.nil (pRo_does r hv hl) rfl
  have e : pRo r = .bool (rowV r) := by
    unfold pRo rowV
    rw [ix_all r 0 (Int.le_refl _), Bool.not_not]
    by_cases h : r.length ≤ 64
    · rw [decide_eq_true (by omega : (r.length : Int) ≤ 64), decide_eq_true h]; rfl
    · rw [decide_eq_false (by omega : ¬ (r.length : Int) ≤ 64), decide_eq_false h]; rfl
  rw [e] at h
  exact h
end Go.Proofs.YtnchjdhepakokaaGreatDoorC
/-
  DERIVED: THE SHELF's CONTRACTS AT THIS DUMP, IN PLAIN WORDS (tools/lay-plain.mjs out of 'YtnchjdhepakokaaGreatDoorSRx.lean', which tools/lay-shelf.mjs wrote): THE SAME DECLARATIONS UNDER THE SAME NAMES: 'import', 'namespace', 'open', 'def', 'theorem' AND NOTHING ELSE: no command of the shelf's: FOR A HAND-IN. Each laying: the table of numbers ('.._ren') and one theorem, a field a fact of the dump's own or the kernel's comparison; each contract: ONE APPLICATION.
-/
namespace Go.Proofs
open Go.Shelf
def Tryz.laysReplaceAll_ren : Go.Shelf.Ren := ⟨fun | 155 => 114 | 154 => 195 | 138 => 259 | 165 => 255 | 143 => 251 | 166 => 256 | 197 => 260 | 169 => 258 | 195 => 293 | 218 => 294 | 240 => 291 | 241 => 292 | 219 => 284 | 260 => 295 | 276 => 322 | 277 => 323 | 217 => 313 | 225 => 314 | 224 => 315 | 267 => 316 | 266 => 335 | 314 => 336 | n => n, fun | 9 => 9 | 3 => 3 | 4 => 4 | 72 => 277 | 0 => 0 | 76 => 270 | 105 => 279 | 21 => 21 | 5 => 5 | 70 => 275 | 20 => 20 | 37 => 79 | 75 => 269 | 127 => 306 | 164 => 324 | 46 => 226 | 119 => 222 | 139 => 225 | 138 => 224 | 146 => 304 | 51 => 303 | 80 => 161 | n => n, fun | 1 => 3 | 3 => 0 | 4 => 1 | n => n⟩
theorem Tryz.laysReplaceAll : Go.Proofs.Lays.n155 Tryz.prog Tryz.laysReplaceAll_ren := {
  mixed := by kernel_rfl
  f138 := Tryz.func259.trans (congrArg some (by kernel_rfl))
  f143 := Tryz.func251.trans (congrArg some (by kernel_rfl))
  f154 := Tryz.func195.trans (congrArg some (by kernel_rfl))
  f155 := Tryz.func114.trans (congrArg some (by kernel_rfl))
  f165 := Tryz.func255.trans (congrArg some (by kernel_rfl))
  f166 := Tryz.func256.trans (congrArg some (by kernel_rfl))
  f169 := Tryz.func258.trans (congrArg some (by kernel_rfl))
  f195 := Tryz.func293.trans (congrArg some (by kernel_rfl))
  f197 := Tryz.func260.trans (congrArg some (by kernel_rfl))
  f217 := Tryz.func313.trans (congrArg some (by kernel_rfl))
  f218 := Tryz.func294.trans (congrArg some (by kernel_rfl))
  f219 := Tryz.func284.trans (congrArg some (by kernel_rfl))
  f224 := Tryz.func315.trans (congrArg some (by kernel_rfl))
  f225 := Tryz.func314.trans (congrArg some (by kernel_rfl))
  f240 := Tryz.func291.trans (congrArg some (by kernel_rfl))
  f241 := Tryz.func292.trans (congrArg some (by kernel_rfl))
  f260 := Tryz.func295.trans (congrArg some (by kernel_rfl))
  f266 := Tryz.func335.trans (congrArg some (by kernel_rfl))
  f267 := Tryz.func316.trans (congrArg some (by kernel_rfl))
  f276 := Tryz.func322.trans (congrArg some (by kernel_rfl))
  f277 := Tryz.func323.trans (congrArg some (by kernel_rfl))
  f314 := Tryz.func336.trans (congrArg some (by kernel_rfl))
  t0 := Tryz.underlying0
  a0 := Tryz.isAgg0
  z0 := Tryz.sizeOf0
  v0 := Tryz.zeroValue0
  t3 := Tryz.underlying3
  a3 := Tryz.isAgg3
  z3 := Tryz.sizeOf3
  v3 := Tryz.zeroValue3
  t4 := Tryz.underlying4
  a4 := Tryz.isAgg4
  z4 := Tryz.sizeOf4
  v4 := Tryz.zeroValue4
  t5 := Tryz.underlying5
  a5 := Tryz.isAgg5
  z5 := Tryz.sizeOf5
  v5 := Tryz.zeroValue5
  t9 := Tryz.underlying9
  a9 := Tryz.isAgg9
  z9 := Tryz.sizeOf9
  v9 := Tryz.zeroValue9
  t20 := Tryz.underlying20
  a20 := Tryz.isAgg20
  z20 := Tryz.sizeOf20
  v20 := Tryz.zeroValue20
  t21 := Tryz.underlying21
  a21 := Tryz.isAgg21
  z21 := Tryz.sizeOf21
  v21 := Tryz.zeroValue21
  t37 := Tryz.underlying79
  a37 := Tryz.isAgg79
  z37 := Tryz.sizeOf79
  v37 := Tryz.zeroValue79
  t46 := Tryz.underlying226
  a46 := Tryz.isAgg226
  z46 := Tryz.sizeOf226
  v46 := Tryz.zeroValue226
  t51 := Tryz.underlying303
  a51 := Tryz.isAgg303
  z51 := Tryz.sizeOf303
  v51 := Tryz.zeroValue303
  t70 := Tryz.underlying275
  a70 := Tryz.isAgg275
  z70 := Tryz.sizeOf275
  v70 := Tryz.zeroValue275
  t72 := Tryz.underlying277
  a72 := Tryz.isAgg277
  z72 := Tryz.sizeOf277
  v72 := Tryz.zeroValue277
  t75 := Tryz.underlying269
  a75 := Tryz.isAgg269
  z75 := Tryz.sizeOf269
  v75 := Tryz.zeroValue269
  t76 := Tryz.underlying270
  a76 := Tryz.isAgg270
  z76 := Tryz.sizeOf270
  v76 := Tryz.zeroValue270
  t105 := Tryz.underlying279
  a105 := Tryz.isAgg279
  z105 := Tryz.sizeOf279
  v105 := Tryz.zeroValue279
  t119 := Tryz.underlying222
  a119 := Tryz.isAgg222
  z119 := Tryz.sizeOf222
  t127 := Tryz.underlying306
  a127 := Tryz.isAgg306
  z127 := Tryz.sizeOf306
  v127 := Tryz.zeroValue306
  t138 := Tryz.underlying224
  a138 := Tryz.isAgg224
  z138 := Tryz.sizeOf224
  v138 := Tryz.zeroValue224
  t139 := Tryz.underlying225
  a139 := Tryz.isAgg225
  z139 := Tryz.sizeOf225
  v139 := Tryz.zeroValue225
  t146 := Tryz.underlying304
  a146 := Tryz.isAgg304
  z146 := Tryz.sizeOf304
  v146 := Tryz.zeroValue304
  t164 := Tryz.underlying324
  a164 := Tryz.isAgg324
  z164 := Tryz.sizeOf324
  v164 := Tryz.zeroValue324
  g1 := by kernel_rfl
  g3 := by kernel_rfl
  g4 := by kernel_rfl }
end Go.Proofs
namespace Go.Proofs.YtnchjdhepakokaaGreatDoorC
open Go.Proofs Go.Proofs.YtnchjdhepakokaaGreatDoorSx Go.Shelf
set_option maxRecDepth 100000
theorem extraR : Builder.Extra Tryz.prog Tryz.laysReplaceAll_ren where
  sizeBuilder := by kernel_rfl
  liesBuilder := by kernel_rfl
  t5 := Tryz.laysReplaceAll.t5
  a5 := Tryz.laysReplaceAll.a5
  z5 := Tryz.laysReplaceAll.z5
  v5 := Tryz.laysReplaceAll.v5
  infoByte := by kernel_rfl
  cellsByte := by kernel_rfl
  sizeByte := by kernel_rfl
  neB5 := by decide
/-- strings.ReplaceAll, of what is not empty, where the strings are not too long. -/
theorem replaceAll_does (s old new : ByteArray) (hs : s.size < 4294967281) (h1 : 1 ≤ old.size) (hlen : s.size + Lib.countB s old * new.size ≤ 140737488355328) :
    Does cE 114 [] 0 [.v (.string s), .v (.string old), .v (.string new)] (.v (.string ⟨(Lib.replaceAll s.data.toList old.data.toList new.data.toList).toArray⟩)) [] 0 := by
  refine does_lib (l := [.string s, .string old, .string new]) (enters (fn := Tryz.f114) rfl (by kernel_rfl) rfl) (fun w hg => ?_)
  obtain ⟨_, v, hm, m, rfl⟩ := hg.2 3 _ rfl
  exact Any.strings_ReplaceAll Tryz.laysReplaceAll extraR s old new m w hs hm h1 hlen
end Go.Proofs.YtnchjdhepakokaaGreatDoorC
/- For datum's closed run: utf8.ValidString and strings.ReplaceAll, told. -/
namespace Go.Proofs.YtnchjdhepakokaaGreatDoorC
open Go.Proofs Go.Proofs.YtnchjdhepakokaaGreatDoorSx Go.RowKit Go.Lib
set_option maxRecDepth 100000
abbrev itsq : ByteArray := ByteArray.mk #[105, 116, 39, 39, 115]
abbrev itq : ByteArray := ByteArray.mk #[105, 116, 39, 115]
theorem kn_rep : Does cE 114 [] 0 [.v (st itq), .v (st (ByteArray.mk #[39])), .v (st (ByteArray.mk #[39, 39]))] (.v (st itsq)) [] 0 :=
  replaceAll_does itq (ByteArray.mk #[39]) (ByteArray.mk #[39, 39]) (by decide) (by decide) (by decide)
theorem kn_valid : Does cE 125 [] 0 [.v (st itq)] (.v (.bool true)) [] 0 := vstr_does itq (by decide)
theorem rp_of {s : ByteArray} (h : s = itq) : Does cE 114 [] 0 [.v (.string s), .v (.string (ByteArray.mk #[39])), .v (.string (ByteArray.mk #[39, 39]))] (.v (.string itsq)) [] 0 := h ▸ kn_rep
theorem vd_of {s : ByteArray} (h : s = itq) : Does cE 125 [] 0 [.v (.string s)] (.v (.bool true)) [] 0 := h ▸ kn_valid
end Go.Proofs.YtnchjdhepakokaaGreatDoorC
/- datum.Parse of a text with a quote. Printed by a program (wip/tools); Lean checks each. -/
namespace Go.Proofs.YtnchjdhepakokaaGreatDoorC
open Go.Proofs Go.Proofs.YtnchjdhepakokaaGreatDoorSx Go.Lib
set_option maxRecDepth 100000
set_option linter.unusedVariables false
def kDp (z : Nat) : Value :=
  (.tuple #[(.agg #[(.int .i64 (3)), (.int .i64 (0)), (.int .i64 (0)), (.string (ByteArray.mk #[105, 116, 39, 115]))]), (.int .i64 (0))])
theorem kDp_does (z : Nat) : Does cE 39 [] 0 [.v (st (ByteArray.mk #[39, 105, 116, 39, 39, 115, 39]))] (.v (kDp z)) [] 0 := by
  unfold kDp
  exact pth (fn := Tryz.f39) rfl (by kernel_rfl) [.e, .l, .l, .l, .l, .l, .l, .l, .e, .n 30, .l, .l, .l, .l, .l, .l, .l, .l, .l, .l, .l, .l, .l, .l, .l, .l, .l, .l, .l, .l, .l, .l, .l, .l, .l, .l, .l, .l, .e, .l, .l, .l, .l, .l, .l, .l, .l, .l, .l, .l, .l, .c (.v (.bool (true))) [] 0, .l, .l, .l, .l, .e, .e, .l, .l, .l, .l, .l, .l, .l, .l, .l, .l, .l, .l, .c (.v (.bool (true))) [] 0, .l, .l, .l, .l, .l, .c (.v (.string ((ByteArray.mk #[105, 116, 39, 39, 115])))) [] 0, .l, .l, .l, .l] (by kernel_rfl) (cj (by first | decide | exact ⟨by decide, by decide⟩ | exact Nat.le_of_ble_eq_true rfl : (0 : Int) ≤ 0 ∧ (0 : Int) < (((ByteArray.mk #[39, 105, 116, 39, 39, 115, 39]).size : Nat) : Int)) (cj (by first | decide | exact ⟨by decide, by decide⟩ | exact Nat.le_of_ble_eq_true rfl : (0 : Int) ≤ 1 ∧ (1 : Int) < (((ByteArray.mk #[39, 105, 116, 39, 39, 115, 39]).size : Nat) : Int)) (cj (by first | decide | exact ⟨by decide, by decide⟩ | exact Nat.le_of_ble_eq_true rfl : Room (([] : List Int).length + [(((([39, 105, 116, 39, 39, 115, 39] : List UInt8).getD (Int.toNat 1) 0).toNat : Nat) : Int)].length) 1) (cj (by first | decide | exact ⟨by decide, by decide⟩ | exact Nat.le_of_ble_eq_true rfl : (0 : Int) ≤ IntKind.i64.wrap (1 + 1) ∧ IntKind.i64.wrap (1 + 1) < (((ByteArray.mk #[39, 105, 116, 39, 39, 115, 39]).size : Nat) : Int)) (cj (by first | decide | exact ⟨by decide, by decide⟩ | exact Nat.le_of_ble_eq_true rfl : Room (([] ++ [(((([39, 105, 116, 39, 39, 115, 39] : List UInt8).getD (Int.toNat 1) 0).toNat : Nat) : Int)]).length + [(((([39, 105, 116, 39, 39, 115, 39] : List UInt8).getD (IntKind.i64.wrap (1 + 1)).toNat 0).toNat : Nat) : Int)].length) 1) (cj (by first | decide | exact ⟨by decide, by decide⟩ | exact Nat.le_of_ble_eq_true rfl : (0 : Int) ≤ IntKind.i64.wrap (IntKind.i64.wrap (1 + 1) + 1) ∧ IntKind.i64.wrap (IntKind.i64.wrap (1 + 1) + 1) < (((ByteArray.mk #[39, 105, 116, 39, 39, 115, 39]).size : Nat) : Int)) (cj (by first | decide | exact ⟨by decide, by decide⟩ | exact Nat.le_of_ble_eq_true rfl : (0 : Int) ≤ IntKind.i64.wrap (IntKind.i64.wrap (IntKind.i64.wrap (1 + 1) + 1) + 1) ∧ IntKind.i64.wrap (IntKind.i64.wrap (IntKind.i64.wrap (1 + 1) + 1) + 1) < (((ByteArray.mk #[39, 105, 116, 39, 39, 115, 39]).size : Nat) : Int)) (cj (by first | decide | exact ⟨by decide, by decide⟩ | exact Nat.le_of_ble_eq_true rfl : Room (([] ++ [(((([39, 105, 116, 39, 39, 115, 39] : List UInt8).getD (Int.toNat 1) 0).toNat : Nat) : Int)] ++ [(((([39, 105, 116, 39, 39, 115, 39] : List UInt8).getD (IntKind.i64.wrap (1 + 1)).toNat 0).toNat : Nat) : Int)]).length + [(((([39, 105, 116, 39, 39, 115, 39] : List UInt8).getD (IntKind.i64.wrap (IntKind.i64.wrap (1 + 1) + 1)).toNat 0).toNat : Nat) : Int)].length) 1) (cj (by first | decide | exact ⟨by decide, by decide⟩ | exact Nat.le_of_ble_eq_true rfl : (0 : Int) ≤ IntKind.i64.wrap (IntKind.i64.wrap (IntKind.i64.wrap (IntKind.i64.wrap (1 + 1) + 1) + 1) + 1) ∧ IntKind.i64.wrap (IntKind.i64.wrap (IntKind.i64.wrap (IntKind.i64.wrap (1 + 1) + 1) + 1) + 1) < (((ByteArray.mk #[39, 105, 116, 39, 39, 115, 39]).size : Nat) : Int)) (cj (by first | decide | exact ⟨by decide, by decide⟩ | exact Nat.le_of_ble_eq_true rfl : Room (([] ++ [(((([39, 105, 116, 39, 39, 115, 39] : List UInt8).getD (Int.toNat 1) 0).toNat : Nat) : Int)] ++ [(((([39, 105, 116, 39, 39, 115, 39] : List UInt8).getD (IntKind.i64.wrap (1 + 1)).toNat 0).toNat : Nat) : Int)] ++ [(((([39, 105, 116, 39, 39, 115, 39] : List UInt8).getD (IntKind.i64.wrap (IntKind.i64.wrap (1 + 1) + 1)).toNat 0).toNat : Nat) : Int)]).length + [(((([39, 105, 116, 39, 39, 115, 39] : List UInt8).getD (IntKind.i64.wrap (IntKind.i64.wrap (IntKind.i64.wrap (IntKind.i64.wrap (1 + 1) + 1) + 1) + 1)).toNat 0).toNat : Nat) : Int)].length) 1) (cj (by first | decide | exact ⟨by decide, by decide⟩ | exact Nat.le_of_ble_eq_true rfl : (0 : Int) ≤ IntKind.i64.wrap (IntKind.i64.wrap (IntKind.i64.wrap (IntKind.i64.wrap (IntKind.i64.wrap (1 + 1) + 1) + 1) + 1) + 1) ∧ IntKind.i64.wrap (IntKind.i64.wrap (IntKind.i64.wrap (IntKind.i64.wrap (IntKind.i64.wrap (1 + 1) + 1) + 1) + 1) + 1) < (((ByteArray.mk #[39, 105, 116, 39, 39, 115, 39]).size : Nat) : Int)) (cj (by first | exact kn_rep | exact kn_valid | exact kn_parse | exact kn_print | exact rp_of (by kernel_rfl) | exact vd_of (by kernel_rfl) | decide | omega : Does cE 125 [] 0 [.v (.string (bytesOf ([] ++ [(((([39, 105, 116, 39, 39, 115, 39] : List UInt8).getD (Int.toNat 1) 0).toNat : Nat) : Int)] ++ [(((([39, 105, 116, 39, 39, 115, 39] : List UInt8).getD (IntKind.i64.wrap (1 + 1)).toNat 0).toNat : Nat) : Int)] ++ [(((([39, 105, 116, 39, 39, 115, 39] : List UInt8).getD (IntKind.i64.wrap (IntKind.i64.wrap (1 + 1) + 1)).toNat 0).toNat : Nat) : Int)] ++ [(((([39, 105, 116, 39, 39, 115, 39] : List UInt8).getD (IntKind.i64.wrap (IntKind.i64.wrap (IntKind.i64.wrap (IntKind.i64.wrap (1 + 1) + 1) + 1) + 1)).toNat 0).toNat : Nat) : Int)])))] (.v (.bool (true))) [] 0) (cj (by first | exact kn_rep | exact kn_valid | exact kn_parse | exact kn_print | exact rp_of (by kernel_rfl) | exact vd_of (by kernel_rfl) | decide | omega : Does cE 125 [] 0 [.v (.string (bytesOf ([] ++ [(((([39, 105, 116, 39, 39, 115, 39] : List UInt8).getD (Int.toNat 1) 0).toNat : Nat) : Int)] ++ [(((([39, 105, 116, 39, 39, 115, 39] : List UInt8).getD (IntKind.i64.wrap (1 + 1)).toNat 0).toNat : Nat) : Int)] ++ [(((([39, 105, 116, 39, 39, 115, 39] : List UInt8).getD (IntKind.i64.wrap (IntKind.i64.wrap (1 + 1) + 1)).toNat 0).toNat : Nat) : Int)] ++ [(((([39, 105, 116, 39, 39, 115, 39] : List UInt8).getD (IntKind.i64.wrap (IntKind.i64.wrap (IntKind.i64.wrap (IntKind.i64.wrap (1 + 1) + 1) + 1) + 1)).toNat 0).toNat : Nat) : Int)])))] (.v (.bool (true))) [] 0) (cj (by first | exact kn_rep | exact kn_valid | exact kn_parse | exact kn_print | exact rp_of (by kernel_rfl) | exact vd_of (by kernel_rfl) | decide | omega : Does cE 114 [] 0 [.v (.string (bytesOf ([] ++ [(((([39, 105, 116, 39, 39, 115, 39] : List UInt8).getD (Int.toNat 1) 0).toNat : Nat) : Int)] ++ [(((([39, 105, 116, 39, 39, 115, 39] : List UInt8).getD (IntKind.i64.wrap (1 + 1)).toNat 0).toNat : Nat) : Int)] ++ [(((([39, 105, 116, 39, 39, 115, 39] : List UInt8).getD (IntKind.i64.wrap (IntKind.i64.wrap (1 + 1) + 1)).toNat 0).toNat : Nat) : Int)] ++ [(((([39, 105, 116, 39, 39, 115, 39] : List UInt8).getD (IntKind.i64.wrap (IntKind.i64.wrap (IntKind.i64.wrap (IntKind.i64.wrap (1 + 1) + 1) + 1) + 1)).toNat 0).toNat : Nat) : Int)]))), .v (.string ((ByteArray.mk #[39]))), .v (.string ((ByteArray.mk #[39, 39])))] (.v (.string ((ByteArray.mk #[105, 116, 39, 39, 115])))) [] 0) (cj (by first | decide | exact ⟨by decide, by decide⟩ | exact Nat.le_of_ble_eq_true rfl : (ByteArray.mk #[39]).size + (ByteArray.mk #[105, 116, 39, 39, 115]).size ≤ 9223372036854775807) (cj (by first | decide | exact ⟨by decide, by decide⟩ | exact Nat.le_of_ble_eq_true rfl : ((ByteArray.mk #[39]) ++ (ByteArray.mk #[105, 116, 39, 39, 115])).size + (ByteArray.mk #[39]).size ≤ 9223372036854775807) cj0))))))))))))))))
end Go.Proofs.YtnchjdhepakokaaGreatDoorC
/- datum.Print of a text with a quote. Printed by a program (wip/tools); Lean checks each. -/
namespace Go.Proofs.YtnchjdhepakokaaGreatDoorC
open Go.Proofs Go.Proofs.YtnchjdhepakokaaGreatDoorSx Go.Lib
set_option maxRecDepth 100000
set_option linter.unusedVariables false
def kDr (z : Nat) : Value :=
  (.string ((ByteArray.mk #[39]) ++ (ByteArray.mk #[105, 116, 39, 39, 115]) ++ (ByteArray.mk #[39])))
theorem kDr_does (z : Nat) : Does cE 41 [] 0 [.v (vl 3 0 0 (ByteArray.mk #[105, 116, 39, 115]))] (.v (kDr z)) [] 0 := by
  unfold kDr
  exact pth (fn := Tryz.f41) rfl (by kernel_rfl) [.e, .l, .l, .l, .l, .l, .l, .l, .l, .l, .l, .l, .l, .c (.v (.bool (true))) [] 0, .l, .l, .l, .l, .l, .c (.v (.string ((ByteArray.mk #[105, 116, 39, 39, 115])))) [] 0] (by kernel_rfl) (cj (by first | exact kn_rep | exact kn_valid | exact kn_parse | exact kn_print | exact rp_of (by kernel_rfl) | exact vd_of (by kernel_rfl) | decide | omega : Does cE 125 [] 0 [.v (.string ((ByteArray.mk #[105, 116, 39, 115])))] (.v (.bool (true))) [] 0) (cj (by first | exact kn_rep | exact kn_valid | exact kn_parse | exact kn_print | exact rp_of (by kernel_rfl) | exact vd_of (by kernel_rfl) | decide | omega : Does cE 114 [] 0 [.v (.string ((ByteArray.mk #[105, 116, 39, 115]))), .v (.string ((ByteArray.mk #[39]))), .v (.string ((ByteArray.mk #[39, 39])))] (.v (.string ((ByteArray.mk #[105, 116, 39, 39, 115])))) [] 0) (cj (by first | decide | exact ⟨by decide, by decide⟩ | exact Nat.le_of_ble_eq_true rfl : (ByteArray.mk #[39]).size + (ByteArray.mk #[105, 116, 39, 39, 115]).size ≤ 9223372036854775807) (cj (by first | decide | exact ⟨by decide, by decide⟩ | exact Nat.le_of_ble_eq_true rfl : ((ByteArray.mk #[39]) ++ (ByteArray.mk #[105, 116, 39, 39, 115])).size + (ByteArray.mk #[39]).size ≤ 9223372036854775807) cj0))))
end Go.Proofs.YtnchjdhepakokaaGreatDoorC
/- For datum's closed run: the text that is read, and the value that is printed. -/
namespace Go.Proofs.YtnchjdhepakokaaGreatDoorC
open Go.Proofs Go.Proofs.YtnchjdhepakokaaGreatDoorSx Go.Lib
set_option maxRecDepth 100000
theorem kn_parse : Does cE 39 [] 0 [.v (st (ByteArray.mk #[39, 105, 116, 39, 39, 115, 39]))] (.v (.tuple #[vl 3 0 0 (ByteArray.mk #[105, 116, 39, 115]), it 0])) [] 0 := kDp_does 0
theorem kn_print : Does cE 41 [] 0 [.v (vl 3 0 0 (ByteArray.mk #[105, 116, 39, 115]))] (.v (st (ByteArray.mk #[39, 105, 116, 39, 39, 115, 39]))) [] 0 := kDr_does 0
end Go.Proofs.YtnchjdhepakokaaGreatDoorC
/- What the laws of datum know. Printed by a program (wip/tools); Lean checks each. -/
namespace Go.Proofs.YtnchjdhepakokaaGreatDoorC
open Go.Proofs Go.Proofs.YtnchjdhepakokaaGreatDoorSx Go.Lib
set_option maxRecDepth 100000
set_option linter.unusedVariables false
def kDk (z : Nat) : Value :=
  (.bool (IntKind.i64.wrap (1 - 0) == 1))
theorem kDk_does (z : Nat) : Does cE 44 [] 0 [] (.v (kDk z)) [] 0 := by
  unfold kDk
  exact pth (fn := Tryz.f44) rfl (by kernel_rfl) [.c (.v (.tuple #[(.agg #[(.int .i64 (3)), (.int .i64 (0)), (.int .i64 (0)), (.string ((ByteArray.mk #[105, 116, 39, 115])))]), (.int .i64 (0))])) [] 0, .e, .e, .l, .e, .l, .l, .e, .e, .n 30, .l, .l, .e, .e, .l, .l, .l, .l, .l, .l, .l, .l, .l, .l, .l, .l, .c (.v (.bool (true))) [] 0, .l, .l, .l, .l, .l, .l, .l, .l, .e, .l, .l, .n 30, .l, .l, .n 30, .l, .l, .e, .l, .l, .n 30, .l, .l, .l, .l, .l, .l, .l, .e, .l, .e, .l, .l, .n 30, .l, .l, .l, .l, .e, .e, .l, .l, .l, .l, .l, .l, .c (.v (.string ((ByteArray.mk #[39, 105, 116, 39, 39, 115, 39])))) [] 0, .l, .l, .l, .l, .l, .l, .l, .e, .e, .e, .l, .l, .l, .l, .l, .e, .e, .l, .l, .l, .l, .l, .e, .e, .l, .l, .l, .l, .e, .l, .l, .l, .l, .l, .l, .l, .l, .e, .e, .l, .l, .l, .l, .l, .l, .l, .l, .e, .e, .l, .l, .l, .l, .e, .l, .l, .l, .l, .l, .l, .l, .l, .l, .l, .l, .e, .e, .l, .l, .l, .l, .l, .l, .l] (by kernel_rfl) (cj (by first | exact kn_rep | exact kn_valid | exact kn_parse | exact kn_print | exact rp_of (by kernel_rfl) | exact vd_of (by kernel_rfl) | decide | omega : Does cE 39 [] 0 [.v (.string ((ByteArray.mk #[39, 105, 116, 39, 39, 115, 39])))] (.v (.tuple #[(.agg #[(.int .i64 (3)), (.int .i64 (0)), (.int .i64 (0)), (.string ((ByteArray.mk #[105, 116, 39, 115])))]), (.int .i64 (0))])) [] 0) (cj (by first | decide | exact ⟨by decide, by decide⟩ | exact Nat.le_of_ble_eq_true rfl : (0 : Int) ≤ 0 ∧ (0 : Int) < ((1 : Nat) : Int)) (cj (by first | exact kn_rep | exact kn_valid | exact kn_parse | exact kn_print | exact rp_of (by kernel_rfl) | exact vd_of (by kernel_rfl) | decide | omega : Does cE 125 [] 0 [.v (.string ((ByteArray.mk #[105, 116, 39, 115])))] (.v (.bool (true))) [] 0) (cj (by first | decide | exact ⟨by decide, by decide⟩ | exact Nat.le_of_ble_eq_true rfl : Room (([] : List Int).length + [IntKind.u8.wrap (IntKind.u64.wrap (((BitVec.ofInt 64 (IntKind.u64.wrap (IntKind.u64.wrap ((1 : Nat) : Int) * 2 ^ 1)) ^^^ BitVec.ofInt 64 (IntKind.u64.wrap ((((1 : Nat) : Int)).fdiv (2 ^ 63)))).toNat : Nat) : Int))].length) 1) (cj (by first | decide | exact ⟨by decide, by decide⟩ | exact Nat.le_of_ble_eq_true rfl : (0 : Int) ≤ 0 ∧ (0 : Int) < ((1 : Nat) : Int)) (cj (by first | decide | exact ⟨by decide, by decide⟩ | exact Nat.le_of_ble_eq_true rfl : Room (([] : List Int).length + [IntKind.u8.wrap (IntKind.u64.wrap (((BitVec.ofInt 64 (IntKind.u64.wrap (IntKind.u64.wrap 3 * 2 ^ 1)) ^^^ BitVec.ofInt 64 (IntKind.u64.wrap (Int.fdiv 3 (2 ^ 63)))).toNat : Nat) : Int))].length) 1) (cj (by first | decide | exact ⟨by decide, by decide⟩ | exact Nat.le_of_ble_eq_true rfl : Room (([] ++ [IntKind.u8.wrap (IntKind.u64.wrap (((BitVec.ofInt 64 (IntKind.u64.wrap (IntKind.u64.wrap ((1 : Nat) : Int) * 2 ^ 1)) ^^^ BitVec.ofInt 64 (IntKind.u64.wrap ((((1 : Nat) : Int)).fdiv (2 ^ 63)))).toNat : Nat) : Int))]).length + ([] ++ [IntKind.u8.wrap (IntKind.u64.wrap (((BitVec.ofInt 64 (IntKind.u64.wrap (IntKind.u64.wrap 3 * 2 ^ 1)) ^^^ BitVec.ofInt 64 (IntKind.u64.wrap (Int.fdiv 3 (2 ^ 63)))).toNat : Nat) : Int))]).length) 1) (cj (by first | decide | exact ⟨by decide, by decide⟩ | exact Nat.le_of_ble_eq_true rfl : Room (([] : List Int).length + [IntKind.u8.wrap (IntKind.u64.wrap (((BitVec.ofInt 64 (IntKind.u64.wrap (IntKind.u64.wrap (((ByteArray.mk #[105, 116, 39, 115]).size : Nat) : Int) * 2 ^ 1)) ^^^ BitVec.ofInt 64 (IntKind.u64.wrap (((((ByteArray.mk #[105, 116, 39, 115]).size : Nat) : Int)).fdiv (2 ^ 63)))).toNat : Nat) : Int))].length) 1) (cj (by first | decide | exact ⟨by decide, by decide⟩ | exact Nat.le_of_ble_eq_true rfl : Room (([] ++ [IntKind.u8.wrap (IntKind.u64.wrap (((BitVec.ofInt 64 (IntKind.u64.wrap (IntKind.u64.wrap (((ByteArray.mk #[105, 116, 39, 115]).size : Nat) : Int) * 2 ^ 1)) ^^^ BitVec.ofInt 64 (IntKind.u64.wrap (((((ByteArray.mk #[105, 116, 39, 115]).size : Nat) : Int)).fdiv (2 ^ 63)))).toNat : Nat) : Int))]).length + (strL (ByteArray.mk #[105, 116, 39, 115])).length) 1) (cj (by first | decide | exact ⟨by decide, by decide⟩ | exact Nat.le_of_ble_eq_true rfl : Room (([] ++ [IntKind.u8.wrap (IntKind.u64.wrap (((BitVec.ofInt 64 (IntKind.u64.wrap (IntKind.u64.wrap ((1 : Nat) : Int) * 2 ^ 1)) ^^^ BitVec.ofInt 64 (IntKind.u64.wrap ((((1 : Nat) : Int)).fdiv (2 ^ 63)))).toNat : Nat) : Int))] ++ ([] ++ [IntKind.u8.wrap (IntKind.u64.wrap (((BitVec.ofInt 64 (IntKind.u64.wrap (IntKind.u64.wrap 3 * 2 ^ 1)) ^^^ BitVec.ofInt 64 (IntKind.u64.wrap (Int.fdiv 3 (2 ^ 63)))).toNat : Nat) : Int))])).length + ([] ++ [IntKind.u8.wrap (IntKind.u64.wrap (((BitVec.ofInt 64 (IntKind.u64.wrap (IntKind.u64.wrap (((ByteArray.mk #[105, 116, 39, 115]).size : Nat) : Int) * 2 ^ 1)) ^^^ BitVec.ofInt 64 (IntKind.u64.wrap (((((ByteArray.mk #[105, 116, 39, 115]).size : Nat) : Int)).fdiv (2 ^ 63)))).toNat : Nat) : Int))] ++ strL (ByteArray.mk #[105, 116, 39, 115])).length) 1) (cj (by first | exact kn_rep | exact kn_valid | exact kn_parse | exact kn_print | exact rp_of (by kernel_rfl) | exact vd_of (by kernel_rfl) | decide | omega : Does cE 41 [] 0 [.v (.agg #[(.int .i64 (3)), (.int .i64 (0)), (.int .i64 (0)), (.string ((ByteArray.mk #[105, 116, 39, 115])))])] (.v (.string ((ByteArray.mk #[39, 105, 116, 39, 39, 115, 39])))) [] 0) cj0)))))))))))
end Go.Proofs.YtnchjdhepakokaaGreatDoorC
/- What the laws of datum know. -/
namespace Go.Proofs.YtnchjdhepakokaaGreatDoorC
open Go.Proofs Go.Proofs.YtnchjdhepakokaaGreatDoorSx Go.Lib
theorem dknows_does : Does cE 44 [] 0 [] (.v (.bool true)) [] 0 := kDk_does 0
end Go.Proofs.YtnchjdhepakokaaGreatDoorC
