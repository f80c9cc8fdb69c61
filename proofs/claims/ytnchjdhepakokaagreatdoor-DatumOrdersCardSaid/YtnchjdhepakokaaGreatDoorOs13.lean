import Derived.Test.YtnchjdhepakokaaGreatDoorOs12
import Derived.KernelRfl
import Derived.Test.YtnchjdhepakokaaGreatDoorRows
import Derived.JoinedOf
import Derived.SevenTiedAt
import Derived.Test.YtnchjdhepakokaaGreatDoorOs05
import Derived.Lib.LaidTab
import Derived.Lib.LaidU8T
import Derived.ProofKit
import Derived.MakeChecks
import Derived.Stop.LaidErr
import Derived.SizedLaws
import Derived.Handed
import Derived.Shelf.Vars
/- The law of orders: its loops. Printed by a program (wip/tools); Lean checks each. -/
namespace Go.Proofs.YtnchjdhepakokaaGreatDoorC
open Go.Proofs Go.Proofs.YtnchjdhepakokaaGreatDoorSx Go.Lib
set_option maxRecDepth 100000
set_option linter.unusedVariables false
noncomputable def doK : List It := stackAt [1, 0, 1, 0] (bd Tryz.f12) [] []
noncomputable def doI (m : Nat) : List It := stackAt [1, 0, 1, 0, 0, 1, 0, 0, 1, 1, 0] (bd Tryz.f12) [m] []
abbrev doS (i : Nat) : List SV := [.o 0, .o 1, .na, .na, .na, .v (it i)] ++ List.replicate 88 .na
abbrev doT (i k : Nat) : List SV := [.o 0, .o 1, .na, .na, .na, .v (it i), .v (it k)] ++ List.replicate 87 .na
def lDb (r q : List (Int × Int × Int × ByteArray)) (i m : Nat) (R1 : Value) : Value :=
  bif (decide ((i : Int) < (r.length : Int))) then bif (!okV (r.getD i (0, 0, 0, ByteArray.empty)).fst (r.getD i (0, 0, 0, ByteArray.empty)).snd.fst (r.getD i (0, 0, 0, ByteArray.empty)).snd.snd.fst (r.getD i (0, 0, 0, ByteArray.empty)).snd.snd.snd == okV (r.getD i (0, 0, 0, ByteArray.empty)).fst (r.getD i (0, 0, 0, ByteArray.empty)).snd.fst (r.getD i (0, 0, 0, ByteArray.empty)).snd.snd.fst (r.getD i (0, 0, 0, ByteArray.empty)).snd.snd.snd) then (.bool (false))
    else R1
  else bif (rowV ([] ++ r) == rowV r) then bif (cfL ([] ++ r) ([] ++ q) == cfL r q) then (.bool (true))
      else (.bool (false))
    else (.bool (false))
theorem lDb_fin (r q : List (Int × Int × Int × ByteArray)) (i m : Nat) (R1 : Value) (hi : i ≤ r.length) (hl : r.length ≤ 4000000000000) (hs : (r.getD i (0, 0, 0, ByteArray.empty)).2.2.2.size ≤ 140737488351232) (hj : q.length ≤ 4000000000000) (hv : Vals r) (hq : Vals q) (hF1 : (decide ((i : Int) < (r.length : Int))) = true → (!okV (r.getD i (0, 0, 0, ByteArray.empty)).fst (r.getD i (0, 0, 0, ByteArray.empty)).snd.fst (r.getD i (0, 0, 0, ByteArray.empty)).snd.snd.fst (r.getD i (0, 0, 0, ByteArray.empty)).snd.snd.snd == okV (r.getD i (0, 0, 0, ByteArray.empty)).fst (r.getD i (0, 0, 0, ByteArray.empty)).snd.fst (r.getD i (0, 0, 0, ByteArray.empty)).snd.snd.fst (r.getD i (0, 0, 0, ByteArray.empty)).snd.snd.snd) = false → Fin cE Tryz.f12 2 (.v R1) [(0, .ro 25 (r) false), (1, .ro 25 (q) false)] 2 (doI (m)) ([.o 0, .o 1, .na, .na, .na, .v (.int .i64 ((i : Int))), .v (.int .i64 (0))] ++ List.replicate 87 .na) [(0, .ro 25 (r) false), (1, .ro 25 (q) false)] 2) : Fin cE Tryz.f12 2 (.v (lDb r q i m R1)) [(0, .ro 25 (r) false), (1, .ro 25 (q) false)] 2 (bodyK doK m) (doS i) (vvT r q) 2 := by
  unfold lDb
  refine fbif (fun c1 => ?_) (fun c1 => ?_)
  · refine fbif (fun c2 => ?_) (fun c2 => ?_)
    · exact sfin (keep := [0, 1, 5, 6]) (by decide) [.t, .c (.v (.bool (okV (r.getD i (0, 0, 0, ByteArray.empty)).fst (r.getD i (0, 0, 0, ByteArray.empty)).snd.fst (r.getD i (0, 0, 0, ByteArray.empty)).snd.snd.fst (r.getD i (0, 0, 0, ByteArray.empty)).snd.snd.snd))) [] 0, .c (.v (.bool (okV (r.getD i (0, 0, 0, ByteArray.empty)).fst (r.getD i (0, 0, 0, ByteArray.empty)).snd.fst (r.getD i (0, 0, 0, ByteArray.empty)).snd.snd.fst (r.getD i (0, 0, 0, ByteArray.empty)).snd.snd.snd))) [] 0, .t] (by kernel_rfl) (cj c1 (cj (by (first | exact room40 hl | exact room40 hj | (have := of_decide_eq_true c1; have := of_decide_eq_false c2; omega) | (have := of_decide_eq_true c1; have := of_decide_eq_true c2; omega) | (have := of_decide_eq_true c1; omega)) : 0 ≤ (i : Int) ∧ (i : Int) < (r.length : Int)) (cj (by (first | exact room40 hl | exact room40 hj | (have := of_decide_eq_true c1; have := of_decide_eq_false c2; omega) | (have := of_decide_eq_true c1; have := of_decide_eq_true c2; omega) | (have := of_decide_eq_true c1; omega)) : i < r.length) (cj (right_does ((r.getD i (0, 0, 0, ByteArray.empty)).fst) ((r.getD i (0, 0, 0, ByteArray.empty)).snd.fst) ((r.getD i (0, 0, 0, ByteArray.empty)).snd.snd.fst) ((r.getD i (0, 0, 0, ByteArray.empty)).snd.snd.snd) (by first | assumption | decide)) (cj (by (first | exact room40 hl | exact room40 hj | (have := of_decide_eq_true c1; have := of_decide_eq_false c2; omega) | (have := of_decide_eq_true c1; have := of_decide_eq_true c2; omega) | (have := of_decide_eq_true c1; omega)) : 0 ≤ (i : Int) ∧ (i : Int) < (r.length : Int)) (cj (by (first | exact room40 hl | exact room40 hj | (have := of_decide_eq_true c1; have := of_decide_eq_false c2; omega) | (have := of_decide_eq_true c1; have := of_decide_eq_true c2; omega) | (have := of_decide_eq_true c1; omega)) : i < r.length) (cj (right4_does ((r.getD i (0, 0, 0, ByteArray.empty)).fst) ((r.getD i (0, 0, 0, ByteArray.empty)).snd.fst) ((r.getD i (0, 0, 0, ByteArray.empty)).snd.snd.fst) ((r.getD i (0, 0, 0, ByteArray.empty)).snd.snd.snd) (by first | assumption | decide)) (cj c2 cj0))))))))
    · exact sat (keep := [0, 1, 5, 6]) (by decide) [.t, .c (.v (.bool (okV (r.getD i (0, 0, 0, ByteArray.empty)).fst (r.getD i (0, 0, 0, ByteArray.empty)).snd.fst (r.getD i (0, 0, 0, ByteArray.empty)).snd.snd.fst (r.getD i (0, 0, 0, ByteArray.empty)).snd.snd.snd))) [] 0, .c (.v (.bool (okV (r.getD i (0, 0, 0, ByteArray.empty)).fst (r.getD i (0, 0, 0, ByteArray.empty)).snd.fst (r.getD i (0, 0, 0, ByteArray.empty)).snd.snd.fst (r.getD i (0, 0, 0, ByteArray.empty)).snd.snd.snd))) [] 0, .f] (by kernel_rfl) (cj c1 (cj (by (first | exact room40 hl | exact room40 hj | (have := of_decide_eq_true c1; have := of_decide_eq_false c2; omega) | (have := of_decide_eq_true c1; have := of_decide_eq_true c2; omega) | (have := of_decide_eq_true c1; omega)) : 0 ≤ (i : Int) ∧ (i : Int) < (r.length : Int)) (cj (by (first | exact room40 hl | exact room40 hj | (have := of_decide_eq_true c1; have := of_decide_eq_false c2; omega) | (have := of_decide_eq_true c1; have := of_decide_eq_true c2; omega) | (have := of_decide_eq_true c1; omega)) : i < r.length) (cj (right_does ((r.getD i (0, 0, 0, ByteArray.empty)).fst) ((r.getD i (0, 0, 0, ByteArray.empty)).snd.fst) ((r.getD i (0, 0, 0, ByteArray.empty)).snd.snd.fst) ((r.getD i (0, 0, 0, ByteArray.empty)).snd.snd.snd) (by first | assumption | decide)) (cj (by (first | exact room40 hl | exact room40 hj | (have := of_decide_eq_true c1; have := of_decide_eq_false c2; omega) | (have := of_decide_eq_true c1; have := of_decide_eq_true c2; omega) | (have := of_decide_eq_true c1; omega)) : 0 ≤ (i : Int) ∧ (i : Int) < (r.length : Int)) (cj (by (first | exact room40 hl | exact room40 hj | (have := of_decide_eq_true c1; have := of_decide_eq_false c2; omega) | (have := of_decide_eq_true c1; have := of_decide_eq_true c2; omega) | (have := of_decide_eq_true c1; omega)) : i < r.length) (cj (right4_does ((r.getD i (0, 0, 0, ByteArray.empty)).fst) ((r.getD i (0, 0, 0, ByteArray.empty)).snd.fst) ((r.getD i (0, 0, 0, ByteArray.empty)).snd.snd.fst) ((r.getD i (0, 0, 0, ByteArray.empty)).snd.snd.snd) (by first | assumption | decide)) (cj c2 cj0)))))))) (hF1 c1 c2)
  · refine fbif (fun c3 => ?_) (fun c3 => ?_)
    · refine fbif (fun c4 => ?_) (fun c4 => ?_)
      · exact sfin (keep := [0, 1, 5, 6]) (by decide) [.f, .e, .c (.v (.bool (rowV ([] ++ r)))) [] 1, .c (.v (.bool (rowV r))) [] 1, .t, .t, .e, .t, .t, .e, .t, .c (.v (.int .i64 (cfL ([] ++ r) ([] ++ q)))) [] 2, .t, .t, .t, .c (.v (.int .i64 (cfL r q))) [] 2, .t, .t, .t, .c (.v (.bool (true))) [] 0, .t] (by kernel_rfl) (cj c1 (cj (by (first | exact room40 hl | exact room40 hj | (have := of_decide_eq_true c1; have := of_decide_eq_false c2; omega) | (have := of_decide_eq_true c1; have := of_decide_eq_true c2; omega) | (have := of_decide_eq_true c1; omega)) : Room (([] : List Int).length + r.length) 40) (cj (row_does ([] ++ r) (by first | assumption | decide) (by first | assumption | decide)) (cj (rrow_does (r) (by first | assumption | decide) (by first | assumption | decide)) (cj c3 (cj c3 (cj (by (first | exact room40 hl | exact room40 hj | (have := of_decide_eq_true c1; have := of_decide_eq_false c2; omega) | (have := of_decide_eq_true c1; have := of_decide_eq_true c2; omega) | (have := of_decide_eq_true c1; omega)) : Room (([] : List Int).length + r.length) 40) (cj c3 (cj c3 (cj (by (first | exact room40 hl | exact room40 hj | (have := of_decide_eq_true c1; have := of_decide_eq_false c2; omega) | (have := of_decide_eq_true c1; have := of_decide_eq_true c2; omega) | (have := of_decide_eq_true c1; omega)) : Room (([] : List Int).length + q.length) 40) (cj c3 (cj (rows_does ([] ++ r) ([] ++ q) (by first | assumption | decide) (by first | assumption | decide) (by first | assumption | decide) (by first | assumption | decide)) (cj c3 (cj c3 (cj c3 (cj (rrows_does (r) (q) (by first | assumption | decide) (by first | assumption | decide) (by first | assumption | decide) (by first | assumption | decide)) (cj c3 (cj c3 (cj c4 (cj (dknows_does) (cj c4 cj0)))))))))))))))))))))
      · exact sfin (keep := [0, 1, 5, 6]) (by decide) [.f, .e, .c (.v (.bool (rowV ([] ++ r)))) [] 1, .c (.v (.bool (rowV r))) [] 1, .t, .t, .e, .t, .t, .e, .t, .c (.v (.int .i64 (cfL ([] ++ r) ([] ++ q)))) [] 2, .t, .t, .t, .c (.v (.int .i64 (cfL r q))) [] 2, .t, .t, .f, .f] (by kernel_rfl) (cj c1 (cj (by (first | exact room40 hl | exact room40 hj | (have := of_decide_eq_true c1; have := of_decide_eq_false c2; omega) | (have := of_decide_eq_true c1; have := of_decide_eq_true c2; omega) | (have := of_decide_eq_true c1; omega)) : Room (([] : List Int).length + r.length) 40) (cj (row_does ([] ++ r) (by first | assumption | decide) (by first | assumption | decide)) (cj (rrow_does (r) (by first | assumption | decide) (by first | assumption | decide)) (cj c3 (cj c3 (cj (by (first | exact room40 hl | exact room40 hj | (have := of_decide_eq_true c1; have := of_decide_eq_false c2; omega) | (have := of_decide_eq_true c1; have := of_decide_eq_true c2; omega) | (have := of_decide_eq_true c1; omega)) : Room (([] : List Int).length + r.length) 40) (cj c3 (cj c3 (cj (by (first | exact room40 hl | exact room40 hj | (have := of_decide_eq_true c1; have := of_decide_eq_false c2; omega) | (have := of_decide_eq_true c1; have := of_decide_eq_true c2; omega) | (have := of_decide_eq_true c1; omega)) : Room (([] : List Int).length + q.length) 40) (cj c3 (cj (rows_does ([] ++ r) ([] ++ q) (by first | assumption | decide) (by first | assumption | decide) (by first | assumption | decide) (by first | assumption | decide)) (cj c3 (cj c3 (cj c3 (cj (rrows_does (r) (q) (by first | assumption | decide) (by first | assumption | decide) (by first | assumption | decide) (by first | assumption | decide)) (cj c3 (cj c3 (cj c4 (cj c4 cj0))))))))))))))))))))
    · exact sfin (keep := [0, 1, 5, 6]) (by decide) [.f, .e, .c (.v (.bool (rowV ([] ++ r)))) [] 1, .c (.v (.bool (rowV r))) [] 1, .f, .f, .f, .f, .f, .f, .f, .f, .f, .f, .l, .l] (by kernel_rfl) (cj c1 (cj (by (first | exact room40 hl | exact room40 hj | (have := of_decide_eq_true c1; have := of_decide_eq_false c2; omega) | (have := of_decide_eq_true c1; have := of_decide_eq_true c2; omega) | (have := of_decide_eq_true c1; omega)) : Room (([] : List Int).length + r.length) 40) (cj (row_does ([] ++ r) (by first | assumption | decide) (by first | assumption | decide)) (cj (rrow_does (r) (by first | assumption | decide) (by first | assumption | decide)) (cj c3 (cj c3 (cj c3 (cj c3 (cj c3 (cj c3 (cj c3 (cj c3 (cj c3 (cj c3 cj0))))))))))))))
def lDc (r q : List (Int × Int × Int × ByteArray)) (i k m j : Nat) (R1 R2 : Value) : Value :=
  bif (decide ((k : Int) < (q.length : Int))) then bif (decide ((k : Int) < 9)) then bif (cpV (r.getD i (0, 0, 0, ByteArray.empty)).fst (r.getD i (0, 0, 0, ByteArray.empty)).snd.fst (r.getD i (0, 0, 0, ByteArray.empty)).snd.snd.fst (r.getD i (0, 0, 0, ByteArray.empty)).snd.snd.snd (q.getD k (0, 0, 0, ByteArray.empty)).fst (q.getD k (0, 0, 0, ByteArray.empty)).snd.fst (q.getD k (0, 0, 0, ByteArray.empty)).snd.snd.fst (q.getD k (0, 0, 0, ByteArray.empty)).snd.snd.snd != cpV (r.getD i (0, 0, 0, ByteArray.empty)).fst (r.getD i (0, 0, 0, ByteArray.empty)).snd.fst (r.getD i (0, 0, 0, ByteArray.empty)).snd.snd.fst (r.getD i (0, 0, 0, ByteArray.empty)).snd.snd.snd (q.getD k (0, 0, 0, ByteArray.empty)).fst (q.getD k (0, 0, 0, ByteArray.empty)).snd.fst (q.getD k (0, 0, 0, ByteArray.empty)).snd.snd.fst (q.getD k (0, 0, 0, ByteArray.empty)).snd.snd.snd) then (.bool (false))
      else bif (!sameV (r.getD i (0, 0, 0, ByteArray.empty)).fst (r.getD i (0, 0, 0, ByteArray.empty)).snd.fst (r.getD i (0, 0, 0, ByteArray.empty)).snd.snd.fst (r.getD i (0, 0, 0, ByteArray.empty)).snd.snd.snd (q.getD k (0, 0, 0, ByteArray.empty)).fst (q.getD k (0, 0, 0, ByteArray.empty)).snd.fst (q.getD k (0, 0, 0, ByteArray.empty)).snd.snd.fst (q.getD k (0, 0, 0, ByteArray.empty)).snd.snd.snd == sameV (r.getD i (0, 0, 0, ByteArray.empty)).fst (r.getD i (0, 0, 0, ByteArray.empty)).snd.fst (r.getD i (0, 0, 0, ByteArray.empty)).snd.snd.fst (r.getD i (0, 0, 0, ByteArray.empty)).snd.snd.snd (q.getD k (0, 0, 0, ByteArray.empty)).fst (q.getD k (0, 0, 0, ByteArray.empty)).snd.fst (q.getD k (0, 0, 0, ByteArray.empty)).snd.snd.fst (q.getD k (0, 0, 0, ByteArray.empty)).snd.snd.snd) then (.bool (false))
        else R1
    else R2
  else R2
theorem lDc_fin (r q : List (Int × Int × Int × ByteArray)) (i k m j : Nat) (R1 R2 : Value) (hi : i < r.length) (hk : k ≤ q.length) (hl : r.length ≤ 4000000000000) (hs : (r.getD i (0, 0, 0, ByteArray.empty)).2.2.2.size ≤ 140737488351232) (hn : I64 (r.getD i (0, 0, 0, ByteArray.empty)).2.1) (hm : I64 (r.getD i (0, 0, 0, ByteArray.empty)).2.2.1) (hj : q.length ≤ 4000000000000) (hv : Vals r) (hq : Vals q) (hsq : (q.getD k (0, 0, 0, ByteArray.empty)).2.2.2.size ≤ 140737488351232) (hnq : I64 (q.getD k (0, 0, 0, ByteArray.empty)).2.1) (hmq : I64 (q.getD k (0, 0, 0, ByteArray.empty)).2.2.1) (hF1 : (decide ((k : Int) < (q.length : Int))) = true → (decide ((k : Int) < 9)) = true → (cpV (r.getD i (0, 0, 0, ByteArray.empty)).fst (r.getD i (0, 0, 0, ByteArray.empty)).snd.fst (r.getD i (0, 0, 0, ByteArray.empty)).snd.snd.fst (r.getD i (0, 0, 0, ByteArray.empty)).snd.snd.snd (q.getD k (0, 0, 0, ByteArray.empty)).fst (q.getD k (0, 0, 0, ByteArray.empty)).snd.fst (q.getD k (0, 0, 0, ByteArray.empty)).snd.snd.fst (q.getD k (0, 0, 0, ByteArray.empty)).snd.snd.snd != cpV (r.getD i (0, 0, 0, ByteArray.empty)).fst (r.getD i (0, 0, 0, ByteArray.empty)).snd.fst (r.getD i (0, 0, 0, ByteArray.empty)).snd.snd.fst (r.getD i (0, 0, 0, ByteArray.empty)).snd.snd.snd (q.getD k (0, 0, 0, ByteArray.empty)).fst (q.getD k (0, 0, 0, ByteArray.empty)).snd.fst (q.getD k (0, 0, 0, ByteArray.empty)).snd.snd.fst (q.getD k (0, 0, 0, ByteArray.empty)).snd.snd.snd) = false → (!sameV (r.getD i (0, 0, 0, ByteArray.empty)).fst (r.getD i (0, 0, 0, ByteArray.empty)).snd.fst (r.getD i (0, 0, 0, ByteArray.empty)).snd.snd.fst (r.getD i (0, 0, 0, ByteArray.empty)).snd.snd.snd (q.getD k (0, 0, 0, ByteArray.empty)).fst (q.getD k (0, 0, 0, ByteArray.empty)).snd.fst (q.getD k (0, 0, 0, ByteArray.empty)).snd.snd.fst (q.getD k (0, 0, 0, ByteArray.empty)).snd.snd.snd == sameV (r.getD i (0, 0, 0, ByteArray.empty)).fst (r.getD i (0, 0, 0, ByteArray.empty)).snd.fst (r.getD i (0, 0, 0, ByteArray.empty)).snd.snd.fst (r.getD i (0, 0, 0, ByteArray.empty)).snd.snd.snd (q.getD k (0, 0, 0, ByteArray.empty)).fst (q.getD k (0, 0, 0, ByteArray.empty)).snd.fst (q.getD k (0, 0, 0, ByteArray.empty)).snd.snd.fst (q.getD k (0, 0, 0, ByteArray.empty)).snd.snd.snd) = false → Fin cE Tryz.f12 2 (.v R1) [(0, .ro 25 (r) false), (1, .ro 25 (q) false)] 2 (inK (doI (m)) (j)) ([.o 0, .o 1, .na, .na, .na, .v (.int .i64 ((i : Int))), .v (.int .i64 (IntKind.i64.wrap ((k : Int) + 1)))] ++ List.replicate 87 .na) [(0, .ro 25 (r) false), (1, .ro 25 (q) false)] 2) (hF2 : Fin cE Tryz.f12 2 (.v R2) [(0, .ro 25 (r) false), (1, .ro 25 (q) false)] 2 (inK doK (m)) ([.o 0, .o 1, .na, .na, .na, .v (.int .i64 (IntKind.i64.wrap ((i : Int) + 1))), .v (.int .i64 ((k : Int)))] ++ List.replicate 87 .na) [(0, .ro 25 (r) false), (1, .ro 25 (q) false)] 2) : Fin cE Tryz.f12 2 (.v (lDc r q i k m j R1 R2)) [(0, .ro 25 (r) false), (1, .ro 25 (q) false)] 2 (bodyK (doI m) j) (doT i k) (vvT r q) 2 := by
  unfold lDc
  refine fbif (fun c1 => ?_) (fun c1 => ?_)
  · refine fbif (fun c2 => ?_) (fun c2 => ?_)
    · refine fbif (fun c3 => ?_) (fun c3 => ?_)
      · exact sfin (keep := [0, 1, 5, 6]) (by decide) [.t, .t, .t, .t, .c (.v (.int .i64 (cpV (r.getD i (0, 0, 0, ByteArray.empty)).fst (r.getD i (0, 0, 0, ByteArray.empty)).snd.fst (r.getD i (0, 0, 0, ByteArray.empty)).snd.snd.fst (r.getD i (0, 0, 0, ByteArray.empty)).snd.snd.snd (q.getD k (0, 0, 0, ByteArray.empty)).fst (q.getD k (0, 0, 0, ByteArray.empty)).snd.fst (q.getD k (0, 0, 0, ByteArray.empty)).snd.snd.fst (q.getD k (0, 0, 0, ByteArray.empty)).snd.snd.snd))) [] 0, .c (.v (.int .i64 (cpV (r.getD i (0, 0, 0, ByteArray.empty)).fst (r.getD i (0, 0, 0, ByteArray.empty)).snd.fst (r.getD i (0, 0, 0, ByteArray.empty)).snd.snd.fst (r.getD i (0, 0, 0, ByteArray.empty)).snd.snd.snd (q.getD k (0, 0, 0, ByteArray.empty)).fst (q.getD k (0, 0, 0, ByteArray.empty)).snd.fst (q.getD k (0, 0, 0, ByteArray.empty)).snd.snd.fst (q.getD k (0, 0, 0, ByteArray.empty)).snd.snd.snd))) [] 0, .t, .t, .t, .t, .t, .t, .t, .t, .t, .t, .t, .t, .t, .t, .t, .t, .t, .t, .t, .t, .l] (by kernel_rfl) (cj c1 (cj c1 (cj c1 (cj c2 (cj (by (first | exact room40 hl | exact room40 hj | (have := of_decide_eq_true c1; have := of_decide_eq_false c2; omega) | (have := of_decide_eq_true c1; have := of_decide_eq_true c2; omega) | (have := of_decide_eq_true c1; omega)) : 0 ≤ (i : Int) ∧ (i : Int) < (r.length : Int)) (cj (by (first | exact room40 hl | exact room40 hj | (have := of_decide_eq_true c1; have := of_decide_eq_false c2; omega) | (have := of_decide_eq_true c1; have := of_decide_eq_true c2; omega) | (have := of_decide_eq_true c1; omega)) : i < r.length) (cj (by (first | exact room40 hl | exact room40 hj | (have := of_decide_eq_true c1; have := of_decide_eq_false c2; omega) | (have := of_decide_eq_true c1; have := of_decide_eq_true c2; omega) | (have := of_decide_eq_true c1; omega)) : 0 ≤ (k : Int) ∧ (k : Int) < (q.length : Int)) (cj (by (first | exact room40 hl | exact room40 hj | (have := of_decide_eq_true c1; have := of_decide_eq_false c2; omega) | (have := of_decide_eq_true c1; have := of_decide_eq_true c2; omega) | (have := of_decide_eq_true c1; omega)) : k < q.length) (cj (compare_does ((r.getD i (0, 0, 0, ByteArray.empty)).fst) ((r.getD i (0, 0, 0, ByteArray.empty)).snd.fst) ((r.getD i (0, 0, 0, ByteArray.empty)).snd.snd.fst) ((r.getD i (0, 0, 0, ByteArray.empty)).snd.snd.snd) ((q.getD k (0, 0, 0, ByteArray.empty)).fst) ((q.getD k (0, 0, 0, ByteArray.empty)).snd.fst) ((q.getD k (0, 0, 0, ByteArray.empty)).snd.snd.fst) ((q.getD k (0, 0, 0, ByteArray.empty)).snd.snd.snd) (by first | assumption | decide) (by first | assumption | decide) (by first | assumption | decide) (by first | assumption | decide) (by first | assumption | decide) (by first | assumption | decide)) (cj (by (first | exact room40 hl | exact room40 hj | (have := of_decide_eq_true c1; have := of_decide_eq_false c2; omega) | (have := of_decide_eq_true c1; have := of_decide_eq_true c2; omega) | (have := of_decide_eq_true c1; omega)) : 0 ≤ (i : Int) ∧ (i : Int) < (r.length : Int)) (cj (by (first | exact room40 hl | exact room40 hj | (have := of_decide_eq_true c1; have := of_decide_eq_false c2; omega) | (have := of_decide_eq_true c1; have := of_decide_eq_true c2; omega) | (have := of_decide_eq_true c1; omega)) : i < r.length) (cj (by (first | exact room40 hl | exact room40 hj | (have := of_decide_eq_true c1; have := of_decide_eq_false c2; omega) | (have := of_decide_eq_true c1; have := of_decide_eq_true c2; omega) | (have := of_decide_eq_true c1; omega)) : 0 ≤ (k : Int) ∧ (k : Int) < (q.length : Int)) (cj (by (first | exact room40 hl | exact room40 hj | (have := of_decide_eq_true c1; have := of_decide_eq_false c2; omega) | (have := of_decide_eq_true c1; have := of_decide_eq_true c2; omega) | (have := of_decide_eq_true c1; omega)) : k < q.length) (cj (rcompare_does ((r.getD i (0, 0, 0, ByteArray.empty)).fst) ((r.getD i (0, 0, 0, ByteArray.empty)).snd.fst) ((r.getD i (0, 0, 0, ByteArray.empty)).snd.snd.fst) ((r.getD i (0, 0, 0, ByteArray.empty)).snd.snd.snd) ((q.getD k (0, 0, 0, ByteArray.empty)).fst) ((q.getD k (0, 0, 0, ByteArray.empty)).snd.fst) ((q.getD k (0, 0, 0, ByteArray.empty)).snd.snd.fst) ((q.getD k (0, 0, 0, ByteArray.empty)).snd.snd.snd) (by first | assumption | decide) (by first | assumption | decide) (by first | assumption | decide) (by first | assumption | decide) (by first | assumption | decide) (by first | assumption | decide)) (cj c3 (cj c3 (cj c3 (cj c3 (cj c3 (cj c3 (cj c3 (cj c3 (cj c3 (cj c3 (cj c3 (cj c3 (cj c3 (cj c3 (cj c3 (cj c3 (cj c3 (cj c3 (cj c3 (cj c3 cj0))))))))))))))))))))))))))))))))))
      · refine fbif (fun c4 => ?_) (fun c4 => ?_)
        · exact sfin (keep := [0, 1, 5, 6]) (by decide) [.t, .t, .t, .t, .c (.v (.int .i64 (cpV (r.getD i (0, 0, 0, ByteArray.empty)).fst (r.getD i (0, 0, 0, ByteArray.empty)).snd.fst (r.getD i (0, 0, 0, ByteArray.empty)).snd.snd.fst (r.getD i (0, 0, 0, ByteArray.empty)).snd.snd.snd (q.getD k (0, 0, 0, ByteArray.empty)).fst (q.getD k (0, 0, 0, ByteArray.empty)).snd.fst (q.getD k (0, 0, 0, ByteArray.empty)).snd.snd.fst (q.getD k (0, 0, 0, ByteArray.empty)).snd.snd.snd))) [] 0, .c (.v (.int .i64 (cpV (r.getD i (0, 0, 0, ByteArray.empty)).fst (r.getD i (0, 0, 0, ByteArray.empty)).snd.fst (r.getD i (0, 0, 0, ByteArray.empty)).snd.snd.fst (r.getD i (0, 0, 0, ByteArray.empty)).snd.snd.snd (q.getD k (0, 0, 0, ByteArray.empty)).fst (q.getD k (0, 0, 0, ByteArray.empty)).snd.fst (q.getD k (0, 0, 0, ByteArray.empty)).snd.snd.fst (q.getD k (0, 0, 0, ByteArray.empty)).snd.snd.snd))) [] 0, .f, .f, .f, .f, .f, .f, .f, .f, .f, .c (.v (.bool (sameV (r.getD i (0, 0, 0, ByteArray.empty)).fst (r.getD i (0, 0, 0, ByteArray.empty)).snd.fst (r.getD i (0, 0, 0, ByteArray.empty)).snd.snd.fst (r.getD i (0, 0, 0, ByteArray.empty)).snd.snd.snd (q.getD k (0, 0, 0, ByteArray.empty)).fst (q.getD k (0, 0, 0, ByteArray.empty)).snd.fst (q.getD k (0, 0, 0, ByteArray.empty)).snd.snd.fst (q.getD k (0, 0, 0, ByteArray.empty)).snd.snd.snd))) [] 0, .f, .f, .f, .f, .f, .f, .f, .f, .f, .c (.v (.bool (sameV (r.getD i (0, 0, 0, ByteArray.empty)).fst (r.getD i (0, 0, 0, ByteArray.empty)).snd.fst (r.getD i (0, 0, 0, ByteArray.empty)).snd.snd.fst (r.getD i (0, 0, 0, ByteArray.empty)).snd.snd.snd (q.getD k (0, 0, 0, ByteArray.empty)).fst (q.getD k (0, 0, 0, ByteArray.empty)).snd.fst (q.getD k (0, 0, 0, ByteArray.empty)).snd.snd.fst (q.getD k (0, 0, 0, ByteArray.empty)).snd.snd.snd))) [] 0, .f, .f, .t] (by kernel_rfl) (cj c1 (cj c1 (cj c1 (cj c2 (cj (by (first | exact room40 hl | exact room40 hj | (have := of_decide_eq_true c1; have := of_decide_eq_false c2; omega) | (have := of_decide_eq_true c1; have := of_decide_eq_true c2; omega) | (have := of_decide_eq_true c1; omega)) : 0 ≤ (i : Int) ∧ (i : Int) < (r.length : Int)) (cj (by (first | exact room40 hl | exact room40 hj | (have := of_decide_eq_true c1; have := of_decide_eq_false c2; omega) | (have := of_decide_eq_true c1; have := of_decide_eq_true c2; omega) | (have := of_decide_eq_true c1; omega)) : i < r.length) (cj (by (first | exact room40 hl | exact room40 hj | (have := of_decide_eq_true c1; have := of_decide_eq_false c2; omega) | (have := of_decide_eq_true c1; have := of_decide_eq_true c2; omega) | (have := of_decide_eq_true c1; omega)) : 0 ≤ (k : Int) ∧ (k : Int) < (q.length : Int)) (cj (by (first | exact room40 hl | exact room40 hj | (have := of_decide_eq_true c1; have := of_decide_eq_false c2; omega) | (have := of_decide_eq_true c1; have := of_decide_eq_true c2; omega) | (have := of_decide_eq_true c1; omega)) : k < q.length) (cj (compare_does ((r.getD i (0, 0, 0, ByteArray.empty)).fst) ((r.getD i (0, 0, 0, ByteArray.empty)).snd.fst) ((r.getD i (0, 0, 0, ByteArray.empty)).snd.snd.fst) ((r.getD i (0, 0, 0, ByteArray.empty)).snd.snd.snd) ((q.getD k (0, 0, 0, ByteArray.empty)).fst) ((q.getD k (0, 0, 0, ByteArray.empty)).snd.fst) ((q.getD k (0, 0, 0, ByteArray.empty)).snd.snd.fst) ((q.getD k (0, 0, 0, ByteArray.empty)).snd.snd.snd) (by first | assumption | decide) (by first | assumption | decide) (by first | assumption | decide) (by first | assumption | decide) (by first | assumption | decide) (by first | assumption | decide)) (cj (by (first | exact room40 hl | exact room40 hj | (have := of_decide_eq_true c1; have := of_decide_eq_false c2; omega) | (have := of_decide_eq_true c1; have := of_decide_eq_true c2; omega) | (have := of_decide_eq_true c1; omega)) : 0 ≤ (i : Int) ∧ (i : Int) < (r.length : Int)) (cj (by (first | exact room40 hl | exact room40 hj | (have := of_decide_eq_true c1; have := of_decide_eq_false c2; omega) | (have := of_decide_eq_true c1; have := of_decide_eq_true c2; omega) | (have := of_decide_eq_true c1; omega)) : i < r.length) (cj (by (first | exact room40 hl | exact room40 hj | (have := of_decide_eq_true c1; have := of_decide_eq_false c2; omega) | (have := of_decide_eq_true c1; have := of_decide_eq_true c2; omega) | (have := of_decide_eq_true c1; omega)) : 0 ≤ (k : Int) ∧ (k : Int) < (q.length : Int)) (cj (by (first | exact room40 hl | exact room40 hj | (have := of_decide_eq_true c1; have := of_decide_eq_false c2; omega) | (have := of_decide_eq_true c1; have := of_decide_eq_true c2; omega) | (have := of_decide_eq_true c1; omega)) : k < q.length) (cj (rcompare_does ((r.getD i (0, 0, 0, ByteArray.empty)).fst) ((r.getD i (0, 0, 0, ByteArray.empty)).snd.fst) ((r.getD i (0, 0, 0, ByteArray.empty)).snd.snd.fst) ((r.getD i (0, 0, 0, ByteArray.empty)).snd.snd.snd) ((q.getD k (0, 0, 0, ByteArray.empty)).fst) ((q.getD k (0, 0, 0, ByteArray.empty)).snd.fst) ((q.getD k (0, 0, 0, ByteArray.empty)).snd.snd.fst) ((q.getD k (0, 0, 0, ByteArray.empty)).snd.snd.snd) (by first | assumption | decide) (by first | assumption | decide) (by first | assumption | decide) (by first | assumption | decide) (by first | assumption | decide) (by first | assumption | decide)) (cj c3 (cj c3 (cj c3 (cj (by (first | exact room40 hl | exact room40 hj | (have := of_decide_eq_true c1; have := of_decide_eq_false c2; omega) | (have := of_decide_eq_true c1; have := of_decide_eq_true c2; omega) | (have := of_decide_eq_true c1; omega)) : 0 ≤ (i : Int) ∧ (i : Int) < (r.length : Int)) (cj c3 (cj (by (first | exact room40 hl | exact room40 hj | (have := of_decide_eq_true c1; have := of_decide_eq_false c2; omega) | (have := of_decide_eq_true c1; have := of_decide_eq_true c2; omega) | (have := of_decide_eq_true c1; omega)) : i < r.length) (cj c3 (cj c3 (cj c3 (cj (by (first | exact room40 hl | exact room40 hj | (have := of_decide_eq_true c1; have := of_decide_eq_false c2; omega) | (have := of_decide_eq_true c1; have := of_decide_eq_true c2; omega) | (have := of_decide_eq_true c1; omega)) : 0 ≤ (k : Int) ∧ (k : Int) < (q.length : Int)) (cj c3 (cj (by (first | exact room40 hl | exact room40 hj | (have := of_decide_eq_true c1; have := of_decide_eq_false c2; omega) | (have := of_decide_eq_true c1; have := of_decide_eq_true c2; omega) | (have := of_decide_eq_true c1; omega)) : k < q.length) (cj c3 (cj (dsame_does ((r.getD i (0, 0, 0, ByteArray.empty)).fst) ((r.getD i (0, 0, 0, ByteArray.empty)).snd.fst) ((r.getD i (0, 0, 0, ByteArray.empty)).snd.snd.fst) ((r.getD i (0, 0, 0, ByteArray.empty)).snd.snd.snd) ((q.getD k (0, 0, 0, ByteArray.empty)).fst) ((q.getD k (0, 0, 0, ByteArray.empty)).snd.fst) ((q.getD k (0, 0, 0, ByteArray.empty)).snd.snd.fst) ((q.getD k (0, 0, 0, ByteArray.empty)).snd.snd.snd)) (cj c3 (cj c3 (cj c3 (cj (by (first | exact room40 hl | exact room40 hj | (have := of_decide_eq_true c1; have := of_decide_eq_false c2; omega) | (have := of_decide_eq_true c1; have := of_decide_eq_true c2; omega) | (have := of_decide_eq_true c1; omega)) : 0 ≤ (i : Int) ∧ (i : Int) < (r.length : Int)) (cj c3 (cj (by (first | exact room40 hl | exact room40 hj | (have := of_decide_eq_true c1; have := of_decide_eq_false c2; omega) | (have := of_decide_eq_true c1; have := of_decide_eq_true c2; omega) | (have := of_decide_eq_true c1; omega)) : i < r.length) (cj c3 (cj c3 (cj c3 (cj (by (first | exact room40 hl | exact room40 hj | (have := of_decide_eq_true c1; have := of_decide_eq_false c2; omega) | (have := of_decide_eq_true c1; have := of_decide_eq_true c2; omega) | (have := of_decide_eq_true c1; omega)) : 0 ≤ (k : Int) ∧ (k : Int) < (q.length : Int)) (cj c3 (cj (by (first | exact room40 hl | exact room40 hj | (have := of_decide_eq_true c1; have := of_decide_eq_false c2; omega) | (have := of_decide_eq_true c1; have := of_decide_eq_true c2; omega) | (have := of_decide_eq_true c1; omega)) : k < q.length) (cj c3 (cj (same4_does ((r.getD i (0, 0, 0, ByteArray.empty)).fst) ((r.getD i (0, 0, 0, ByteArray.empty)).snd.fst) ((r.getD i (0, 0, 0, ByteArray.empty)).snd.snd.fst) ((r.getD i (0, 0, 0, ByteArray.empty)).snd.snd.snd) ((q.getD k (0, 0, 0, ByteArray.empty)).fst) ((q.getD k (0, 0, 0, ByteArray.empty)).snd.fst) ((q.getD k (0, 0, 0, ByteArray.empty)).snd.snd.fst) ((q.getD k (0, 0, 0, ByteArray.empty)).snd.snd.snd)) (cj c3 (cj c3 (cj c4 cj0)))))))))))))))))))))))))))))))))))))))))))))
        · exact sat (keep := [0, 1, 5, 6]) (by decide) [.t, .t, .t, .t, .c (.v (.int .i64 (cpV (r.getD i (0, 0, 0, ByteArray.empty)).fst (r.getD i (0, 0, 0, ByteArray.empty)).snd.fst (r.getD i (0, 0, 0, ByteArray.empty)).snd.snd.fst (r.getD i (0, 0, 0, ByteArray.empty)).snd.snd.snd (q.getD k (0, 0, 0, ByteArray.empty)).fst (q.getD k (0, 0, 0, ByteArray.empty)).snd.fst (q.getD k (0, 0, 0, ByteArray.empty)).snd.snd.fst (q.getD k (0, 0, 0, ByteArray.empty)).snd.snd.snd))) [] 0, .c (.v (.int .i64 (cpV (r.getD i (0, 0, 0, ByteArray.empty)).fst (r.getD i (0, 0, 0, ByteArray.empty)).snd.fst (r.getD i (0, 0, 0, ByteArray.empty)).snd.snd.fst (r.getD i (0, 0, 0, ByteArray.empty)).snd.snd.snd (q.getD k (0, 0, 0, ByteArray.empty)).fst (q.getD k (0, 0, 0, ByteArray.empty)).snd.fst (q.getD k (0, 0, 0, ByteArray.empty)).snd.snd.fst (q.getD k (0, 0, 0, ByteArray.empty)).snd.snd.snd))) [] 0, .f, .f, .f, .f, .f, .f, .f, .f, .f, .c (.v (.bool (sameV (r.getD i (0, 0, 0, ByteArray.empty)).fst (r.getD i (0, 0, 0, ByteArray.empty)).snd.fst (r.getD i (0, 0, 0, ByteArray.empty)).snd.snd.fst (r.getD i (0, 0, 0, ByteArray.empty)).snd.snd.snd (q.getD k (0, 0, 0, ByteArray.empty)).fst (q.getD k (0, 0, 0, ByteArray.empty)).snd.fst (q.getD k (0, 0, 0, ByteArray.empty)).snd.snd.fst (q.getD k (0, 0, 0, ByteArray.empty)).snd.snd.snd))) [] 0, .f, .f, .f, .f, .f, .f, .f, .f, .f, .c (.v (.bool (sameV (r.getD i (0, 0, 0, ByteArray.empty)).fst (r.getD i (0, 0, 0, ByteArray.empty)).snd.fst (r.getD i (0, 0, 0, ByteArray.empty)).snd.snd.fst (r.getD i (0, 0, 0, ByteArray.empty)).snd.snd.snd (q.getD k (0, 0, 0, ByteArray.empty)).fst (q.getD k (0, 0, 0, ByteArray.empty)).snd.fst (q.getD k (0, 0, 0, ByteArray.empty)).snd.snd.fst (q.getD k (0, 0, 0, ByteArray.empty)).snd.snd.snd))) [] 0, .f, .f, .f] (by kernel_rfl) (cj c1 (cj c1 (cj c1 (cj c2 (cj (by (first | exact room40 hl | exact room40 hj | (have := of_decide_eq_true c1; have := of_decide_eq_false c2; omega) | (have := of_decide_eq_true c1; have := of_decide_eq_true c2; omega) | (have := of_decide_eq_true c1; omega)) : 0 ≤ (i : Int) ∧ (i : Int) < (r.length : Int)) (cj (by (first | exact room40 hl | exact room40 hj | (have := of_decide_eq_true c1; have := of_decide_eq_false c2; omega) | (have := of_decide_eq_true c1; have := of_decide_eq_true c2; omega) | (have := of_decide_eq_true c1; omega)) : i < r.length) (cj (by (first | exact room40 hl | exact room40 hj | (have := of_decide_eq_true c1; have := of_decide_eq_false c2; omega) | (have := of_decide_eq_true c1; have := of_decide_eq_true c2; omega) | (have := of_decide_eq_true c1; omega)) : 0 ≤ (k : Int) ∧ (k : Int) < (q.length : Int)) (cj (by (first | exact room40 hl | exact room40 hj | (have := of_decide_eq_true c1; have := of_decide_eq_false c2; omega) | (have := of_decide_eq_true c1; have := of_decide_eq_true c2; omega) | (have := of_decide_eq_true c1; omega)) : k < q.length) (cj (compare_does ((r.getD i (0, 0, 0, ByteArray.empty)).fst) ((r.getD i (0, 0, 0, ByteArray.empty)).snd.fst) ((r.getD i (0, 0, 0, ByteArray.empty)).snd.snd.fst) ((r.getD i (0, 0, 0, ByteArray.empty)).snd.snd.snd) ((q.getD k (0, 0, 0, ByteArray.empty)).fst) ((q.getD k (0, 0, 0, ByteArray.empty)).snd.fst) ((q.getD k (0, 0, 0, ByteArray.empty)).snd.snd.fst) ((q.getD k (0, 0, 0, ByteArray.empty)).snd.snd.snd) (by first | assumption | decide) (by first | assumption | decide) (by first | assumption | decide) (by first | assumption | decide) (by first | assumption | decide) (by first | assumption | decide)) (cj (by (first | exact room40 hl | exact room40 hj | (have := of_decide_eq_true c1; have := of_decide_eq_false c2; omega) | (have := of_decide_eq_true c1; have := of_decide_eq_true c2; omega) | (have := of_decide_eq_true c1; omega)) : 0 ≤ (i : Int) ∧ (i : Int) < (r.length : Int)) (cj (by (first | exact room40 hl | exact room40 hj | (have := of_decide_eq_true c1; have := of_decide_eq_false c2; omega) | (have := of_decide_eq_true c1; have := of_decide_eq_true c2; omega) | (have := of_decide_eq_true c1; omega)) : i < r.length) (cj (by (first | exact room40 hl | exact room40 hj | (have := of_decide_eq_true c1; have := of_decide_eq_false c2; omega) | (have := of_decide_eq_true c1; have := of_decide_eq_true c2; omega) | (have := of_decide_eq_true c1; omega)) : 0 ≤ (k : Int) ∧ (k : Int) < (q.length : Int)) (cj (by (first | exact room40 hl | exact room40 hj | (have := of_decide_eq_true c1; have := of_decide_eq_false c2; omega) | (have := of_decide_eq_true c1; have := of_decide_eq_true c2; omega) | (have := of_decide_eq_true c1; omega)) : k < q.length) (cj (rcompare_does ((r.getD i (0, 0, 0, ByteArray.empty)).fst) ((r.getD i (0, 0, 0, ByteArray.empty)).snd.fst) ((r.getD i (0, 0, 0, ByteArray.empty)).snd.snd.fst) ((r.getD i (0, 0, 0, ByteArray.empty)).snd.snd.snd) ((q.getD k (0, 0, 0, ByteArray.empty)).fst) ((q.getD k (0, 0, 0, ByteArray.empty)).snd.fst) ((q.getD k (0, 0, 0, ByteArray.empty)).snd.snd.fst) ((q.getD k (0, 0, 0, ByteArray.empty)).snd.snd.snd) (by first | assumption | decide) (by first | assumption | decide) (by first | assumption | decide) (by first | assumption | decide) (by first | assumption | decide) (by first | assumption | decide)) (cj c3 (cj c3 (cj c3 (cj (by (first | exact room40 hl | exact room40 hj | (have := of_decide_eq_true c1; have := of_decide_eq_false c2; omega) | (have := of_decide_eq_true c1; have := of_decide_eq_true c2; omega) | (have := of_decide_eq_true c1; omega)) : 0 ≤ (i : Int) ∧ (i : Int) < (r.length : Int)) (cj c3 (cj (by (first | exact room40 hl | exact room40 hj | (have := of_decide_eq_true c1; have := of_decide_eq_false c2; omega) | (have := of_decide_eq_true c1; have := of_decide_eq_true c2; omega) | (have := of_decide_eq_true c1; omega)) : i < r.length) (cj c3 (cj c3 (cj c3 (cj (by (first | exact room40 hl | exact room40 hj | (have := of_decide_eq_true c1; have := of_decide_eq_false c2; omega) | (have := of_decide_eq_true c1; have := of_decide_eq_true c2; omega) | (have := of_decide_eq_true c1; omega)) : 0 ≤ (k : Int) ∧ (k : Int) < (q.length : Int)) (cj c3 (cj (by (first | exact room40 hl | exact room40 hj | (have := of_decide_eq_true c1; have := of_decide_eq_false c2; omega) | (have := of_decide_eq_true c1; have := of_decide_eq_true c2; omega) | (have := of_decide_eq_true c1; omega)) : k < q.length) (cj c3 (cj (dsame_does ((r.getD i (0, 0, 0, ByteArray.empty)).fst) ((r.getD i (0, 0, 0, ByteArray.empty)).snd.fst) ((r.getD i (0, 0, 0, ByteArray.empty)).snd.snd.fst) ((r.getD i (0, 0, 0, ByteArray.empty)).snd.snd.snd) ((q.getD k (0, 0, 0, ByteArray.empty)).fst) ((q.getD k (0, 0, 0, ByteArray.empty)).snd.fst) ((q.getD k (0, 0, 0, ByteArray.empty)).snd.snd.fst) ((q.getD k (0, 0, 0, ByteArray.empty)).snd.snd.snd)) (cj c3 (cj c3 (cj c3 (cj (by (first | exact room40 hl | exact room40 hj | (have := of_decide_eq_true c1; have := of_decide_eq_false c2; omega) | (have := of_decide_eq_true c1; have := of_decide_eq_true c2; omega) | (have := of_decide_eq_true c1; omega)) : 0 ≤ (i : Int) ∧ (i : Int) < (r.length : Int)) (cj c3 (cj (by (first | exact room40 hl | exact room40 hj | (have := of_decide_eq_true c1; have := of_decide_eq_false c2; omega) | (have := of_decide_eq_true c1; have := of_decide_eq_true c2; omega) | (have := of_decide_eq_true c1; omega)) : i < r.length) (cj c3 (cj c3 (cj c3 (cj (by (first | exact room40 hl | exact room40 hj | (have := of_decide_eq_true c1; have := of_decide_eq_false c2; omega) | (have := of_decide_eq_true c1; have := of_decide_eq_true c2; omega) | (have := of_decide_eq_true c1; omega)) : 0 ≤ (k : Int) ∧ (k : Int) < (q.length : Int)) (cj c3 (cj (by (first | exact room40 hl | exact room40 hj | (have := of_decide_eq_true c1; have := of_decide_eq_false c2; omega) | (have := of_decide_eq_true c1; have := of_decide_eq_true c2; omega) | (have := of_decide_eq_true c1; omega)) : k < q.length) (cj c3 (cj (same4_does ((r.getD i (0, 0, 0, ByteArray.empty)).fst) ((r.getD i (0, 0, 0, ByteArray.empty)).snd.fst) ((r.getD i (0, 0, 0, ByteArray.empty)).snd.snd.fst) ((r.getD i (0, 0, 0, ByteArray.empty)).snd.snd.snd) ((q.getD k (0, 0, 0, ByteArray.empty)).fst) ((q.getD k (0, 0, 0, ByteArray.empty)).snd.fst) ((q.getD k (0, 0, 0, ByteArray.empty)).snd.snd.fst) ((q.getD k (0, 0, 0, ByteArray.empty)).snd.snd.snd)) (cj c3 (cj c3 (cj c4 cj0))))))))))))))))))))))))))))))))))))))))))))) (hF1 c1 c2 c3 c4)
    · exact sat (keep := [0, 1, 5, 6]) (by decide) [.t, .t, .t, .f] (by kernel_rfl) (cj c1 (cj c1 (cj c1 (cj c2 cj0)))) (hF2)
  · exact sat (keep := [0, 1, 5, 6]) (by decide) [.f, .f, .f, .l] (by kernel_rfl) (cj c1 (cj c1 (cj c1 cj0))) (hF2)
def lDa (r q : List (Int × Int × Int × ByteArray)) (R1 : SV × Tab cE × Nat) : SV × Tab cE × Nat :=
  R1
theorem lDa_fin (r q : List (Int × Int × Int × ByteArray)) (R1 : SV × Tab cE × Nat) (hF1 : Fin cE Tryz.f12 2 R1.1 R1.2.1 R1.2.2 doK ([.o 0, .o 1, .na, .na, .na, .v (.int .i64 (0))] ++ List.replicate 88 .na) [(0, .ro 25 (r) false), (1, .ro 25 (q) false)] 2) : Fin cE Tryz.f12 2 (lDa r q R1).1 (lDa r q R1).2.1 (lDa r q R1).2.2 [.code (bd Tryz.f12)] (argsS [.o 0, .o 1] Tryz.f12.ntmps) [(0, .ro 25 r false), (1, .ro 25 q false)] 2 := by
  unfold lDa
  exact sat (keep := [0, 1, 5]) (by decide) [] (by kernel_rfl) cj0 (hF1 )
end Go.Proofs.YtnchjdhepakokaaGreatDoorC
/- The law of orders: true. -/
namespace Go.Proofs.YtnchjdhepakokaaGreatDoorC
open Go.Proofs Go.Proofs.YtnchjdhepakokaaGreatDoorSx Go.RowKit Go.Lib
set_option maxRecDepth 100000
set_option linter.unusedVariables false
set_option linter.unusedSimpArgs false
theorem lDc_tt (r q : List VZ) (i k m j : Nat) : lDc r q i k m j (.bool true) (.bool true) = .bool true := by
  unfold lDc
  have a1 : ∀ x : Int, (x != x) = false := by intro x; simp
  have a2 : ∀ x : Bool, (!x == x) = false := by decide
  rw [a1, a2]
  cases decide ((k : Int) < (q.length : Int)) <;> cases decide ((k : Int) < 9) <;> rfl
theorem lDb_tt (r q : List VZ) (i m : Nat) : lDb r q i m (.bool true) = .bool true := by
  unfold lDb
  have a2 : ∀ x : Bool, (!x == x) = false := by decide
  have a3 : (rowV ([] ++ r) == rowV r) = true := by rw [List.nil_append]; exact beq_self_eq_true _
  have a4 : (cfL ([] ++ r) ([] ++ q) == cfL r q) = true := by rw [List.nil_append, List.nil_append]; exact beq_self_eq_true _
  rw [a2, a3, a4]
  cases decide ((i : Int) < (r.length : Int)) <;> rfl
theorem do_in (r q : List VZ) (hv : Vals r) (hq : Vals q) (hl : r.length ≤ 4000000000000) (hj : q.length ≤ 4000000000000) {i m : Nat} (hi : i < r.length)
    (hO : Fin cE Tryz.f12 2 (.v (.bool true)) (vvT r q) 2 (inK doK m) (doS (i + 1)) (vvT r q) 2) :
    ∀ (j k : Nat), k + j = q.length → Fin cE Tryz.f12 2 (.v (.bool true)) (vvT r q) 2 (inK (doI m) (j + 1)) (doT i k) (vvT r q) 2 := by
  intro j
  induction j with
  | zero =>
    intro k hk
    refine fin_round ?_
    have h := lDc_fin r q i k m 0 (.bool true) (.bool true) hi (by omega) hl (vals_at hv i).2.2 (vals_at hv i).1 (vals_at hv i).2.1 hj hv hq (vals_at hq k).2.2 (vals_at hq k).1 (vals_at hq k).2.1
      (fun c1 => absurd (of_decide_eq_true c1) (by omega))
      (by rw [wsuc hi hl]; exact fin_weak hO (by repeat (first | exact trivial | refine ⟨.inr rfl, ?_⟩ | refine ⟨.inl rfl, ?_⟩)))
    rw [lDc_tt] at h
    exact h
  | succ j ih =>
    intro k hk
    refine fin_round ?_
    have h := lDc_fin r q i k m (j + 1) (.bool true) (.bool true) hi (by omega) hl (vals_at hv i).2.2 (vals_at hv i).1 (vals_at hv i).2.1 hj hv hq (vals_at hq k).2.2 (vals_at hq k).1 (vals_at hq k).2.1
      (fun c1 c2 c3 c4 => by rw [wsuc (by omega : k < q.length) hj]; exact ih (k + 1) (by omega))
      (by rw [wsuc hi hl]; exact fin_weak hO (by repeat (first | exact trivial | refine ⟨.inr rfl, ?_⟩ | refine ⟨.inl rfl, ?_⟩)))
    rw [lDc_tt] at h
    exact h
theorem do_loop (r q : List VZ) (hv : Vals r) (hq : Vals q) (hl : r.length ≤ 4000000000000) (hj : q.length ≤ 4000000000000) : ∀ (m i : Nat), i + m = r.length → Fin cE Tryz.f12 2 (.v (.bool true)) (vvT r q) 2 (inK doK (m + 1)) (doS i) (vvT r q) 2 := by
  intro m
  induction m with
  | zero =>
    intro i hi
    refine fin_round ?_
    have h := lDb_fin r q i 0 (.bool true) (by omega) hl (vals_at hv i).2.2 hj hv hq (fun c1 => absurd (of_decide_eq_true c1) (by omega))
    rw [lDb_tt] at h
    exact h
  | succ m ih =>
    intro i hi
    refine fin_round ?_
    have h := lDb_fin r q i (m + 1) (.bool true) (by omega) hl (vals_at hv i).2.2 hj hv hq (fun c1 c2 => fin_loop (q.length + 1) (do_in r q hv hq hl hj (by omega) (ih (i + 1) (by omega)) q.length 0 (by omega)))
    rw [lDb_tt] at h
    exact h
theorem orders_law (r q : List VZ) (hv : Vals r) (hq : Vals q) (hl : r.length ≤ 4000000000000) (hj : q.length ≤ 4000000000000) : Does cE 12 (vvT r q) 2 [.o 0, .o 1] (.v (.bool true)) (vvT r q) 2 := by
  refine does_of_fin (fn := Tryz.f12) (c := bd Tryz.f12) rfl (by kernel_rfl) rfl ?_
  exact lDa_fin r q (.v (.bool true), vvT r q, 2) (fin_loop (r.length + 1) (do_loop r q hv hq hl hj r.length 0 (by omega)))
theorem orders_true (a0 : Option Addr) (len0 cap0 : Nat) (l0 : List VZ) (a1 : Option Addr) (len1 cap1 : Nat) (l1 : List VZ) (w : World) (hg : GlobIn cE w)
    (n0 : l0.length = len0) (o0 : Opened w valF a0 len0 cap0 l0) (g0 : Vals l0) (y0 : len0 * 40 ≤ 140737488351232) (n1 : l1.length = len1) (o1 : Opened w valF a1 len1 cap1 l1) (g1 : Vals l1) (y1 : len1 * 40 ≤ 140737488351232) :
    Calls Tryz.prog 12 #[.slice a0 len0 cap0, .slice a1 len1 cap1] w fun e w' => e = .returned (.bool true) ∧ Below w.heap.size w w' :=
  law_ros (E := cE) [.row 25 (.slice a0 len0 cap0) l0, .row 25 (.slice a1 len1 cap1) l1] (enters (fn := Tryz.f12) rfl (by kernel_rfl) rfl)
    (orders_law l0 l1 g0 g1 (by omega) (by omega)) w hg ⟨ro_of_opened o0, ro_of_opened o1, trivial⟩
end Go.Proofs.YtnchjdhepakokaaGreatDoorC
/- What the rows say of the whole program: each a closed fact, apart. -/
namespace Go.Proofs.YtnchjdhepakokaaGreatDoorJ
open Go.Proofs.YtnchjdhepakokaaGreatDoor
set_option maxRecDepth 100000
theorem bt {a b : Bool} (h : a = true) (k : b = true) : (a && b) = true := by rw [h, k]; rfl
theorem pLaid : laidOutB Tryz.prog = true := by kernel_rfl
theorem pMaps : mapsRowed Tryz.prog = true := by kernel_rfl
theorem pStops : (Tryz.prog.stops == []) = true := by kernel_rfl
theorem pKnobs : (Tryz.prog.stopKnobs == []) = true := by kernel_rfl
theorem pKeys : (Rows.evalStepsRow.plainKeys == Tryz.prog.plainKeys) = true := by kernel_rfl
theorem pHeard : Tryz.prog.stopsHeard = true := by kernel_rfl
theorem pMay : Tryz.prog.mayEnter = true := by kernel_rfl
theorem pLifts : (Rows.evalStepsRow.lifted == Tryz.prog.liftsFinal) = true := by kernel_rfl
theorem pMake : (Tryz.prog.make == some Rows.evalStepsRow.make) = true := by kernel_rfl
theorem pLooks : true = Tryz.prog.looks [] := by kernel_rfl
theorem pMain : Tryz.pinned.checked.prog.mainIs = some (true, "78437c3b7531760fed31a8607bae3fb8ec3b4f916377ea75976054335517be10".toList) := by kernel_rfl
end Go.Proofs.YtnchjdhepakokaaGreatDoorJ
/- What the listed package-level variables hold: the table of powers of ten, the two tables of unicode/utf8, cell for cell. -/
namespace Go.Proofs.YtnchjdhepakokaaGreatDoorC
open Go.Proofs Go.Proofs.YtnchjdhepakokaaGreatDoorSx Go.Proofs.YtnchjdhepakokaaGreatDoor Go.Lib
set_option maxRecDepth 100000
abbrev laid3 : List (String × DataW Unit) := [("math/bits.deBruijn32tab", Rows.laid_math_bits_deBruijn32tab), ("math/bits.deBruijn64tab", Rows.laid_math_bits_deBruijn64tab), ("internal/strconv.uint64pow10", Rows.laid_internal_strconv_uint64pow10), ("unicode/utf8.acceptRanges", Rows.laid_unicode_utf8_acceptRanges), ("strconv.ErrRange", Rows.laid_strconv_ErrRange), ("strconv.ErrSyntax", Rows.laid_strconv_ErrSyntax), ("longstop/decimal.powers", Rows.laid_longstop_decimal_powers), ("unicode/utf8.first", Rows.laid_unicode_utf8_first)]
theorem var_block {P : Program} {w : World} {n : String} {cs : Array Value} {g : Nat} (h : w.var? P n = some cs) (hg : P.globalNamed n = some g) : ∃ t f, w.heap[g]? = some (.cells cs t f) := by
  unfold World.var? at h
  rw [hg] at h
  simp only [Option.bind_some] at h
  split at h
  · rename_i cs' t f hb
    simp only [Option.some.injEq] at h
    exact ⟨t, f, by rw [hb, h]⟩
  · cases h
theorem tab_at {W : World} {n : String} {k : IntKind} {zs : List Int} {g : Nat} {t e : TypeId} {m : Nat} (h : VarReads Tryz.prog W n (Lib.tabData k zs)) (hg : Tryz.prog.globalNamed n = some g) (hy : (Tryz.prog.globals[g]?).map (·.type) = some t)
    (ht : Tryz.prog.underlying t = some (.array m e)) (he : Tryz.prog.underlying e = some (.int k)) (hce : Tryz.prog.cellsOf e = 1) (hct : Tryz.prog.cellsOf t = m) : ∃ t f, W.heap[g]? = some (.cells (zs.map (Value.int k)).toArray t f) := by
  obtain ⟨g', t', cs, fuel, p, h1, h2, h3, h4⟩ := h
  obtain rfl := Option.some.inj (hg.symm.trans h1)
  obtain rfl := Option.some.inj (hy.symm.trans h2)
  have hcs := cells_of_tab ht he hce hct h4
  obtain ⟨t, f, hb⟩ := var_block h3 hg
  refine ⟨t, f, ?_⟩
  rw [hb]
  congr 2
  apply Array.ext'
  rw [hcs]
theorem arr_len {H : Type} {enc : TypeId × Value → H} {P : Program} {w : World} {base : Nat} {sp : Nat → Bool} {held : Bool} {fuel : Nat} {t e : TypeId} {n : Nat} {cs : List Value} {ds : List (DataW H)} {p : List MemPlace} (ht : P.underlying t = some (.array n e))
    (h : DataW.trod enc P w base sp held fuel t cs = some (.agg ds, p)) : cs.length = P.cellsOf t := by
  cases fuel with
  | zero => simp [DataW.trod] at h
  | succ fuel =>
    simp only [DataW.trod, ht] at h
    split at h
    · rename_i hl
      exact hl
    · cases h
theorem acc_at {W : World} (h : VarReads Tryz.prog W "unicode/utf8.acceptRanges" acceptData) : ∃ t f, W.heap[1]? = some (.cells (accL.map (Value.int .u8)).toArray t f) := by
  obtain ⟨g', t', cs, fuel, p, h1, h2, h3, h4⟩ := h
  have hg : Tryz.prog.globalNamed "unicode/utf8.acceptRanges" = some 1 := by kernel_rfl
  have hy : (Tryz.prog.globals[1]?).map (·.type) = some 225 := by kernel_rfl
  have ht : Tryz.prog.underlying 225 = some (.array 16 224) := by kernel_rfl
  have hs : Tryz.prog.underlying 224 = some (TypeDesc.struct #[{ name := "lo", type := 5, offset := 0, embedded := false, tag := "", pkgPath := "unicode/utf8", byteOffset := 0 }, { name := "hi", type := 5, offset := 1, embedded := false, tag := "", pkgPath := "unicode/utf8", byteOffset := 1 }]) := by kernel_rfl
  have h5 : Tryz.prog.underlying 5 = some (.int .u8) := by kernel_rfl
  have c5 : Tryz.prog.cellsOf 5 = 1 := by kernel_rfl
  have c2 : Tryz.prog.cellsOf 224 = 2 := by kernel_rfl
  have c32 : Tryz.prog.cellsOf 225 = 32 := by kernel_rfl
  obtain rfl := Option.some.inj (hg.symm.trans h1)
  obtain rfl := Option.some.inj (hy.symm.trans h2)
  obtain ⟨t, f, hb⟩ := var_block h3 hg
  refine ⟨t, f, ?_⟩
  rw [hb]
  congr 2
  apply Array.ext'
  have hl := arr_len ht h4
  rw [c32] at hl
  have acc : ∀ k : _root_.Fin 16, accL[2 * k.val]? = some ((accLo k.val : Nat) : Int) ∧ accL[2 * k.val + 1]? = some ((accHi k.val : Nat) : Int) := by decide
  have hlen : accL.length = 32 := by decide
  apply List.ext_getElem?
  intro j
  by_cases hj : j < 32
  · obtain ⟨fuel', d, q, hdi, he⟩ := array_elem ht h4 (j / 2) (by omega)
    simp only [List.getElem?_map, List.getElem?_range (by omega : j / 2 < 16), Option.map_some, Option.some.injEq] at hdi
    subst hdi
    rw [c2] at he
    have hcs := ints_of_struct hs (fun j f hj => by
      match j, hj with
      | 0, hj => simp at hj; subst hj; exact ⟨h5, rfl, c5⟩
      | 1, hj => simp at hj; subst hj; exact ⟨h5, rfl, c5⟩
      | j + 2, hj => simp at hj) (by rw [c2]; rfl) he
    obtain ⟨a0, a1⟩ := acc ⟨j / 2, by omega⟩
    simp only at a0 a1
    have hj2 : j = 2 * (j / 2) ∨ j = 2 * (j / 2) + 1 := by omega
    rcases hj2 with e | e
    · have e0 : cs.toList[2 * (j / 2)]? = some (.int .u8 ((accLo (j / 2) : Nat) : Int)) := by
        have := congrArg (·[0]?) hcs
        simpa [List.getElem?_take, List.getElem?_drop, Nat.mul_comm] using this
      rw [List.getElem?_map, e, e0, a0]
      rfl
    · have e0 : cs.toList[2 * (j / 2) + 1]? = some (.int .u8 ((accHi (j / 2) : Nat) : Int)) := by
        have := congrArg (·[1]?) hcs
        simpa [List.getElem?_take, List.getElem?_drop, Nat.mul_comm] using this
      rw [List.getElem?_map, e, e0, a1]
      rfl
  · rw [List.getElem?_eq_none (by omega), List.getElem?_eq_none (by simp; omega)]
theorem cell_lt {w : World} {g : Nat} {v : Value} (h : w.cell? ⟨g, 0, none⟩ = some v) : g < w.heap.size := World.block_lt_of_cell? w ⟨g, 0, none⟩ h
theorem glob_in {W : World} (h : laidMetH Tryz.prog laid3 W) (hsh : W.ShapedOpen Tryz.prog) : GlobIn cE W := by
  rw [MakeChecks.laidMetH_plain _ _ _ (by kernel_rfl)] at h
  have g0 := tab_at (k := .u64) (zs := pow10) (m := 13) (e := 165) (t := 245) (laidMet.reads h (n := "longstop/decimal.powers") (d := Lib.tabData .u64 pow10) (by simp [laid3]; rfl)) (g := 2) (by kernel_rfl) (by kernel_rfl) (by kernel_rfl) (by kernel_rfl) (by kernel_rfl) (by kernel_rfl)
  have g1 := tab_at (k := .u8) (zs := firstTab) (m := 256) (e := 5) (t := 222) (laidMet.reads h (n := "unicode/utf8.first") (d := firstData) (by simp [laid3]; rfl)) (g := 0) (by kernel_rfl) (by kernel_rfl) (by kernel_rfl) (by kernel_rfl) (by kernel_rfl) (by kernel_rfl)
  have g2 := acc_at (laidMet.reads h (n := "unicode/utf8.acceptRanges") (d := acceptData) (by simp [laid3]; rfl))
  refine ⟨fun g vs hv => ?_, fun g p hp => ?_⟩
  · by_cases hg0 : g = 2
    · subst hg0
      have e : cE.gl 2 = .ints .u64 pow10 := rfl
      rw [e] at hv
      simp only [glAll, Option.some.injEq] at hv
      subst hv
      exact g0
    · by_cases hg1 : g = 0
      · subst hg1
        have e : cE.gl 0 = .ints .u8 firstL := rfl
        rw [e] at hv
        simp only [glAll, Option.some.injEq] at hv
        subst hv
        exact g1
      · by_cases hg2 : g = 1
        · subst hg2
          have e : cE.gl 1 = .ints .u8 accL := rfl
          rw [e] at hv
          simp only [glAll, Option.some.injEq] at hv
          subst hv
          exact g2
        · have e : cE.gl g = .no := by
            show (bif Nat.beq g 2 then _ else bif Nat.beq g 0 then _ else bif Nat.beq g 1 then _ else _) = _
            rw [nbeq_ne hg0, nbeq_ne hg1, nbeq_ne hg2]
            rfl
          rw [e] at hv
          cases hv
  · by_cases hg0 : g = 3
    · subst hg0
      have e : cE.ga 3 = some (fun v => ∃ m, v = .int .i64 m) := rfl
      rw [e] at hp
      obtain rfl := Option.some.inj hp
      obtain ⟨m, hm⟩ := cell_of_shapedOpen_int (P := Tryz.prog) (g := 3) (t := 3) (zero := #[.int .i64 0]) hsh (of_decide_eq_true (by kernel_rfl)) (by kernel_rfl) rfl (by kernel_rfl) (by kernel_rfl) Tryz.underlying3
      exact ⟨cell_lt hm, _, hm, m, rfl⟩
    · have e : cE.ga g = none := by
        show (bif Nat.beq g 3 then _ else _) = _
        rw [nbeq_ne hg0]
        rfl
      rw [e] at hp
      cases hp
/-- The wrap of a row over listed variables, the world's shape handed on. -/
theorem handed_shaped {H : Type} {enc : TypeId × Value → H} {a : Assume} {C : Checked} {os : Os} {f : FuncId} {fn : Func} {s : ChangeSpec} {conds : List PathCond} {apart fresh handsOn again : Bool} {X : World → Array Value → Prop}
    (hX : ∀ (w w' : World) (args : Array Value), w.heap = w'.heap → X w args → X w' args)
    (own : ownKnob C.prog.godebug = none) (started : os.Started) (noInit : C.prog.inits.idxOf? f = none) (hfn : C.prog.funcs[f]? = some fn)
    (wit : ∃ (w : World) (tape : Tape) (i : Input), w.os = os ∧ (w.forCall tape i).Shaped C.prog ∧ i.vars = [] ∧ Input.okWide C.prog (w.forCall tape i) .any w.heap.size f i ∧
      ((s.pre enc C.prog fn conds apart (w.forCall tape i).memory i.args ∧ X (w.forCall tape i).memory i.args) ∧ sizedMet enc C.prog fn (OpenSpec.ofChange s) apart (w.forCall tape i).memory i.args) ∧ a.holds C.prog (lone (Frame.enter C.prog f i.args .normal) [] (w.forCall tape i)))
    (run : ∀ (W : World) (base : Nat) (args : Array Value) (ds gs : List (DataW H)) (before : List MemPlace),
      (∀ (j : Nat) t v, fn.params[j]? = some t → args[j]? = some v → Value.okWide C.prog W .any base t v) →
      DataW.Whole enc C.prog fn.params.toList s.vars apart W args.toList ds gs before →
      conds.all (PathCond.test C.prog ⟨fn.params.toList, ds, s.plain.varTypes C.prog, gs⟩) = true →
      (DataW.weightsEach C.prog (fn.params.toList ++ s.plain.varTypes C.prog) (ds ++ gs)).all (· ≤ reachBytes) = true → X W args → W.ShapedOpen C.prog →
      a.holds C.prog (lone (Frame.enter C.prog f args .normal) [] W) →
      Calls C.prog f args W fun e W' => ∃ v, e = .returned v ∧ s.post enc C.prog fn apart fresh handsOn again W args v W') :
    ReturnsInHanded a C os f .any (fun w args => (s.pre enc C.prog fn conds apart w args ∧ X w args) ∧ sizedMet enc C.prog fn (OpenSpec.ofChange s) apart w args) (s.post enc C.prog fn apart fresh handsOn again) := by
  refine returnsInHanded_of_calls own started noInit wit ?_
  intro w tape i _ hsh _ ok hpre hh
  obtain ⟨_, _, _, g, hg, _, _, _, _, hval⟩ := ok
  obtain rfl : g = fn := Option.some.inj (hg.symm.trans hfn)
  obtain ⟨⟨⟨ds, gs, before, hw, hc⟩, hx⟩, hz⟩ := hpre
  have hw2 := DataW.Whole.of_heap (w' := w.forCall tape i) (by rfl) hw
  refine (run (w.forCall tape i) w.heap.size i.args ds gs before hval hw2 hc (hz.weights hw) (hX _ _ _ (by rfl) hx) hsh hh).mono fun e W' hv => ?_
  obtain ⟨v, he, hp⟩ := hv
  subst he
  exact ChangeSpec.post_blind hp
theorem sized_part {H : Type} {P : Program} {ts : List TypeId} {ds : List (DataW H)} (h : (DataW.weightsEach P ts ds).all (· ≤ reachBytes) = true) {j : Nat} {t : TypeId} {parts : List (DataW H)} {fs : Array Field} (ht : ts[j]? = some t) (hd : ds[j]? = some (.agg parts)) (hs : P.underlying t = some (.struct fs))
    {i : Nat} {t' : TypeId} {bytes : List UInt8} (ht' : (fs.toList.map (·.type))[i]? = some t') (hp : parts[i]? = some (.lit (.string bytes))) : bytes.length ≤ reachBytes := by
  have := List.all_eq_true.1 h _ (DataW.weights_mem_each ht hd bytes.length (by
    simp only [DataW.weights, hs]
    exact DataW.weights_mem_each ht' hp _ (by simp [DataW.weights])))
  simpa using this
end Go.Proofs.YtnchjdhepakokaaGreatDoorC
