import Derived.Test.YtnchjdhepakokaaGreatDoorM14
import Derived.Test.YtnchjdhepakokaaGreatDoorRows
import Derived.JoinedOf
import Derived.SevenTiedAt
import Derived.KernelRfl
import Derived.Test.YtnchjdhepakokaaGreatDoorM05
import Derived.Lib.LaidTab
import Derived.Lib.LaidU8T
import Derived.ProofKit
import Derived.MakeChecks
import Derived.Stop.LaidErr
import Derived.SizedLaws
/- The law EvalNulls. Printed by a program (wip/tools); Lean checks each. -/
namespace Go.Proofs.YtnchjdhepakokaaGreatDoorC
open Go.Proofs Go.Proofs.YtnchjdhepakokaaGreatDoorSx Go.Lib
set_option maxRecDepth 100000
set_option linter.unusedVariables false
def lNu (op k n m : Int) (s : ByteArray) : Value :=
  bif (!okV k n m s) then (.bool (true))
  else bif (IntKind.i64.wrap (IntKind.i64.wrap (IntKind.i64.wrap ((biV (IntKind.i64.wrap (6 + (IntKind.i64.wrap (op.tmod 11 + 11)).tmod 11)) k n m s 0 0 0 (ByteArray.mk #[])).snd.snd.snd.snd + (biV (IntKind.i64.wrap (6 + (IntKind.i64.wrap (op.tmod 11 + 11)).tmod 11)) 0 0 0 (ByteArray.mk #[]) k n m s).snd.snd.snd.snd) + (unV 5 k n m s).snd.snd.snd.snd) + 0) == 0) then bif ((biV (IntKind.i64.wrap (6 + (IntKind.i64.wrap (op.tmod 11 + 11)).tmod 11)) k n m s 0 0 0 (ByteArray.mk #[])).fst == 0) then bif ((biV (IntKind.i64.wrap (6 + (IntKind.i64.wrap (op.tmod 11 + 11)).tmod 11)) 0 0 0 (ByteArray.mk #[]) k n m s).fst == 0) then bif (((unV 5 k n m s).snd.fst == 1) == (k == 0)) then (.bool (true))
          else (.bool (false))
        else (.bool (false))
      else (.bool (false))
    else (.bool (false))
theorem lNu_does (op k n m : Int) (s : ByteArray) (hn : I64 n) (hm : I64 m) (hs : s.size ≤ 140737488351232) : Does cE 6 [] 0 [.v (it op), .v (vl k n m s)] (.v (lNu op k n m s)) [] 0 := by
  unfold lNu
  refine tbif (fun c1 => ?_) (fun c1 => ?_)
  · exact pth (fn := Tryz.f6) rfl (by kernel_rfl) [.c (.v (.bool (okV k n m s))) [] 0, .t, .c (.v (.bool (true))) [] 0] (by kernel_rfl) (cj (right4_does (k) (n) (m) (s) (by first | assumption | decide)) (cj c1 (cj (knows_does) cj0)))
  · refine tbif (fun c2 => ?_) (fun c2 => ?_)
    · refine tbif (fun c3 => ?_) (fun c3 => ?_)
      · refine tbif (fun c4 => ?_) (fun c4 => ?_)
        · refine tbif (fun c5 => ?_) (fun c5 => ?_)
          · exact pth (fn := Tryz.f6) rfl (by kernel_rfl) [.c (.v (.bool (okV k n m s))) [] 0, .f, .l, .l, .c (.v (.tuple #[(.agg #[(.int .i64 ((biV (IntKind.i64.wrap (6 + (IntKind.i64.wrap (op.tmod 11 + 11)).tmod 11)) k n m s 0 0 0 (ByteArray.mk #[])).fst)), (.int .i64 ((biV (IntKind.i64.wrap (6 + (IntKind.i64.wrap (op.tmod 11 + 11)).tmod 11)) k n m s 0 0 0 (ByteArray.mk #[])).snd.fst)), (.int .i64 ((biV (IntKind.i64.wrap (6 + (IntKind.i64.wrap (op.tmod 11 + 11)).tmod 11)) k n m s 0 0 0 (ByteArray.mk #[])).snd.snd.fst)), (.string ((biV (IntKind.i64.wrap (6 + (IntKind.i64.wrap (op.tmod 11 + 11)).tmod 11)) k n m s 0 0 0 (ByteArray.mk #[])).snd.snd.snd.fst))]), (.int .i64 ((biV (IntKind.i64.wrap (6 + (IntKind.i64.wrap (op.tmod 11 + 11)).tmod 11)) k n m s 0 0 0 (ByteArray.mk #[])).snd.snd.snd.snd))])) [] 0, .c (.v (.tuple #[(.agg #[(.int .i64 ((biV (IntKind.i64.wrap (6 + (IntKind.i64.wrap (op.tmod 11 + 11)).tmod 11)) 0 0 0 (ByteArray.mk #[]) k n m s).fst)), (.int .i64 ((biV (IntKind.i64.wrap (6 + (IntKind.i64.wrap (op.tmod 11 + 11)).tmod 11)) 0 0 0 (ByteArray.mk #[]) k n m s).snd.fst)), (.int .i64 ((biV (IntKind.i64.wrap (6 + (IntKind.i64.wrap (op.tmod 11 + 11)).tmod 11)) 0 0 0 (ByteArray.mk #[]) k n m s).snd.snd.fst)), (.string ((biV (IntKind.i64.wrap (6 + (IntKind.i64.wrap (op.tmod 11 + 11)).tmod 11)) 0 0 0 (ByteArray.mk #[]) k n m s).snd.snd.snd.fst))]), (.int .i64 ((biV (IntKind.i64.wrap (6 + (IntKind.i64.wrap (op.tmod 11 + 11)).tmod 11)) 0 0 0 (ByteArray.mk #[]) k n m s).snd.snd.snd.snd))])) [] 0, .c (.v (.tuple #[(.agg #[(.int .i64 ((unV 5 k n m s).fst)), (.int .i64 ((unV 5 k n m s).snd.fst)), (.int .i64 ((unV 5 k n m s).snd.snd.fst)), (.string ((unV 5 k n m s).snd.snd.snd.fst))]), (.int .i64 ((unV 5 k n m s).snd.snd.snd.snd))])) [] 0, .c (.v (.tuple #[(.agg #[(.int .i64 (0)), (.int .i64 (0)), (.int .i64 (0)), (.string ((ByteArray.mk #[])))]), (.int .i64 (0))])) [] 0, .e, .e, .e, .e, .t, .t, .t, .t, .t, .t, .t, .t, .t, .t, .t, .t, .l, .l, .l, .l, .l, .l, .l, .l, .t, .c (.v (.bool (true))) [] 0, .t] (by kernel_rfl) (cj (right4_does (k) (n) (m) (s) (by first | assumption | decide)) (cj c1 (cj (bi_does (IntKind.i64.wrap (6 + (IntKind.i64.wrap (op.tmod 11 + 11)).tmod 11)) (k) (n) (m) (s) (0) (0) (0) ((ByteArray.mk #[])) (by first | assumption | decide) (by first | assumption | decide) (by first | assumption | decide) (by first | assumption | decide) (by first | assumption | decide) (by first | assumption | decide)) (cj (bi_does (IntKind.i64.wrap (6 + (IntKind.i64.wrap (op.tmod 11 + 11)).tmod 11)) (0) (0) (0) ((ByteArray.mk #[])) (k) (n) (m) (s) (by first | assumption | decide) (by first | assumption | decide) (by first | assumption | decide) (by first | assumption | decide) (by first | assumption | decide) (by first | assumption | decide)) (cj (un_does (5) (k) (n) (m) (s) (by first | assumption | decide) (by first | assumption | decide) (by first | assumption | decide)) (cj (un_does (3) (0) (0) (0) ((ByteArray.mk #[])) (by first | assumption | decide) (by first | assumption | decide) (by first | assumption | decide)) (cj c2 (cj c2 (cj c2 (cj c2 (cj c3 (cj c3 (cj c3 (cj c3 (cj c4 (cj c4 (cj c4 (cj c4 (cj c5 (cj (knows_does) (cj c5 cj0)))))))))))))))))))))
          · exact pth (fn := Tryz.f6) rfl (by kernel_rfl) [.c (.v (.bool (okV k n m s))) [] 0, .f, .l, .l, .c (.v (.tuple #[(.agg #[(.int .i64 ((biV (IntKind.i64.wrap (6 + (IntKind.i64.wrap (op.tmod 11 + 11)).tmod 11)) k n m s 0 0 0 (ByteArray.mk #[])).fst)), (.int .i64 ((biV (IntKind.i64.wrap (6 + (IntKind.i64.wrap (op.tmod 11 + 11)).tmod 11)) k n m s 0 0 0 (ByteArray.mk #[])).snd.fst)), (.int .i64 ((biV (IntKind.i64.wrap (6 + (IntKind.i64.wrap (op.tmod 11 + 11)).tmod 11)) k n m s 0 0 0 (ByteArray.mk #[])).snd.snd.fst)), (.string ((biV (IntKind.i64.wrap (6 + (IntKind.i64.wrap (op.tmod 11 + 11)).tmod 11)) k n m s 0 0 0 (ByteArray.mk #[])).snd.snd.snd.fst))]), (.int .i64 ((biV (IntKind.i64.wrap (6 + (IntKind.i64.wrap (op.tmod 11 + 11)).tmod 11)) k n m s 0 0 0 (ByteArray.mk #[])).snd.snd.snd.snd))])) [] 0, .c (.v (.tuple #[(.agg #[(.int .i64 ((biV (IntKind.i64.wrap (6 + (IntKind.i64.wrap (op.tmod 11 + 11)).tmod 11)) 0 0 0 (ByteArray.mk #[]) k n m s).fst)), (.int .i64 ((biV (IntKind.i64.wrap (6 + (IntKind.i64.wrap (op.tmod 11 + 11)).tmod 11)) 0 0 0 (ByteArray.mk #[]) k n m s).snd.fst)), (.int .i64 ((biV (IntKind.i64.wrap (6 + (IntKind.i64.wrap (op.tmod 11 + 11)).tmod 11)) 0 0 0 (ByteArray.mk #[]) k n m s).snd.snd.fst)), (.string ((biV (IntKind.i64.wrap (6 + (IntKind.i64.wrap (op.tmod 11 + 11)).tmod 11)) 0 0 0 (ByteArray.mk #[]) k n m s).snd.snd.snd.fst))]), (.int .i64 ((biV (IntKind.i64.wrap (6 + (IntKind.i64.wrap (op.tmod 11 + 11)).tmod 11)) 0 0 0 (ByteArray.mk #[]) k n m s).snd.snd.snd.snd))])) [] 0, .c (.v (.tuple #[(.agg #[(.int .i64 ((unV 5 k n m s).fst)), (.int .i64 ((unV 5 k n m s).snd.fst)), (.int .i64 ((unV 5 k n m s).snd.snd.fst)), (.string ((unV 5 k n m s).snd.snd.snd.fst))]), (.int .i64 ((unV 5 k n m s).snd.snd.snd.snd))])) [] 0, .c (.v (.tuple #[(.agg #[(.int .i64 (0)), (.int .i64 (0)), (.int .i64 (0)), (.string ((ByteArray.mk #[])))]), (.int .i64 (0))])) [] 0, .e, .e, .e, .e, .t, .t, .t, .t, .t, .t, .t, .t, .t, .t, .t, .t, .l, .l, .l, .l, .l, .l, .l, .l, .f, .f] (by kernel_rfl) (cj (right4_does (k) (n) (m) (s) (by first | assumption | decide)) (cj c1 (cj (bi_does (IntKind.i64.wrap (6 + (IntKind.i64.wrap (op.tmod 11 + 11)).tmod 11)) (k) (n) (m) (s) (0) (0) (0) ((ByteArray.mk #[])) (by first | assumption | decide) (by first | assumption | decide) (by first | assumption | decide) (by first | assumption | decide) (by first | assumption | decide) (by first | assumption | decide)) (cj (bi_does (IntKind.i64.wrap (6 + (IntKind.i64.wrap (op.tmod 11 + 11)).tmod 11)) (0) (0) (0) ((ByteArray.mk #[])) (k) (n) (m) (s) (by first | assumption | decide) (by first | assumption | decide) (by first | assumption | decide) (by first | assumption | decide) (by first | assumption | decide) (by first | assumption | decide)) (cj (un_does (5) (k) (n) (m) (s) (by first | assumption | decide) (by first | assumption | decide) (by first | assumption | decide)) (cj (un_does (3) (0) (0) (0) ((ByteArray.mk #[])) (by first | assumption | decide) (by first | assumption | decide) (by first | assumption | decide)) (cj c2 (cj c2 (cj c2 (cj c2 (cj c3 (cj c3 (cj c3 (cj c3 (cj c4 (cj c4 (cj c4 (cj c4 (cj c5 (cj c5 cj0))))))))))))))))))))
        · exact pth (fn := Tryz.f6) rfl (by kernel_rfl) [.c (.v (.bool (okV k n m s))) [] 0, .f, .l, .l, .c (.v (.tuple #[(.agg #[(.int .i64 ((biV (IntKind.i64.wrap (6 + (IntKind.i64.wrap (op.tmod 11 + 11)).tmod 11)) k n m s 0 0 0 (ByteArray.mk #[])).fst)), (.int .i64 ((biV (IntKind.i64.wrap (6 + (IntKind.i64.wrap (op.tmod 11 + 11)).tmod 11)) k n m s 0 0 0 (ByteArray.mk #[])).snd.fst)), (.int .i64 ((biV (IntKind.i64.wrap (6 + (IntKind.i64.wrap (op.tmod 11 + 11)).tmod 11)) k n m s 0 0 0 (ByteArray.mk #[])).snd.snd.fst)), (.string ((biV (IntKind.i64.wrap (6 + (IntKind.i64.wrap (op.tmod 11 + 11)).tmod 11)) k n m s 0 0 0 (ByteArray.mk #[])).snd.snd.snd.fst))]), (.int .i64 ((biV (IntKind.i64.wrap (6 + (IntKind.i64.wrap (op.tmod 11 + 11)).tmod 11)) k n m s 0 0 0 (ByteArray.mk #[])).snd.snd.snd.snd))])) [] 0, .c (.v (.tuple #[(.agg #[(.int .i64 ((biV (IntKind.i64.wrap (6 + (IntKind.i64.wrap (op.tmod 11 + 11)).tmod 11)) 0 0 0 (ByteArray.mk #[]) k n m s).fst)), (.int .i64 ((biV (IntKind.i64.wrap (6 + (IntKind.i64.wrap (op.tmod 11 + 11)).tmod 11)) 0 0 0 (ByteArray.mk #[]) k n m s).snd.fst)), (.int .i64 ((biV (IntKind.i64.wrap (6 + (IntKind.i64.wrap (op.tmod 11 + 11)).tmod 11)) 0 0 0 (ByteArray.mk #[]) k n m s).snd.snd.fst)), (.string ((biV (IntKind.i64.wrap (6 + (IntKind.i64.wrap (op.tmod 11 + 11)).tmod 11)) 0 0 0 (ByteArray.mk #[]) k n m s).snd.snd.snd.fst))]), (.int .i64 ((biV (IntKind.i64.wrap (6 + (IntKind.i64.wrap (op.tmod 11 + 11)).tmod 11)) 0 0 0 (ByteArray.mk #[]) k n m s).snd.snd.snd.snd))])) [] 0, .c (.v (.tuple #[(.agg #[(.int .i64 ((unV 5 k n m s).fst)), (.int .i64 ((unV 5 k n m s).snd.fst)), (.int .i64 ((unV 5 k n m s).snd.snd.fst)), (.string ((unV 5 k n m s).snd.snd.snd.fst))]), (.int .i64 ((unV 5 k n m s).snd.snd.snd.snd))])) [] 0, .c (.v (.tuple #[(.agg #[(.int .i64 (0)), (.int .i64 (0)), (.int .i64 (0)), (.string ((ByteArray.mk #[])))]), (.int .i64 (0))])) [] 0, .e, .e, .e, .e, .t, .t, .t, .t, .t, .t, .t, .t, .f, .f, .f, .f, .l, .l, .l, .l, .l, .l, .l, .l, .l, .l] (by kernel_rfl) (cj (right4_does (k) (n) (m) (s) (by first | assumption | decide)) (cj c1 (cj (bi_does (IntKind.i64.wrap (6 + (IntKind.i64.wrap (op.tmod 11 + 11)).tmod 11)) (k) (n) (m) (s) (0) (0) (0) ((ByteArray.mk #[])) (by first | assumption | decide) (by first | assumption | decide) (by first | assumption | decide) (by first | assumption | decide) (by first | assumption | decide) (by first | assumption | decide)) (cj (bi_does (IntKind.i64.wrap (6 + (IntKind.i64.wrap (op.tmod 11 + 11)).tmod 11)) (0) (0) (0) ((ByteArray.mk #[])) (k) (n) (m) (s) (by first | assumption | decide) (by first | assumption | decide) (by first | assumption | decide) (by first | assumption | decide) (by first | assumption | decide) (by first | assumption | decide)) (cj (un_does (5) (k) (n) (m) (s) (by first | assumption | decide) (by first | assumption | decide) (by first | assumption | decide)) (cj (un_does (3) (0) (0) (0) ((ByteArray.mk #[])) (by first | assumption | decide) (by first | assumption | decide) (by first | assumption | decide)) (cj c2 (cj c2 (cj c2 (cj c2 (cj c3 (cj c3 (cj c3 (cj c3 (cj c4 (cj c4 (cj c4 (cj c4 cj0))))))))))))))))))
      · exact pth (fn := Tryz.f6) rfl (by kernel_rfl) [.c (.v (.bool (okV k n m s))) [] 0, .f, .l, .l, .c (.v (.tuple #[(.agg #[(.int .i64 ((biV (IntKind.i64.wrap (6 + (IntKind.i64.wrap (op.tmod 11 + 11)).tmod 11)) k n m s 0 0 0 (ByteArray.mk #[])).fst)), (.int .i64 ((biV (IntKind.i64.wrap (6 + (IntKind.i64.wrap (op.tmod 11 + 11)).tmod 11)) k n m s 0 0 0 (ByteArray.mk #[])).snd.fst)), (.int .i64 ((biV (IntKind.i64.wrap (6 + (IntKind.i64.wrap (op.tmod 11 + 11)).tmod 11)) k n m s 0 0 0 (ByteArray.mk #[])).snd.snd.fst)), (.string ((biV (IntKind.i64.wrap (6 + (IntKind.i64.wrap (op.tmod 11 + 11)).tmod 11)) k n m s 0 0 0 (ByteArray.mk #[])).snd.snd.snd.fst))]), (.int .i64 ((biV (IntKind.i64.wrap (6 + (IntKind.i64.wrap (op.tmod 11 + 11)).tmod 11)) k n m s 0 0 0 (ByteArray.mk #[])).snd.snd.snd.snd))])) [] 0, .c (.v (.tuple #[(.agg #[(.int .i64 ((biV (IntKind.i64.wrap (6 + (IntKind.i64.wrap (op.tmod 11 + 11)).tmod 11)) 0 0 0 (ByteArray.mk #[]) k n m s).fst)), (.int .i64 ((biV (IntKind.i64.wrap (6 + (IntKind.i64.wrap (op.tmod 11 + 11)).tmod 11)) 0 0 0 (ByteArray.mk #[]) k n m s).snd.fst)), (.int .i64 ((biV (IntKind.i64.wrap (6 + (IntKind.i64.wrap (op.tmod 11 + 11)).tmod 11)) 0 0 0 (ByteArray.mk #[]) k n m s).snd.snd.fst)), (.string ((biV (IntKind.i64.wrap (6 + (IntKind.i64.wrap (op.tmod 11 + 11)).tmod 11)) 0 0 0 (ByteArray.mk #[]) k n m s).snd.snd.snd.fst))]), (.int .i64 ((biV (IntKind.i64.wrap (6 + (IntKind.i64.wrap (op.tmod 11 + 11)).tmod 11)) 0 0 0 (ByteArray.mk #[]) k n m s).snd.snd.snd.snd))])) [] 0, .c (.v (.tuple #[(.agg #[(.int .i64 ((unV 5 k n m s).fst)), (.int .i64 ((unV 5 k n m s).snd.fst)), (.int .i64 ((unV 5 k n m s).snd.snd.fst)), (.string ((unV 5 k n m s).snd.snd.snd.fst))]), (.int .i64 ((unV 5 k n m s).snd.snd.snd.snd))])) [] 0, .c (.v (.tuple #[(.agg #[(.int .i64 (0)), (.int .i64 (0)), (.int .i64 (0)), (.string ((ByteArray.mk #[])))]), (.int .i64 (0))])) [] 0, .e, .e, .e, .e, .t, .t, .t, .t, .f, .f, .f, .f, .l, .l, .l, .l, .l, .l, .l, .l, .l, .l, .l, .l, .l, .l] (by kernel_rfl) (cj (right4_does (k) (n) (m) (s) (by first | assumption | decide)) (cj c1 (cj (bi_does (IntKind.i64.wrap (6 + (IntKind.i64.wrap (op.tmod 11 + 11)).tmod 11)) (k) (n) (m) (s) (0) (0) (0) ((ByteArray.mk #[])) (by first | assumption | decide) (by first | assumption | decide) (by first | assumption | decide) (by first | assumption | decide) (by first | assumption | decide) (by first | assumption | decide)) (cj (bi_does (IntKind.i64.wrap (6 + (IntKind.i64.wrap (op.tmod 11 + 11)).tmod 11)) (0) (0) (0) ((ByteArray.mk #[])) (k) (n) (m) (s) (by first | assumption | decide) (by first | assumption | decide) (by first | assumption | decide) (by first | assumption | decide) (by first | assumption | decide) (by first | assumption | decide)) (cj (un_does (5) (k) (n) (m) (s) (by first | assumption | decide) (by first | assumption | decide) (by first | assumption | decide)) (cj (un_does (3) (0) (0) (0) ((ByteArray.mk #[])) (by first | assumption | decide) (by first | assumption | decide) (by first | assumption | decide)) (cj c2 (cj c2 (cj c2 (cj c2 (cj c3 (cj c3 (cj c3 (cj c3 cj0))))))))))))))
    · exact pth (fn := Tryz.f6) rfl (by kernel_rfl) [.c (.v (.bool (okV k n m s))) [] 0, .f, .l, .l, .c (.v (.tuple #[(.agg #[(.int .i64 ((biV (IntKind.i64.wrap (6 + (IntKind.i64.wrap (op.tmod 11 + 11)).tmod 11)) k n m s 0 0 0 (ByteArray.mk #[])).fst)), (.int .i64 ((biV (IntKind.i64.wrap (6 + (IntKind.i64.wrap (op.tmod 11 + 11)).tmod 11)) k n m s 0 0 0 (ByteArray.mk #[])).snd.fst)), (.int .i64 ((biV (IntKind.i64.wrap (6 + (IntKind.i64.wrap (op.tmod 11 + 11)).tmod 11)) k n m s 0 0 0 (ByteArray.mk #[])).snd.snd.fst)), (.string ((biV (IntKind.i64.wrap (6 + (IntKind.i64.wrap (op.tmod 11 + 11)).tmod 11)) k n m s 0 0 0 (ByteArray.mk #[])).snd.snd.snd.fst))]), (.int .i64 ((biV (IntKind.i64.wrap (6 + (IntKind.i64.wrap (op.tmod 11 + 11)).tmod 11)) k n m s 0 0 0 (ByteArray.mk #[])).snd.snd.snd.snd))])) [] 0, .c (.v (.tuple #[(.agg #[(.int .i64 ((biV (IntKind.i64.wrap (6 + (IntKind.i64.wrap (op.tmod 11 + 11)).tmod 11)) 0 0 0 (ByteArray.mk #[]) k n m s).fst)), (.int .i64 ((biV (IntKind.i64.wrap (6 + (IntKind.i64.wrap (op.tmod 11 + 11)).tmod 11)) 0 0 0 (ByteArray.mk #[]) k n m s).snd.fst)), (.int .i64 ((biV (IntKind.i64.wrap (6 + (IntKind.i64.wrap (op.tmod 11 + 11)).tmod 11)) 0 0 0 (ByteArray.mk #[]) k n m s).snd.snd.fst)), (.string ((biV (IntKind.i64.wrap (6 + (IntKind.i64.wrap (op.tmod 11 + 11)).tmod 11)) 0 0 0 (ByteArray.mk #[]) k n m s).snd.snd.snd.fst))]), (.int .i64 ((biV (IntKind.i64.wrap (6 + (IntKind.i64.wrap (op.tmod 11 + 11)).tmod 11)) 0 0 0 (ByteArray.mk #[]) k n m s).snd.snd.snd.snd))])) [] 0, .c (.v (.tuple #[(.agg #[(.int .i64 ((unV 5 k n m s).fst)), (.int .i64 ((unV 5 k n m s).snd.fst)), (.int .i64 ((unV 5 k n m s).snd.snd.fst)), (.string ((unV 5 k n m s).snd.snd.snd.fst))]), (.int .i64 ((unV 5 k n m s).snd.snd.snd.snd))])) [] 0, .c (.v (.tuple #[(.agg #[(.int .i64 (0)), (.int .i64 (0)), (.int .i64 (0)), (.string ((ByteArray.mk #[])))]), (.int .i64 (0))])) [] 0, .e, .e, .e, .e, .f, .f, .f, .f, .l, .l, .l, .l, .l, .l, .l, .l, .l, .l, .l, .l, .l, .l, .l, .l, .l, .l] (by kernel_rfl) (cj (right4_does (k) (n) (m) (s) (by first | assumption | decide)) (cj c1 (cj (bi_does (IntKind.i64.wrap (6 + (IntKind.i64.wrap (op.tmod 11 + 11)).tmod 11)) (k) (n) (m) (s) (0) (0) (0) ((ByteArray.mk #[])) (by first | assumption | decide) (by first | assumption | decide) (by first | assumption | decide) (by first | assumption | decide) (by first | assumption | decide) (by first | assumption | decide)) (cj (bi_does (IntKind.i64.wrap (6 + (IntKind.i64.wrap (op.tmod 11 + 11)).tmod 11)) (0) (0) (0) ((ByteArray.mk #[])) (k) (n) (m) (s) (by first | assumption | decide) (by first | assumption | decide) (by first | assumption | decide) (by first | assumption | decide) (by first | assumption | decide) (by first | assumption | decide)) (cj (un_does (5) (k) (n) (m) (s) (by first | assumption | decide) (by first | assumption | decide) (by first | assumption | decide)) (cj (un_does (3) (0) (0) (0) ((ByteArray.mk #[])) (by first | assumption | decide) (by first | assumption | decide) (by first | assumption | decide)) (cj c2 (cj c2 (cj c2 (cj c2 cj0))))))))))
end Go.Proofs.YtnchjdhepakokaaGreatDoorC
/- The law of nulls: true. -/
namespace Go.Proofs.YtnchjdhepakokaaGreatDoorC
open Go.Proofs Go.Proofs.YtnchjdhepakokaaGreatDoorSx Go.RowKit Go.Lib
set_option maxRecDepth 100000
set_option linter.unusedVariables false
set_option linter.unusedSimpArgs false
theorem nul_right {op k n m : Int} {s : ByteArray} (h6 : 6 ≤ op) (h16 : op ≤ 16) (ho : okV k n m s = true) : biV op k n m s 0 0 0 bE = noV 0 ∧ biV op 0 0 0 bE k n m s = noV 0 := by
  have e0 : okV 0 0 0 bE = true := by unfold okV eqE; simp
  have a1 : decide (op < 6) = false := decide_eq_false (by omega)
  have a2 : decide (op > 18) = false := decide_eq_false (by omega)
  have a3 : decide (op ≥ 17) = false := decide_eq_false (by omega)
  constructor
  · unfold biV
    rw [a1, a2, a3, ho, e0]
    cases (k == 0) <;> rfl
  · unfold biV
    rw [a1, a2, a3, ho, e0]
    rfl
theorem nulls_law (op k n m : Int) (s : ByteArray) (ho : I64 op) (hn : I64 n) (hm : I64 m) (hs : s.size ≤ 140737488351232) : Does cE 6 [] 0 [.v (it op), .v (vl k n m s)] (.v (.bool true)) [] 0 := by
  have h := lNu_does op k n m s hn hm hs
  have e : lNu op k n m s = .bool true := by
    unfold lNu
    cases hok : okV k n m s
    · rfl
    · obtain ⟨o, h6, h16, e1⟩ : ∃ o : Int, 6 ≤ o ∧ o ≤ 16 ∧ IntKind.i64.wrap (6 + (IntKind.i64.wrap (op.tmod 11 + 11)).tmod 11) = o := by
        have t1 : -11 < op.tmod 11 := Int.lt_tmod_of_pos op (by decide)
        have t2 : op.tmod 11 < 11 := Int.tmod_lt_of_pos op (by decide)
        rw [wrap64 (n := op.tmod 11 + 11) (by omega) (by omega)]
        have t3 : 0 ≤ (op.tmod 11 + 11).tmod 11 := Int.tmod_nonneg 11 (by omega)
        have t4 : (op.tmod 11 + 11).tmod 11 < 11 := Int.tmod_lt_of_pos _ (by decide)
        rw [wrap64 (by omega) (by omega)]
        exact ⟨_, by omega, by omega, rfl⟩
      rw [e1]
      obtain ⟨b1, b2⟩ := nul_right h6 h16 hok
      have b1' : biV o k n m s 0 0 0 (ByteArray.mk #[]) = noV 0 := b1
      have b2' : biV o 0 0 0 (ByteArray.mk #[]) k n m s = noV 0 := b2
      rw [b1', b2']
      have u : unV 5 k n m s = ofV (bif (k == 0) then 1 else 0) := by
        unfold unV
        rw [hok]
        rfl
      rw [u]
      cases (k == 0) <;> rfl
  rw [e] at h
  exact h
theorem nulls_true (op k n m : Int) (s : ByteArray) (hop : (Lit.int .i64 op).wf = true) (hk : (Lit.int .i64 k).wf = true) (hn : (Lit.int .i64 n).wf = true) (hm : (Lit.int .i64 m).wf = true) (hs : s.size ≤ 140737488351232) (w : World) (hg : GlobIn cE w) :
    Calls Tryz.prog 6 #[it op, vl k n m s] w fun e w' => e = .returned (.bool true) ∧ Below w.heap.size w w' :=
  law_calls (E := cE) (l := [it op, vl k n m s]) (enters (fn := Tryz.f6) rfl (by kernel_rfl) rfl) (nulls_law op k n m s (i64_of hop) (i64_of hn) (i64_of hm) hs) w hg
end Go.Proofs.YtnchjdhepakokaaGreatDoorC
/- What the rows say of the whole program: each a closed fact, apart. -/
namespace Go.Proofs.YtnchjdhepakokaaGreatDoorJ
open Go.Proofs.YtnchjdhepakokaaGreatDoor
set_option maxRecDepth 100000
theorem bt {a b : Bool} (h : a = true) (k : b = true) : (a && b) = true := by rw [h, k]; rfl
theorem pLaid : laidOutB Tryz.prog = true := by kernel_rfl
theorem pMaps : mapsRowed Tryz.prog = true := by kernel_rfl
theorem pStops : (Tryz.prog.stops == []) = true := by kernel_rfl
theorem pKnobs : (Tryz.prog.stopKnobs == []) = true := by kernel_rfl
theorem pKeys : (Rows.evalStepsRow.plainKeys == Tryz.prog.plainKeys) = true := by kernel_rfl
theorem pHeard : Tryz.prog.stopsHeard = true := by kernel_rfl
theorem pMay : Tryz.prog.mayEnter = true := by kernel_rfl
theorem pLifts : (Rows.evalStepsRow.lifted == Tryz.prog.liftsFinal) = true := by kernel_rfl
theorem pMake : (Tryz.prog.make == some Rows.evalStepsRow.make) = true := by kernel_rfl
theorem pLooks : true = Tryz.prog.looks [] := by kernel_rfl
theorem pMain : Tryz.pinned.checked.prog.mainIs = some (true, "78437c3b7531760fed31a8607bae3fb8ec3b4f916377ea75976054335517be10".toList) := by kernel_rfl
end Go.Proofs.YtnchjdhepakokaaGreatDoorJ
/- What the listed package-level variables hold: the table of powers of ten, the two tables of unicode/utf8, cell for cell. -/
namespace Go.Proofs.YtnchjdhepakokaaGreatDoorC
open Go.Proofs Go.Proofs.YtnchjdhepakokaaGreatDoorSx Go.Proofs.YtnchjdhepakokaaGreatDoor Go.Lib
set_option maxRecDepth 100000
abbrev laid3 : List (String × DataW Unit) := [("unicode/utf8.acceptRanges", Rows.laid_unicode_utf8_acceptRanges), ("longstop/decimal.powers", Rows.laid_longstop_decimal_powers), ("unicode/utf8.first", Rows.laid_unicode_utf8_first)]
theorem var_block {P : Program} {w : World} {n : String} {cs : Array Value} {g : Nat} (h : w.var? P n = some cs) (hg : P.globalNamed n = some g) : ∃ t f, w.heap[g]? = some (.cells cs t f) := by
  unfold World.var? at h
  rw [hg] at h
  simp only [Option.bind_some] at h
  split at h
  · rename_i cs' t f hb
    simp only [Option.some.injEq] at h
    exact ⟨t, f, by rw [hb, h]⟩
  · cases h
theorem tab_at {W : World} {n : String} {k : IntKind} {zs : List Int} {g : Nat} {t e : TypeId} {m : Nat} (h : VarReads Tryz.prog W n (Lib.tabData k zs)) (hg : Tryz.prog.globalNamed n = some g) (hy : (Tryz.prog.globals[g]?).map (·.type) = some t)
    (ht : Tryz.prog.underlying t = some (.array m e)) (he : Tryz.prog.underlying e = some (.int k)) (hce : Tryz.prog.cellsOf e = 1) (hct : Tryz.prog.cellsOf t = m) : ∃ t f, W.heap[g]? = some (.cells (zs.map (Value.int k)).toArray t f) := by
  obtain ⟨g', t', cs, fuel, p, h1, h2, h3, h4⟩ := h
  obtain rfl := Option.some.inj (hg.symm.trans h1)
  obtain rfl := Option.some.inj (hy.symm.trans h2)
  have hcs := cells_of_tab ht he hce hct h4
  obtain ⟨t, f, hb⟩ := var_block h3 hg
  refine ⟨t, f, ?_⟩
  rw [hb]
  congr 2
  apply Array.ext'
  rw [hcs]
theorem arr_len {H : Type} {enc : TypeId × Value → H} {P : Program} {w : World} {base : Nat} {sp : Nat → Bool} {held : Bool} {fuel : Nat} {t e : TypeId} {n : Nat} {cs : List Value} {ds : List (DataW H)} {p : List MemPlace} (ht : P.underlying t = some (.array n e))
    (h : DataW.trod enc P w base sp held fuel t cs = some (.agg ds, p)) : cs.length = P.cellsOf t := by
  cases fuel with
  | zero => simp [DataW.trod] at h
  | succ fuel =>
    simp only [DataW.trod, ht] at h
    split at h
    · rename_i hl
      exact hl
    · cases h
theorem acc_at {W : World} (h : VarReads Tryz.prog W "unicode/utf8.acceptRanges" acceptData) : ∃ t f, W.heap[1]? = some (.cells (accL.map (Value.int .u8)).toArray t f) := by
  obtain ⟨g', t', cs, fuel, p, h1, h2, h3, h4⟩ := h
  have hg : Tryz.prog.globalNamed "unicode/utf8.acceptRanges" = some 1 := by kernel_rfl
  have hy : (Tryz.prog.globals[1]?).map (·.type) = some 225 := by kernel_rfl
  have ht : Tryz.prog.underlying 225 = some (.array 16 224) := by kernel_rfl
  have hs : Tryz.prog.underlying 224 = some (TypeDesc.struct #[{ name := "lo", type := 5, offset := 0, embedded := false, tag := "", pkgPath := "unicode/utf8", byteOffset := 0 }, { name := "hi", type := 5, offset := 1, embedded := false, tag := "", pkgPath := "unicode/utf8", byteOffset := 1 }]) := by kernel_rfl
  have h5 : Tryz.prog.underlying 5 = some (.int .u8) := by kernel_rfl
  have c5 : Tryz.prog.cellsOf 5 = 1 := by kernel_rfl
  have c2 : Tryz.prog.cellsOf 224 = 2 := by kernel_rfl
  have c32 : Tryz.prog.cellsOf 225 = 32 := by kernel_rfl
  obtain rfl := Option.some.inj (hg.symm.trans h1)
  obtain rfl := Option.some.inj (hy.symm.trans h2)
  obtain ⟨t, f, hb⟩ := var_block h3 hg
  refine ⟨t, f, ?_⟩
  rw [hb]
  congr 2
  apply Array.ext'
  have hl := arr_len ht h4
  rw [c32] at hl
  have acc : ∀ k : _root_.Fin 16, accL[2 * k.val]? = some ((accLo k.val : Nat) : Int) ∧ accL[2 * k.val + 1]? = some ((accHi k.val : Nat) : Int) := by decide
  have hlen : accL.length = 32 := by decide
  apply List.ext_getElem?
  intro j
  by_cases hj : j < 32
  · obtain ⟨fuel', d, q, hdi, he⟩ := array_elem ht h4 (j / 2) (by omega)
    simp only [List.getElem?_map, List.getElem?_range (by omega : j / 2 < 16), Option.map_some, Option.some.injEq] at hdi
    subst hdi
    rw [c2] at he
    have hcs := ints_of_struct hs (fun j f hj => by
      match j, hj with
      | 0, hj => simp at hj; subst hj; exact ⟨h5, rfl, c5⟩
      | 1, hj => simp at hj; subst hj; exact ⟨h5, rfl, c5⟩
      | j + 2, hj => simp at hj) (by rw [c2]; rfl) he
    obtain ⟨a0, a1⟩ := acc ⟨j / 2, by omega⟩
    simp only at a0 a1
    have hj2 : j = 2 * (j / 2) ∨ j = 2 * (j / 2) + 1 := by omega
    rcases hj2 with e | e
    · have e0 : cs.toList[2 * (j / 2)]? = some (.int .u8 ((accLo (j / 2) : Nat) : Int)) := by
        have := congrArg (·[0]?) hcs
        simpa [List.getElem?_take, List.getElem?_drop, Nat.mul_comm] using this
      rw [List.getElem?_map, e, e0, a0]
      rfl
    · have e0 : cs.toList[2 * (j / 2) + 1]? = some (.int .u8 ((accHi (j / 2) : Nat) : Int)) := by
        have := congrArg (·[1]?) hcs
        simpa [List.getElem?_take, List.getElem?_drop, Nat.mul_comm] using this
      rw [List.getElem?_map, e, e0, a1]
      rfl
  · rw [List.getElem?_eq_none (by omega), List.getElem?_eq_none (by simp; omega)]
theorem glob_in {W : World} (h : laidMetH Tryz.prog laid3 W) : GlobIn cE W := by
  rw [MakeChecks.laidMetH_plain _ _ _ (by kernel_rfl)] at h
  have g0 := tab_at (k := .u8) (zs := firstTab) (m := 256) (e := 5) (t := 222) (laidMet.reads h (n := "unicode/utf8.first") (d := firstData) (by simp [laid3]; rfl)) (g := 0) (by kernel_rfl) (by kernel_rfl) (by kernel_rfl) (by kernel_rfl) (by kernel_rfl) (by kernel_rfl)
  have g1 := acc_at (laidMet.reads h (n := "unicode/utf8.acceptRanges") (d := acceptData) (by simp [laid3]; rfl))
  have g2 := tab_at (k := .u64) (zs := pow10) (m := 13) (e := 165) (t := 245) (laidMet.reads h (n := "longstop/decimal.powers") (d := Lib.tabData .u64 pow10) (by simp [laid3]; rfl)) (g := 2) (by kernel_rfl) (by kernel_rfl) (by kernel_rfl) (by kernel_rfl) (by kernel_rfl) (by kernel_rfl)
  intro g vs hv
  by_cases hg : g = 2
  · subst hg
    have e : cE.gl 2 = .ints .u64 pow10 := rfl
    rw [e] at hv
    simp only [glAll, Option.some.injEq] at hv
    subst hv
    exact g2
  · by_cases hg0 : g = 0
    · subst hg0
      have e : cE.gl 0 = .ints .u8 firstL := rfl
      rw [e] at hv
      simp only [glAll, Option.some.injEq] at hv
      subst hv
      exact g0
    · by_cases hg1 : g = 1
      · subst hg1
        have e : cE.gl 1 = .ints .u8 accL := rfl
        rw [e] at hv
        simp only [glAll, Option.some.injEq] at hv
        subst hv
        exact g1
      · have e : cE.gl g = .no := by
          show (bif Nat.beq g 2 then _ else bif Nat.beq g 0 then _ else bif Nat.beq g 1 then _ else _) = _
          rw [nbeq_ne hg, nbeq_ne hg0, nbeq_ne hg1]
          rfl
        rw [e] at hv
        cases hv
theorem sized_part {H : Type} {P : Program} {ts : List TypeId} {ds : List (DataW H)} (h : (DataW.weightsEach P ts ds).all (· ≤ reachBytes) = true) {j : Nat} {t : TypeId} {parts : List (DataW H)} {fs : Array Field} (ht : ts[j]? = some t) (hd : ds[j]? = some (.agg parts)) (hs : P.underlying t = some (.struct fs))
    {i : Nat} {t' : TypeId} {bytes : List UInt8} (ht' : (fs.toList.map (·.type))[i]? = some t') (hp : parts[i]? = some (.lit (.string bytes))) : bytes.length ≤ reachBytes := by
  have := List.all_eq_true.1 h _ (DataW.weights_mem_each ht hd bytes.length (by
    simp only [DataW.weights, hs]
    exact DataW.weights_mem_each ht' hp _ (by simp [DataW.weights])))
  simpa using this
end Go.Proofs.YtnchjdhepakokaaGreatDoorC
