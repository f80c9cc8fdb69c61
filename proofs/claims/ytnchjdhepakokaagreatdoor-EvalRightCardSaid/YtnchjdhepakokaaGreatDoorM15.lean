import Derived.Test.YtnchjdhepakokaaGreatDoorM14
import Derived.Test.YtnchjdhepakokaaGreatDoorRows
import Derived.JoinedOf
import Derived.SevenTiedAt
import Derived.KernelRfl
import Derived.Test.YtnchjdhepakokaaGreatDoorM05
import Derived.Lib.LaidTab
import Derived.Lib.LaidU8T
import Derived.ProofKit
import Derived.MakeChecks
import Derived.Stop.LaidErr
import Derived.SizedLaws
/- What comes of a step may be a value, and nothing comes of one that fails. -/
namespace Go.Proofs.YtnchjdhepakokaaGreatDoorC
open Go.Proofs Go.Proofs.YtnchjdhepakokaaGreatDoorSx Go.Lib
set_option maxRecDepth 100000
set_option linter.unusedVariables false
set_option linter.unusedSimpArgs false
def GoodA (r : Ans) : Prop := (okV r.1 r.2.1 r.2.2.1 r.2.2.2.1 = true ∧ (r.2.2.2.2 = 0 ∨ r.1 = 0)) ∧ r.2.2.2.1.size ≤ 140737488351232
theorem eqE_bE : eqE bE = true := by unfold eqE; simp
theorem size_bE : bE.size ≤ 140737488351232 := by decide
theorem good_no (e : Int) : GoodA (noV e) := ⟨⟨by unfold okV; rw [eqE_bE]; rfl, .inr rfl⟩, size_bE⟩
theorem good_of (t : Int) : GoodA (ofV t) := by
  refine ⟨⟨?_, .inl rfl⟩, size_bE⟩
  by_cases h0 : t = 0
  · subst h0; unfold okV; rw [eqE_bE]; rfl
  · by_cases h1 : t = 1
    · subst h1; unfold okV; rw [eqE_bE]; rfl
    · have e1 : ofK t = 0 := if_neg (by omega)
      have e2 : ofN t = 0 := if_neg (by omega)
      change okV (ofK t) (ofN t) 0 bE = true
      rw [e1, e2]
      unfold okV; rw [eqE_bE]; rfl
theorem good_if {c : Bool} {a b : Ans} (ha : GoodA a) (hb : GoodA b) : GoodA (bif c then a else b) := by
  cases c
  · exact hb
  · exact ha
theorem good_int (x : Int) : GoodA (1, x, 0, bE, 0) := ⟨⟨by unfold okV; rw [eqE_bE]; rfl, .inl rfl⟩, size_bE⟩
theorem good_dec {x y : Int} (h : 0 ≤ y ∧ y ≤ 6) : GoodA (2, x, y, bE, 0) := ⟨⟨by unfold okV; rw [eqE_bE]; change (decide (0 ≤ y) && decide (y ≤ 6) && true) = true; simp; exact h, .inl rfl⟩, size_bE⟩
theorem good_point {x y : Int} (h : rt x y = true) : GoodA (5, x, y, bE, 0) := ⟨⟨by unfold okV; rw [eqE_bE]; change (rt x y && true) = true; rw [h]; rfl, .inl rfl⟩, size_bE⟩
theorem good_mkI (r : Int × Int × Int) : GoodA (mkI r) := good_if (good_no _) (good_int _)
theorem good_mkD {r : Int × Int × Int} (h : r.2.2 = 0 → 0 ≤ r.2.1 ∧ r.2.1 ≤ 6) : GoodA (mkD r) := by
  unfold mkD
  cases hc : (r.2.2 != 0)
  · exact good_dec (h (by simpa using hc))
  · exact good_no _
theorem good_mkP {r : Int × Int × Int} (h : r.2.2 = 0 → rt r.1 r.2.1 = true) : GoodA (mkP r) := by
  unfold mkP
  cases hc : (r.2.2 != 0)
  · exact good_point (h (by simpa using hc))
  · exact good_no _
theorem fit_sc {a : Int} {b : Bool} {c : Int} : (fitP a b c).2.2 = 0 → (fitP a b c).2.1 = c := by
  unfold fitP
  split
  · intro _; rfl
  · intro h; cases h
theorem mul_sc {u x v y : Int} (h : (mulM u x v y).2.2 = 0) : 0 ≤ (mulM u x v y).2.1 ∧ (mulM u x v y).2.1 ≤ 6 := by
  unfold mulM at h ⊢
  by_cases hs : sc6 x ∧ sc6 y
  · rw [if_pos hs] at h ⊢
    by_cases h6 : x + y > 6
    · rw [if_pos h6] at h ⊢; rw [fit_sc h]; decide
    · rw [if_neg h6] at h ⊢; rw [fit_sc h]; exact ⟨by omega, by omega⟩
  · rw [if_neg hs] at h; cases h
theorem sum_sc {u x v y : Int} {t : Bool} (h : (sumM u x v y t).2.2 = 0) : 0 ≤ (sumM u x v y t).2.1 ∧ (sumM u x v y t).2.1 ≤ 6 := by
  unfold sumM at h ⊢
  by_cases hs : sc6 x ∧ sc6 y
  · rw [if_pos hs] at h ⊢
    rw [fit_sc h]
    unfold mx
    split <;> omega
  · rw [if_neg hs] at h; cases h
theorem div_sc {u x v y : Int} (h : (divM u x v y 6).2.2 = 0) : 0 ≤ (divM u x v y 6).2.1 ∧ (divM u x v y 6).2.1 ≤ 6 := by
  unfold divM at h ⊢
  by_cases hs : sc6 x ∧ sc6 y ∧ sc6 6
  · rw [if_pos hs] at h ⊢
    by_cases h0 : v = 0
    · rw [if_pos h0] at h; cases h
    · rw [if_neg h0] at h ⊢; rw [fit_sc h]; decide
  · rw [if_neg hs] at h; cases h
theorem gA_rt {x y z u X Y : Int} (h : (gA x y z u X Y).2.2 = 0) : rt (gA x y z u X Y).1 (gA x y z u X Y).2.1 = true := by
  unfold gA at h ⊢
  cases h1 : (rt x y && rt z u)
  · rw [h1] at h; cases h
  · rw [h1] at h
    cases h2 : rt X Y
    · rw [h2] at h; cases h
    · exact h2
theorem gd_rt {x y z u : Int} (h : (gdV x y z u).2.2.2.2 = 0) : rt (gdV x y z u).1 (gdV x y z u).2.1 = true ∧ rt (gdV x y z u).2.2.1 (gdV x y z u).2.2.2.1 = true := by
  unfold gdV at h ⊢
  cases h1 : (rt x y && rt z u)
  · rw [h1] at h; cases h
  · rw [h1] at h
    cases h2 : (z == 0 && u == 0)
    · rw [h2] at h
      generalize Go.Proofs.YtnchjdhepakokaaGreatDoorGG.qx x y z u = a at h ⊢
      generalize Go.Proofs.YtnchjdhepakokaaGreatDoorGG.qy x y z u = b at h ⊢
      generalize Go.Proofs.YtnchjdhepakokaaGreatDoorGG.rx x y z u = c at h ⊢
      generalize Go.Proofs.YtnchjdhepakokaaGreatDoorGG.ry x y z u = d at h ⊢
      cases h3 : (rt a b && rt c d)
      · rw [h3] at h; cases h
      · simp only [Bool.and_eq_true] at h3
        exact h3
    · rw [h2] at h; cases h
theorem tn_rt (x y : Int) : rt (tnV x y 2).1 (tnV x y 2).2 = true := by
  unfold tnV
  cases h : rt x y
  · change rt 0 0 = true
    decide
  · change rt (Go.Proofs.YtnchjdhepakokaaGreatDoorGG.rotN 2 (x, y)).1 (Go.Proofs.YtnchjdhepakokaaGreatDoorGG.rotN 2 (x, y)).2 = true
    have e : Go.Proofs.YtnchjdhepakokaaGreatDoorGG.rotN 2 (x, y) = (-x, -y) := by simp [Go.Proofs.YtnchjdhepakokaaGreatDoorGG.rotN]
    rw [e]
    unfold rt Go.Proofs.YtnchjdhepakokaaGreatDoorGG.rt at h ⊢
    simp at h ⊢
    omega
theorem un_good (op k n m : Int) (s : ByteArray) (hs : s.size ≤ 140737488351232) : GoodA (unV op k n m s) := by
  unfold unV
  cases ho : okV k n m s
  · exact good_no 1
  · refine good_if (good_no _) (good_if (good_of _) (good_if (good_if (good_of _) (good_no _)) (good_if ?_ (good_no _))))
    unfold ngV
    exact good_if ⟨⟨ho, .inl rfl⟩, hs⟩ (good_if (good_mkI _) (good_if (good_mkD sum_sc) (good_if (good_point (tn_rt n m)) (good_no _))))
theorem bi_good (op k n m : Int) (s : ByteArray) (j p q : Int) (u : ByteArray) (hs : s.size ≤ 140737488351232) (hu : u.size ≤ 140737488351232) : GoodA (biV op k n m s j p q u) := by
  unfold biV
  refine good_if (good_no _) (good_if (good_no _) ?_)
  cases h1 : okV k n m s
  · exact good_no 1
  · cases h2 : okV j p q u
    · exact good_no 1
    · refine good_if (good_no _) (good_if (good_no _) (good_if ?_ (good_if (good_no _) (good_if (good_no _) (good_if ?_ (good_if (good_of _) (good_if (good_no _) (good_of _))))))))
      · unfold loV
        exact good_if (good_no _) (good_if (good_no _) (good_if (good_of _) (good_of _)))
      · unfold reV
        refine good_if ?_ (good_if ?_ (good_if ?_ ?_))
        · unfold iiV
          exact good_if (good_no _) (good_int _)
        · unfold deV
          exact good_if (good_mkD mul_sc) (good_if (good_mkD div_sc) (good_if (good_mkD sum_sc) (good_if (good_mkD sum_sc) (good_no _))))
        · unfold poV
          exact good_if (good_mkP gA_rt) (good_if (good_mkP gA_rt) (good_if (good_mkP gA_rt) (good_if (good_mkP fun h => (gd_rt h).1) (good_mkP fun h => (gd_rt h).2))))
        · cases h3 : (k == 3 && j == 3 && op == 9)
          · exact good_no _
          · simp only [Bool.and_eq_true, beq_iff_eq] at h3
            obtain ⟨⟨rfl, rfl⟩, _⟩ := h3
            unfold txV
            rw [wrap64 (by omega) (by omega)]
            cases h4 : decide ((s.size : Int) + (u.size : Int) > 256)
            · have h5 := of_decide_eq_false h4
              change (n == 0 && m == 0 && decide ((s.size : Int) ≤ 256) && validD s.data.toList) = true at h1
              change (p == 0 && q == 0 && decide ((u.size : Int) ≤ 256) && validD u.data.toList) = true at h2
              simp only [Bool.and_eq_true] at h1 h2
              have e3 : (s ++ u).size = s.size + u.size := by simp
              refine ⟨⟨?_, .inl rfl⟩, by change (s ++ u).size ≤ _; omega⟩
              change (true && true && decide (((s ++ u).size : Int) ≤ 256) && validD (s ++ u).data.toList) = true
              have e1 : (s ++ u).data.toList = s.data.toList ++ u.data.toList := by simp
              have e2 : ((s ++ u).size : Int) ≤ 256 := by
                have : (s ++ u).size = s.size + u.size := by simp
                omega
              rw [e1, decide_eq_true e2, validD_append _ _ _ (Nat.le_refl _) h1.2 h2.2]
              rfl
            · exact good_no _
theorem bi_null {op k n m j p q : Int} {s u : ByteArray} (hs : s.size ≤ 140737488351232) (hu : u.size ≤ 140737488351232) (h : ((biV op k n m s j p q u).2.2.2.2 == 0) = false) : ((biV op k n m s j p q u).1 == 0) = true := by
  rcases (bi_good op k n m s j p q u hs hu).1.2 with e | e
  · rw [e] at h; cases h
  · rw [e]; rfl
theorem un_null {op k n m : Int} {s : ByteArray} (hs : s.size ≤ 140737488351232) (h : ((unV op k n m s).2.2.2.2 == 0) = false) : ((unV op k n m s).1 == 0) = true := by
  rcases (un_good op k n m s hs).1.2 with e | e
  · rw [e] at h; cases h
  · rw [e]; rfl
end Go.Proofs.YtnchjdhepakokaaGreatDoorC
/- The law EvalRight. Printed by a program (wip/tools); Lean checks each. -/
namespace Go.Proofs.YtnchjdhepakokaaGreatDoorC
open Go.Proofs Go.Proofs.YtnchjdhepakokaaGreatDoorSx Go.Lib
set_option maxRecDepth 100000
set_option linter.unusedVariables false
def lRi (op k n m j p q : Int) (s u : ByteArray) : Value :=
  bif ((biV op k n m s j p q u).snd.snd.snd.snd == 0) then bif ((unV op k n m s).snd.snd.snd.snd == 0) then (.bool (true))
    else bif ((unV op k n m s).fst == 0) then (.bool (true))
      else (.bool (false))
  else bif ((unV op k n m s).snd.snd.snd.snd == 0) then (.bool (true))
    else bif ((unV op k n m s).fst == 0) then (.bool (true))
      else (.bool (false))
theorem lRi_does (op k n m j p q : Int) (s u : ByteArray) (hn : I64 n) (hm : I64 m) (hs : s.size ≤ 140737488351232) (hp : I64 p) (hq : I64 q) (hu : u.size ≤ 140737488351232) : Does cE 5 [] 0 [.v (it op), .v (vl k n m s), .v (vl j p q u)] (.v (lRi op k n m j p q s u)) [] 0 := by
  unfold lRi
  have c1 : (okV (biV op k n m s j p q u).fst (biV op k n m s j p q u).snd.fst (biV op k n m s j p q u).snd.snd.fst (biV op k n m s j p q u).snd.snd.snd.fst) = true := by first | exact (bi_good op k n m s j p q u hs hu).1.1 | exact (un_good op k n m s hs).1.1 | exact bi_null hs hu c3
  have c2 : (okV (unV op k n m s).fst (unV op k n m s).snd.fst (unV op k n m s).snd.snd.fst (unV op k n m s).snd.snd.snd.fst) = true := by first | exact (bi_good op k n m s j p q u hs hu).1.1 | exact (un_good op k n m s hs).1.1 | exact bi_null hs hu c3
  refine tbif (fun c3 => ?_) (fun c3 => ?_)
  · refine tbif (fun c4 => ?_) (fun c4 => ?_)
    · exact pth (fn := Tryz.f5) rfl (by kernel_rfl) [.c (.v (.tuple #[(.agg #[(.int .i64 ((biV op k n m s j p q u).fst)), (.int .i64 ((biV op k n m s j p q u).snd.fst)), (.int .i64 ((biV op k n m s j p q u).snd.snd.fst)), (.string ((biV op k n m s j p q u).snd.snd.snd.fst))]), (.int .i64 ((biV op k n m s j p q u).snd.snd.snd.snd))])) [] 0, .c (.v (.tuple #[(.agg #[(.int .i64 ((unV op k n m s).fst)), (.int .i64 ((unV op k n m s).snd.fst)), (.int .i64 ((unV op k n m s).snd.snd.fst)), (.string ((unV op k n m s).snd.snd.snd.fst))]), (.int .i64 ((unV op k n m s).snd.snd.snd.snd))])) [] 0, .c (.v (.bool (okV (biV op k n m s j p q u).fst (biV op k n m s j p q u).snd.fst (biV op k n m s j p q u).snd.snd.fst (biV op k n m s j p q u).snd.snd.snd.fst))) [] 0, .t, .t, .c (.v (.bool (okV (unV op k n m s).fst (unV op k n m s).snd.fst (unV op k n m s).snd.snd.fst (unV op k n m s).snd.snd.snd.fst))) [] 0, .t, .t, .t, .e, .t, .t, .t, .t, .t, .t, .t, .t, .l, .l, .e, .l, .l, .t, .t, .t, .l, .t, .l, .l, .c (.v (.bool (true))) [] 0, .l] (by kernel_rfl) (cj (bi_does (op) (k) (n) (m) (s) (j) (p) (q) (u) (by first | assumption | decide | exact (bi_good op k n m s j p q u hs hu).2 | exact (un_good op k n m s hs).2) (by first | assumption | decide | exact (bi_good op k n m s j p q u hs hu).2 | exact (un_good op k n m s hs).2) (by first | assumption | decide | exact (bi_good op k n m s j p q u hs hu).2 | exact (un_good op k n m s hs).2) (by first | assumption | decide | exact (bi_good op k n m s j p q u hs hu).2 | exact (un_good op k n m s hs).2) (by first | assumption | decide | exact (bi_good op k n m s j p q u hs hu).2 | exact (un_good op k n m s hs).2) (by first | assumption | decide | exact (bi_good op k n m s j p q u hs hu).2 | exact (un_good op k n m s hs).2)) (cj (un_does (op) (k) (n) (m) (s) (by first | assumption | decide | exact (bi_good op k n m s j p q u hs hu).2 | exact (un_good op k n m s hs).2) (by first | assumption | decide | exact (bi_good op k n m s j p q u hs hu).2 | exact (un_good op k n m s hs).2) (by first | assumption | decide | exact (bi_good op k n m s j p q u hs hu).2 | exact (un_good op k n m s hs).2)) (cj (right4_does ((biV op k n m s j p q u).fst) ((biV op k n m s j p q u).snd.fst) ((biV op k n m s j p q u).snd.snd.fst) ((biV op k n m s j p q u).snd.snd.snd.fst) (by first | assumption | decide | exact (bi_good op k n m s j p q u hs hu).2 | exact (un_good op k n m s hs).2)) (cj c1 (cj c1 (cj (right4_does ((unV op k n m s).fst) ((unV op k n m s).snd.fst) ((unV op k n m s).snd.snd.fst) ((unV op k n m s).snd.snd.snd.fst) (by first | assumption | decide | exact (bi_good op k n m s j p q u hs hu).2 | exact (un_good op k n m s hs).2)) (cj c1 (cj c2 (cj c2 (cj c2 (cj c2 (cj c3 (cj c3 (cj c3 (cj c2 (cj c3 (cj c2 (cj c4 (cj c4 (cj c4 (cj c4 (cj (knows_does) cj0))))))))))))))))))))))
    · refine tbif (fun c5 => ?_) (fun c5 => ?_)
      · exact pth (fn := Tryz.f5) rfl (by kernel_rfl) [.c (.v (.tuple #[(.agg #[(.int .i64 ((biV op k n m s j p q u).fst)), (.int .i64 ((biV op k n m s j p q u).snd.fst)), (.int .i64 ((biV op k n m s j p q u).snd.snd.fst)), (.string ((biV op k n m s j p q u).snd.snd.snd.fst))]), (.int .i64 ((biV op k n m s j p q u).snd.snd.snd.snd))])) [] 0, .c (.v (.tuple #[(.agg #[(.int .i64 ((unV op k n m s).fst)), (.int .i64 ((unV op k n m s).snd.fst)), (.int .i64 ((unV op k n m s).snd.snd.fst)), (.string ((unV op k n m s).snd.snd.snd.fst))]), (.int .i64 ((unV op k n m s).snd.snd.snd.snd))])) [] 0, .c (.v (.bool (okV (biV op k n m s j p q u).fst (biV op k n m s j p q u).snd.fst (biV op k n m s j p q u).snd.snd.fst (biV op k n m s j p q u).snd.snd.snd.fst))) [] 0, .t, .t, .c (.v (.bool (okV (unV op k n m s).fst (unV op k n m s).snd.fst (unV op k n m s).snd.snd.fst (unV op k n m s).snd.snd.snd.fst))) [] 0, .t, .t, .t, .e, .t, .t, .t, .t, .t, .t, .t, .t, .l, .l, .e, .l, .l, .f, .f, .f, .l, .f, .l, .t, .c (.v (.bool (true))) [] 0, .t] (by kernel_rfl) (cj (bi_does (op) (k) (n) (m) (s) (j) (p) (q) (u) (by first | assumption | decide | exact (bi_good op k n m s j p q u hs hu).2 | exact (un_good op k n m s hs).2) (by first | assumption | decide | exact (bi_good op k n m s j p q u hs hu).2 | exact (un_good op k n m s hs).2) (by first | assumption | decide | exact (bi_good op k n m s j p q u hs hu).2 | exact (un_good op k n m s hs).2) (by first | assumption | decide | exact (bi_good op k n m s j p q u hs hu).2 | exact (un_good op k n m s hs).2) (by first | assumption | decide | exact (bi_good op k n m s j p q u hs hu).2 | exact (un_good op k n m s hs).2) (by first | assumption | decide | exact (bi_good op k n m s j p q u hs hu).2 | exact (un_good op k n m s hs).2)) (cj (un_does (op) (k) (n) (m) (s) (by first | assumption | decide | exact (bi_good op k n m s j p q u hs hu).2 | exact (un_good op k n m s hs).2) (by first | assumption | decide | exact (bi_good op k n m s j p q u hs hu).2 | exact (un_good op k n m s hs).2) (by first | assumption | decide | exact (bi_good op k n m s j p q u hs hu).2 | exact (un_good op k n m s hs).2)) (cj (right4_does ((biV op k n m s j p q u).fst) ((biV op k n m s j p q u).snd.fst) ((biV op k n m s j p q u).snd.snd.fst) ((biV op k n m s j p q u).snd.snd.snd.fst) (by first | assumption | decide | exact (bi_good op k n m s j p q u hs hu).2 | exact (un_good op k n m s hs).2)) (cj c1 (cj c1 (cj (right4_does ((unV op k n m s).fst) ((unV op k n m s).snd.fst) ((unV op k n m s).snd.snd.fst) ((unV op k n m s).snd.snd.snd.fst) (by first | assumption | decide | exact (bi_good op k n m s j p q u hs hu).2 | exact (un_good op k n m s hs).2)) (cj c1 (cj c2 (cj c2 (cj c2 (cj c2 (cj c3 (cj c3 (cj c3 (cj c2 (cj c3 (cj c2 (cj c4 (cj c4 (cj c4 (cj c4 (cj c5 (cj (knows_does) (cj c5 cj0))))))))))))))))))))))))
      · exact pth (fn := Tryz.f5) rfl (by kernel_rfl) [.c (.v (.tuple #[(.agg #[(.int .i64 ((biV op k n m s j p q u).fst)), (.int .i64 ((biV op k n m s j p q u).snd.fst)), (.int .i64 ((biV op k n m s j p q u).snd.snd.fst)), (.string ((biV op k n m s j p q u).snd.snd.snd.fst))]), (.int .i64 ((biV op k n m s j p q u).snd.snd.snd.snd))])) [] 0, .c (.v (.tuple #[(.agg #[(.int .i64 ((unV op k n m s).fst)), (.int .i64 ((unV op k n m s).snd.fst)), (.int .i64 ((unV op k n m s).snd.snd.fst)), (.string ((unV op k n m s).snd.snd.snd.fst))]), (.int .i64 ((unV op k n m s).snd.snd.snd.snd))])) [] 0, .c (.v (.bool (okV (biV op k n m s j p q u).fst (biV op k n m s j p q u).snd.fst (biV op k n m s j p q u).snd.snd.fst (biV op k n m s j p q u).snd.snd.snd.fst))) [] 0, .t, .t, .c (.v (.bool (okV (unV op k n m s).fst (unV op k n m s).snd.fst (unV op k n m s).snd.snd.fst (unV op k n m s).snd.snd.snd.fst))) [] 0, .t, .t, .t, .e, .t, .t, .t, .t, .t, .t, .t, .t, .l, .l, .e, .l, .l, .f, .f, .f, .l, .f, .l, .f, .f] (by kernel_rfl) (cj (bi_does (op) (k) (n) (m) (s) (j) (p) (q) (u) (by first | assumption | decide | exact (bi_good op k n m s j p q u hs hu).2 | exact (un_good op k n m s hs).2) (by first | assumption | decide | exact (bi_good op k n m s j p q u hs hu).2 | exact (un_good op k n m s hs).2) (by first | assumption | decide | exact (bi_good op k n m s j p q u hs hu).2 | exact (un_good op k n m s hs).2) (by first | assumption | decide | exact (bi_good op k n m s j p q u hs hu).2 | exact (un_good op k n m s hs).2) (by first | assumption | decide | exact (bi_good op k n m s j p q u hs hu).2 | exact (un_good op k n m s hs).2) (by first | assumption | decide | exact (bi_good op k n m s j p q u hs hu).2 | exact (un_good op k n m s hs).2)) (cj (un_does (op) (k) (n) (m) (s) (by first | assumption | decide | exact (bi_good op k n m s j p q u hs hu).2 | exact (un_good op k n m s hs).2) (by first | assumption | decide | exact (bi_good op k n m s j p q u hs hu).2 | exact (un_good op k n m s hs).2) (by first | assumption | decide | exact (bi_good op k n m s j p q u hs hu).2 | exact (un_good op k n m s hs).2)) (cj (right4_does ((biV op k n m s j p q u).fst) ((biV op k n m s j p q u).snd.fst) ((biV op k n m s j p q u).snd.snd.fst) ((biV op k n m s j p q u).snd.snd.snd.fst) (by first | assumption | decide | exact (bi_good op k n m s j p q u hs hu).2 | exact (un_good op k n m s hs).2)) (cj c1 (cj c1 (cj (right4_does ((unV op k n m s).fst) ((unV op k n m s).snd.fst) ((unV op k n m s).snd.snd.fst) ((unV op k n m s).snd.snd.snd.fst) (by first | assumption | decide | exact (bi_good op k n m s j p q u hs hu).2 | exact (un_good op k n m s hs).2)) (cj c1 (cj c2 (cj c2 (cj c2 (cj c2 (cj c3 (cj c3 (cj c3 (cj c2 (cj c3 (cj c2 (cj c4 (cj c4 (cj c4 (cj c4 (cj c5 (cj c5 cj0)))))))))))))))))))))))
  · have c6 : ((biV op k n m s j p q u).fst == 0) = true := by first | exact (bi_good op k n m s j p q u hs hu).1.1 | exact (un_good op k n m s hs).1.1 | exact bi_null hs hu c3
    refine tbif (fun c7 => ?_) (fun c7 => ?_)
    · exact pth (fn := Tryz.f5) rfl (by kernel_rfl) [.c (.v (.tuple #[(.agg #[(.int .i64 ((biV op k n m s j p q u).fst)), (.int .i64 ((biV op k n m s j p q u).snd.fst)), (.int .i64 ((biV op k n m s j p q u).snd.snd.fst)), (.string ((biV op k n m s j p q u).snd.snd.snd.fst))]), (.int .i64 ((biV op k n m s j p q u).snd.snd.snd.snd))])) [] 0, .c (.v (.tuple #[(.agg #[(.int .i64 ((unV op k n m s).fst)), (.int .i64 ((unV op k n m s).snd.fst)), (.int .i64 ((unV op k n m s).snd.snd.fst)), (.string ((unV op k n m s).snd.snd.snd.fst))]), (.int .i64 ((unV op k n m s).snd.snd.snd.snd))])) [] 0, .c (.v (.bool (okV (biV op k n m s j p q u).fst (biV op k n m s j p q u).snd.fst (biV op k n m s j p q u).snd.snd.fst (biV op k n m s j p q u).snd.snd.snd.fst))) [] 0, .t, .t, .c (.v (.bool (okV (unV op k n m s).fst (unV op k n m s).snd.fst (unV op k n m s).snd.snd.fst (unV op k n m s).snd.snd.snd.fst))) [] 0, .t, .t, .t, .e, .t, .t, .f, .f, .f, .t, .f, .t, .t, .t, .e, .t, .t, .t, .t, .t, .t, .t, .t, .l, .c (.v (.bool (true))) [] 0, .l] (by kernel_rfl) (cj (bi_does (op) (k) (n) (m) (s) (j) (p) (q) (u) (by first | assumption | decide | exact (bi_good op k n m s j p q u hs hu).2 | exact (un_good op k n m s hs).2) (by first | assumption | decide | exact (bi_good op k n m s j p q u hs hu).2 | exact (un_good op k n m s hs).2) (by first | assumption | decide | exact (bi_good op k n m s j p q u hs hu).2 | exact (un_good op k n m s hs).2) (by first | assumption | decide | exact (bi_good op k n m s j p q u hs hu).2 | exact (un_good op k n m s hs).2) (by first | assumption | decide | exact (bi_good op k n m s j p q u hs hu).2 | exact (un_good op k n m s hs).2) (by first | assumption | decide | exact (bi_good op k n m s j p q u hs hu).2 | exact (un_good op k n m s hs).2)) (cj (un_does (op) (k) (n) (m) (s) (by first | assumption | decide | exact (bi_good op k n m s j p q u hs hu).2 | exact (un_good op k n m s hs).2) (by first | assumption | decide | exact (bi_good op k n m s j p q u hs hu).2 | exact (un_good op k n m s hs).2) (by first | assumption | decide | exact (bi_good op k n m s j p q u hs hu).2 | exact (un_good op k n m s hs).2)) (cj (right4_does ((biV op k n m s j p q u).fst) ((biV op k n m s j p q u).snd.fst) ((biV op k n m s j p q u).snd.snd.fst) ((biV op k n m s j p q u).snd.snd.snd.fst) (by first | assumption | decide | exact (bi_good op k n m s j p q u hs hu).2 | exact (un_good op k n m s hs).2)) (cj c1 (cj c1 (cj (right4_does ((unV op k n m s).fst) ((unV op k n m s).snd.fst) ((unV op k n m s).snd.snd.fst) ((unV op k n m s).snd.snd.snd.fst) (by first | assumption | decide | exact (bi_good op k n m s j p q u hs hu).2 | exact (un_good op k n m s hs).2)) (cj c1 (cj c2 (cj c2 (cj c2 (cj c2 (cj c3 (cj c3 (cj c3 (cj c2 (cj c3 (cj c2 (cj c6 (cj c6 (cj c6 (cj c6 (cj c7 (cj c7 (cj c7 (cj c6 (cj c7 (cj c6 (cj (knows_does) cj0))))))))))))))))))))))))))))
    · refine tbif (fun c8 => ?_) (fun c8 => ?_)
      · exact pth (fn := Tryz.f5) rfl (by kernel_rfl) [.c (.v (.tuple #[(.agg #[(.int .i64 ((biV op k n m s j p q u).fst)), (.int .i64 ((biV op k n m s j p q u).snd.fst)), (.int .i64 ((biV op k n m s j p q u).snd.snd.fst)), (.string ((biV op k n m s j p q u).snd.snd.snd.fst))]), (.int .i64 ((biV op k n m s j p q u).snd.snd.snd.snd))])) [] 0, .c (.v (.tuple #[(.agg #[(.int .i64 ((unV op k n m s).fst)), (.int .i64 ((unV op k n m s).snd.fst)), (.int .i64 ((unV op k n m s).snd.snd.fst)), (.string ((unV op k n m s).snd.snd.snd.fst))]), (.int .i64 ((unV op k n m s).snd.snd.snd.snd))])) [] 0, .c (.v (.bool (okV (biV op k n m s j p q u).fst (biV op k n m s j p q u).snd.fst (biV op k n m s j p q u).snd.snd.fst (biV op k n m s j p q u).snd.snd.snd.fst))) [] 0, .t, .t, .c (.v (.bool (okV (unV op k n m s).fst (unV op k n m s).snd.fst (unV op k n m s).snd.snd.fst (unV op k n m s).snd.snd.snd.fst))) [] 0, .t, .t, .t, .e, .t, .t, .f, .f, .f, .t, .f, .t, .t, .t, .e, .t, .t, .f, .f, .f, .t, .f, .t, .t, .c (.v (.bool (true))) [] 0, .t] (by kernel_rfl) (cj (bi_does (op) (k) (n) (m) (s) (j) (p) (q) (u) (by first | assumption | decide | exact (bi_good op k n m s j p q u hs hu).2 | exact (un_good op k n m s hs).2) (by first | assumption | decide | exact (bi_good op k n m s j p q u hs hu).2 | exact (un_good op k n m s hs).2) (by first | assumption | decide | exact (bi_good op k n m s j p q u hs hu).2 | exact (un_good op k n m s hs).2) (by first | assumption | decide | exact (bi_good op k n m s j p q u hs hu).2 | exact (un_good op k n m s hs).2) (by first | assumption | decide | exact (bi_good op k n m s j p q u hs hu).2 | exact (un_good op k n m s hs).2) (by first | assumption | decide | exact (bi_good op k n m s j p q u hs hu).2 | exact (un_good op k n m s hs).2)) (cj (un_does (op) (k) (n) (m) (s) (by first | assumption | decide | exact (bi_good op k n m s j p q u hs hu).2 | exact (un_good op k n m s hs).2) (by first | assumption | decide | exact (bi_good op k n m s j p q u hs hu).2 | exact (un_good op k n m s hs).2) (by first | assumption | decide | exact (bi_good op k n m s j p q u hs hu).2 | exact (un_good op k n m s hs).2)) (cj (right4_does ((biV op k n m s j p q u).fst) ((biV op k n m s j p q u).snd.fst) ((biV op k n m s j p q u).snd.snd.fst) ((biV op k n m s j p q u).snd.snd.snd.fst) (by first | assumption | decide | exact (bi_good op k n m s j p q u hs hu).2 | exact (un_good op k n m s hs).2)) (cj c1 (cj c1 (cj (right4_does ((unV op k n m s).fst) ((unV op k n m s).snd.fst) ((unV op k n m s).snd.snd.fst) ((unV op k n m s).snd.snd.snd.fst) (by first | assumption | decide | exact (bi_good op k n m s j p q u hs hu).2 | exact (un_good op k n m s hs).2)) (cj c1 (cj c2 (cj c2 (cj c2 (cj c2 (cj c3 (cj c3 (cj c3 (cj c2 (cj c3 (cj c2 (cj c6 (cj c6 (cj c6 (cj c6 (cj c7 (cj c7 (cj c7 (cj c6 (cj c7 (cj c6 (cj c8 (cj (knows_does) (cj c8 cj0))))))))))))))))))))))))))))))
      · exact pth (fn := Tryz.f5) rfl (by kernel_rfl) [.c (.v (.tuple #[(.agg #[(.int .i64 ((biV op k n m s j p q u).fst)), (.int .i64 ((biV op k n m s j p q u).snd.fst)), (.int .i64 ((biV op k n m s j p q u).snd.snd.fst)), (.string ((biV op k n m s j p q u).snd.snd.snd.fst))]), (.int .i64 ((biV op k n m s j p q u).snd.snd.snd.snd))])) [] 0, .c (.v (.tuple #[(.agg #[(.int .i64 ((unV op k n m s).fst)), (.int .i64 ((unV op k n m s).snd.fst)), (.int .i64 ((unV op k n m s).snd.snd.fst)), (.string ((unV op k n m s).snd.snd.snd.fst))]), (.int .i64 ((unV op k n m s).snd.snd.snd.snd))])) [] 0, .c (.v (.bool (okV (biV op k n m s j p q u).fst (biV op k n m s j p q u).snd.fst (biV op k n m s j p q u).snd.snd.fst (biV op k n m s j p q u).snd.snd.snd.fst))) [] 0, .t, .t, .c (.v (.bool (okV (unV op k n m s).fst (unV op k n m s).snd.fst (unV op k n m s).snd.snd.fst (unV op k n m s).snd.snd.snd.fst))) [] 0, .t, .t, .t, .e, .t, .t, .f, .f, .f, .t, .f, .t, .t, .t, .e, .t, .t, .f, .f, .f, .t, .f, .t, .f, .f] (by kernel_rfl) (cj (bi_does (op) (k) (n) (m) (s) (j) (p) (q) (u) (by first | assumption | decide | exact (bi_good op k n m s j p q u hs hu).2 | exact (un_good op k n m s hs).2) (by first | assumption | decide | exact (bi_good op k n m s j p q u hs hu).2 | exact (un_good op k n m s hs).2) (by first | assumption | decide | exact (bi_good op k n m s j p q u hs hu).2 | exact (un_good op k n m s hs).2) (by first | assumption | decide | exact (bi_good op k n m s j p q u hs hu).2 | exact (un_good op k n m s hs).2) (by first | assumption | decide | exact (bi_good op k n m s j p q u hs hu).2 | exact (un_good op k n m s hs).2) (by first | assumption | decide | exact (bi_good op k n m s j p q u hs hu).2 | exact (un_good op k n m s hs).2)) (cj (un_does (op) (k) (n) (m) (s) (by first | assumption | decide | exact (bi_good op k n m s j p q u hs hu).2 | exact (un_good op k n m s hs).2) (by first | assumption | decide | exact (bi_good op k n m s j p q u hs hu).2 | exact (un_good op k n m s hs).2) (by first | assumption | decide | exact (bi_good op k n m s j p q u hs hu).2 | exact (un_good op k n m s hs).2)) (cj (right4_does ((biV op k n m s j p q u).fst) ((biV op k n m s j p q u).snd.fst) ((biV op k n m s j p q u).snd.snd.fst) ((biV op k n m s j p q u).snd.snd.snd.fst) (by first | assumption | decide | exact (bi_good op k n m s j p q u hs hu).2 | exact (un_good op k n m s hs).2)) (cj c1 (cj c1 (cj (right4_does ((unV op k n m s).fst) ((unV op k n m s).snd.fst) ((unV op k n m s).snd.snd.fst) ((unV op k n m s).snd.snd.snd.fst) (by first | assumption | decide | exact (bi_good op k n m s j p q u hs hu).2 | exact (un_good op k n m s hs).2)) (cj c1 (cj c2 (cj c2 (cj c2 (cj c2 (cj c3 (cj c3 (cj c3 (cj c2 (cj c3 (cj c2 (cj c6 (cj c6 (cj c6 (cj c6 (cj c7 (cj c7 (cj c7 (cj c6 (cj c7 (cj c6 (cj c8 (cj c8 cj0)))))))))))))))))))))))))))))
end Go.Proofs.YtnchjdhepakokaaGreatDoorC
/- The law of results: true. -/
namespace Go.Proofs.YtnchjdhepakokaaGreatDoorC
open Go.Proofs Go.Proofs.YtnchjdhepakokaaGreatDoorSx Go.RowKit Go.Lib
set_option maxRecDepth 100000
set_option linter.unusedVariables false
set_option linter.unusedSimpArgs false
theorem right_law (op k n m j p q : Int) (s u : ByteArray) (hn : I64 n) (hm : I64 m) (hs : s.size ≤ 140737488351232) (hp : I64 p) (hq : I64 q) (hu : u.size ≤ 140737488351232) : Does cE 5 [] 0 [.v (it op), .v (vl k n m s), .v (vl j p q u)] (.v (.bool true)) [] 0 := by
  have h := lRi_does op k n m j p q s u hn hm hs hp hq hu
  have e : lRi op k n m j p q s u = .bool true := by
    unfold lRi
    cases h1 : ((unV op k n m s).snd.snd.snd.snd == 0)
    · rw [un_null hs h1]
      cases ((biV op k n m s j p q u).snd.snd.snd.snd == 0) <;> rfl
    · cases ((biV op k n m s j p q u).snd.snd.snd.snd == 0) <;> rfl
  rw [e] at h
  exact h
theorem right_true (op k n m : Int) (s : ByteArray) (j p q : Int) (u : ByteArray) (hop : (Lit.int .i64 op).wf = true) (hk : (Lit.int .i64 k).wf = true) (hn : (Lit.int .i64 n).wf = true) (hm : (Lit.int .i64 m).wf = true) (hs : s.size ≤ 140737488351232) (hj : (Lit.int .i64 j).wf = true) (hp : (Lit.int .i64 p).wf = true) (hq : (Lit.int .i64 q).wf = true) (hu : u.size ≤ 140737488351232) (w : World) (hg : GlobIn cE w) :
    Calls Tryz.prog 5 #[it op, vl k n m s, vl j p q u] w fun e w' => e = .returned (.bool true) ∧ Below w.heap.size w w' :=
  law_calls (E := cE) (l := [it op, vl k n m s, vl j p q u]) (enters (fn := Tryz.f5) rfl (by kernel_rfl) rfl) (right_law op k n m j p q s u (i64_of hn) (i64_of hm) hs (i64_of hp) (i64_of hq) hu) w hg
end Go.Proofs.YtnchjdhepakokaaGreatDoorC
/- What the rows say of the whole program: each a closed fact, apart. -/
namespace Go.Proofs.YtnchjdhepakokaaGreatDoorJ
open Go.Proofs.YtnchjdhepakokaaGreatDoor
set_option maxRecDepth 100000
theorem bt {a b : Bool} (h : a = true) (k : b = true) : (a && b) = true := by rw [h, k]; rfl
theorem pLaid : laidOutB Tryz.prog = true := by kernel_rfl
theorem pMaps : mapsRowed Tryz.prog = true := by kernel_rfl
theorem pStops : (Tryz.prog.stops == []) = true := by kernel_rfl
theorem pKnobs : (Tryz.prog.stopKnobs == []) = true := by kernel_rfl
theorem pKeys : (Rows.evalStepsRow.plainKeys == Tryz.prog.plainKeys) = true := by kernel_rfl
theorem pHeard : Tryz.prog.stopsHeard = true := by kernel_rfl
theorem pMay : Tryz.prog.mayEnter = true := by kernel_rfl
theorem pLifts : (Rows.evalStepsRow.lifted == Tryz.prog.liftsFinal) = true := by kernel_rfl
theorem pMake : (Tryz.prog.make == some Rows.evalStepsRow.make) = true := by kernel_rfl
theorem pLooks : true = Tryz.prog.looks [] := by kernel_rfl
theorem pMain : Tryz.pinned.checked.prog.mainIs = some (true, "78437c3b7531760fed31a8607bae3fb8ec3b4f916377ea75976054335517be10".toList) := by kernel_rfl
end Go.Proofs.YtnchjdhepakokaaGreatDoorJ
/- What the listed package-level variables hold: the table of powers of ten, the two tables of unicode/utf8, cell for cell. -/
namespace Go.Proofs.YtnchjdhepakokaaGreatDoorC
open Go.Proofs Go.Proofs.YtnchjdhepakokaaGreatDoorSx Go.Proofs.YtnchjdhepakokaaGreatDoor Go.Lib
set_option maxRecDepth 100000
abbrev laid3 : List (String × DataW Unit) := [("unicode/utf8.acceptRanges", Rows.laid_unicode_utf8_acceptRanges), ("longstop/decimal.powers", Rows.laid_longstop_decimal_powers), ("unicode/utf8.first", Rows.laid_unicode_utf8_first)]
theorem var_block {P : Program} {w : World} {n : String} {cs : Array Value} {g : Nat} (h : w.var? P n = some cs) (hg : P.globalNamed n = some g) : ∃ t f, w.heap[g]? = some (.cells cs t f) := by
  unfold World.var? at h
  rw [hg] at h
  simp only [Option.bind_some] at h
  split at h
  · rename_i cs' t f hb
    simp only [Option.some.injEq] at h
    exact ⟨t, f, by rw [hb, h]⟩
  · cases h
theorem tab_at {W : World} {n : String} {k : IntKind} {zs : List Int} {g : Nat} {t e : TypeId} {m : Nat} (h : VarReads Tryz.prog W n (Lib.tabData k zs)) (hg : Tryz.prog.globalNamed n = some g) (hy : (Tryz.prog.globals[g]?).map (·.type) = some t)
    (ht : Tryz.prog.underlying t = some (.array m e)) (he : Tryz.prog.underlying e = some (.int k)) (hce : Tryz.prog.cellsOf e = 1) (hct : Tryz.prog.cellsOf t = m) : ∃ t f, W.heap[g]? = some (.cells (zs.map (Value.int k)).toArray t f) := by
  obtain ⟨g', t', cs, fuel, p, h1, h2, h3, h4⟩ := h
  obtain rfl := Option.some.inj (hg.symm.trans h1)
  obtain rfl := Option.some.inj (hy.symm.trans h2)
  have hcs := cells_of_tab ht he hce hct h4
  obtain ⟨t, f, hb⟩ := var_block h3 hg
  refine ⟨t, f, ?_⟩
  rw [hb]
  congr 2
  apply Array.ext'
  rw [hcs]
theorem arr_len {H : Type} {enc : TypeId × Value → H} {P : Program} {w : World} {base : Nat} {sp : Nat → Bool} {held : Bool} {fuel : Nat} {t e : TypeId} {n : Nat} {cs : List Value} {ds : List (DataW H)} {p : List MemPlace} (ht : P.underlying t = some (.array n e))
    (h : DataW.trod enc P w base sp held fuel t cs = some (.agg ds, p)) : cs.length = P.cellsOf t := by
  cases fuel with
  | zero => simp [DataW.trod] at h
  | succ fuel =>
    simp only [DataW.trod, ht] at h
    split at h
    · rename_i hl
      exact hl
    · cases h
theorem acc_at {W : World} (h : VarReads Tryz.prog W "unicode/utf8.acceptRanges" acceptData) : ∃ t f, W.heap[1]? = some (.cells (accL.map (Value.int .u8)).toArray t f) := by
  obtain ⟨g', t', cs, fuel, p, h1, h2, h3, h4⟩ := h
  have hg : Tryz.prog.globalNamed "unicode/utf8.acceptRanges" = some 1 := by kernel_rfl
  have hy : (Tryz.prog.globals[1]?).map (·.type) = some 225 := by kernel_rfl
  have ht : Tryz.prog.underlying 225 = some (.array 16 224) := by kernel_rfl
  have hs : Tryz.prog.underlying 224 = some (TypeDesc.struct #[{ name := "lo", type := 5, offset := 0, embedded := false, tag := "", pkgPath := "unicode/utf8", byteOffset := 0 }, { name := "hi", type := 5, offset := 1, embedded := false, tag := "", pkgPath := "unicode/utf8", byteOffset := 1 }]) := by kernel_rfl
  have h5 : Tryz.prog.underlying 5 = some (.int .u8) := by kernel_rfl
  have c5 : Tryz.prog.cellsOf 5 = 1 := by kernel_rfl
  have c2 : Tryz.prog.cellsOf 224 = 2 := by kernel_rfl
  have c32 : Tryz.prog.cellsOf 225 = 32 := by kernel_rfl
  obtain rfl := Option.some.inj (hg.symm.trans h1)
  obtain rfl := Option.some.inj (hy.symm.trans h2)
  obtain ⟨t, f, hb⟩ := var_block h3 hg
  refine ⟨t, f, ?_⟩
  rw [hb]
  congr 2
  apply Array.ext'
  have hl := arr_len ht h4
  rw [c32] at hl
  have acc : ∀ k : _root_.Fin 16, accL[2 * k.val]? = some ((accLo k.val : Nat) : Int) ∧ accL[2 * k.val + 1]? = some ((accHi k.val : Nat) : Int) := by decide
  have hlen : accL.length = 32 := by decide
  apply List.ext_getElem?
  intro j
  by_cases hj : j < 32
  · obtain ⟨fuel', d, q, hdi, he⟩ := array_elem ht h4 (j / 2) (by omega)
    simp only [List.getElem?_map, List.getElem?_range (by omega : j / 2 < 16), Option.map_some, Option.some.injEq] at hdi
    subst hdi
    rw [c2] at he
    have hcs := ints_of_struct hs (fun j f hj => by
      match j, hj with
      | 0, hj => simp at hj; subst hj; exact ⟨h5, rfl, c5⟩
      | 1, hj => simp at hj; subst hj; exact ⟨h5, rfl, c5⟩
      | j + 2, hj => simp at hj) (by rw [c2]; rfl) he
    obtain ⟨a0, a1⟩ := acc ⟨j / 2, by omega⟩
    simp only at a0 a1
    have hj2 : j = 2 * (j / 2) ∨ j = 2 * (j / 2) + 1 := by omega
    rcases hj2 with e | e
    · have e0 : cs.toList[2 * (j / 2)]? = some (.int .u8 ((accLo (j / 2) : Nat) : Int)) := by
        have := congrArg (·[0]?) hcs
        simpa [List.getElem?_take, List.getElem?_drop, Nat.mul_comm] using this
      rw [List.getElem?_map, e, e0, a0]
      rfl
    · have e0 : cs.toList[2 * (j / 2) + 1]? = some (.int .u8 ((accHi (j / 2) : Nat) : Int)) := by
        have := congrArg (·[1]?) hcs
        simpa [List.getElem?_take, List.getElem?_drop, Nat.mul_comm] using this
      rw [List.getElem?_map, e, e0, a1]
      rfl
  · rw [List.getElem?_eq_none (by omega), List.getElem?_eq_none (by simp; omega)]
theorem glob_in {W : World} (h : laidMetH Tryz.prog laid3 W) : GlobIn cE W := by
  rw [MakeChecks.laidMetH_plain _ _ _ (by kernel_rfl)] at h
  have g0 := tab_at (k := .u8) (zs := firstTab) (m := 256) (e := 5) (t := 222) (laidMet.reads h (n := "unicode/utf8.first") (d := firstData) (by simp [laid3]; rfl)) (g := 0) (by kernel_rfl) (by kernel_rfl) (by kernel_rfl) (by kernel_rfl) (by kernel_rfl) (by kernel_rfl)
  have g1 := acc_at (laidMet.reads h (n := "unicode/utf8.acceptRanges") (d := acceptData) (by simp [laid3]; rfl))
  have g2 := tab_at (k := .u64) (zs := pow10) (m := 13) (e := 165) (t := 245) (laidMet.reads h (n := "longstop/decimal.powers") (d := Lib.tabData .u64 pow10) (by simp [laid3]; rfl)) (g := 2) (by kernel_rfl) (by kernel_rfl) (by kernel_rfl) (by kernel_rfl) (by kernel_rfl) (by kernel_rfl)
  intro g vs hv
  by_cases hg : g = 2
  · subst hg
    have e : cE.gl 2 = .ints .u64 pow10 := rfl
    rw [e] at hv
    simp only [glAll, Option.some.injEq] at hv
    subst hv
    exact g2
  · by_cases hg0 : g = 0
    · subst hg0
      have e : cE.gl 0 = .ints .u8 firstL := rfl
      rw [e] at hv
      simp only [glAll, Option.some.injEq] at hv
      subst hv
      exact g0
    · by_cases hg1 : g = 1
      · subst hg1
        have e : cE.gl 1 = .ints .u8 accL := rfl
        rw [e] at hv
        simp only [glAll, Option.some.injEq] at hv
        subst hv
        exact g1
      · have e : cE.gl g = .no := by
          show (bif Nat.beq g 2 then _ else bif Nat.beq g 0 then _ else bif Nat.beq g 1 then _ else _) = _
          rw [nbeq_ne hg, nbeq_ne hg0, nbeq_ne hg1]
          rfl
        rw [e] at hv
        cases hv
theorem sized_part {H : Type} {P : Program} {ts : List TypeId} {ds : List (DataW H)} (h : (DataW.weightsEach P ts ds).all (· ≤ reachBytes) = true) {j : Nat} {t : TypeId} {parts : List (DataW H)} {fs : Array Field} (ht : ts[j]? = some t) (hd : ds[j]? = some (.agg parts)) (hs : P.underlying t = some (.struct fs))
    {i : Nat} {t' : TypeId} {bytes : List UInt8} (ht' : (fs.toList.map (·.type))[i]? = some t') (hp : parts[i]? = some (.lit (.string bytes))) : bytes.length ≤ reachBytes := by
  have := List.all_eq_true.1 h _ (DataW.weights_mem_each ht hd bytes.length (by
    simp only [DataW.weights, hs]
    exact DataW.weights_mem_each ht' hp _ (by simp [DataW.weights])))
  simpa using this
end Go.Proofs.YtnchjdhepakokaaGreatDoorC
