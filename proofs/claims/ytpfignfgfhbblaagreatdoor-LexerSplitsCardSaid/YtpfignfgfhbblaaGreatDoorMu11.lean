import Derived.Test.YtpfignfgfhbblaaGreatDoorMu10
import Derived.KernelRfl
import Derived.Lib.IndexLaws
import Derived.Test.YtpfignfgfhbblaaGreatDoorMu04
import Derived.Shelf.Small.Strs
import Derived.Ground.NamesProg
import Derived.Test.YtpfignfgfhbblaaGreatDoorProg
import Derived.Shelf.Strings.SlTrimAscii
/- datum.read: what it comes to. -/
namespace Go.Proofs.YtpfignfgfhbblaaGreatDoorC
open Go.Proofs Go.Proofs.YtpfignfgfhbblaaGreatDoorSx Go.Lib
set_option maxRecDepth 100000
set_option linter.unusedVariables false
abbrev nulL : List UInt8 := [110, 117, 108, 108]
abbrev truL : List UInt8 := [116, 114, 117, 101]
abbrev falL : List UInt8 := [102, 97, 108, 115, 101]
/-- A value's kind, numbers, bytes; was it read? -/
def rdL (l : List UInt8) : Int × Int × Int × ByteArray × Bool :=
  bif l == [] then (0, 0, 0, bE, false)
  else bif l == nulL then (0, 0, 0, bE, true)
  else bif l == truL then (4, 1, 0, bE, true)
  else bif l == falL then (4, 0, 0, bE, true)
  else bif l.headD 0 == 39 then (3, 0, 0, oL (qsP (l.drop 1) []).1, (qsP (l.drop 1) []).2)
  else bif l.headD 0 == 60 then (5, (gpL l).1, (gpL l).2.1, bE, (gpL l).2.2 == 0)
  else bif !decide (0 ≤ Lib.indexByte l 46) then (1, (parseL (Lib.trimSuffix l [46])).1, (parseL (Lib.trimSuffix l [46])).2.1, bE, (parseL (Lib.trimSuffix l [46])).2.2 == 0)
  else (2, (parseL (Lib.trimSuffix l [46])).1, (parseL (Lib.trimSuffix l [46])).2.1, bE, (parseL (Lib.trimSuffix l [46])).2.2 == 0)
theorem head_at (c : UInt8) (r : List UInt8) : (oL (c :: r)).data.toList.getD (Int.toNat 0) 0 = c := by
  rw [oL_data]
  rfl
theorem b60 (c : UInt8) : (((c.toNat : Nat) : Int) == 60) = (c == 60) := by
  by_cases h : c = 60
  · subst h
    decide
  · rw [beq_eq_false_iff_ne.2 h]
    refine beq_eq_false_iff_ne.2 (fun e => h ?_)
    have e2 : c.toNat = 60 := by omega
    exact UInt8.toNat_inj.1 e2
theorem trimSuf_le (l p : List UInt8) : (Lib.trimSuffix l p).length ≤ l.length := by
  unfold Lib.trimSuffix
  split
  · rw [List.length_take]; omega
  · exact Nat.le_refl _
theorem reP_eq (l : List UInt8) (hl : l.length ≤ 140737488351232) : reP (oL l) = some (.v (.tuple #[vl (rdL l).1 (rdL l).2.1 (rdL l).2.2.1 (rdL l).2.2.2.1, .bool (rdL l).2.2.2.2]), [], 0) := by
  have e0 : (ByteArray.mk #[]).toList = [] := oL_toList []
  have e1 : (ByteArray.mk #[110, 117, 108, 108]).toList = nulL := oL_toList nulL
  have e2 : (ByteArray.mk #[116, 114, 117, 101]).toList = truL := oL_toList truL
  have e3 : (ByteArray.mk #[102, 97, 108, 115, 101]).toList = falL := oL_toList falL
  unfold reP rdL
  rw [oL_toList, e0, e1, e2, e3]
  cases c1 : (l == []) with
  | true => rfl
  | false =>
  cases c2 : (l == nulL) with
  | true => rfl
  | false =>
  cases c3 : (l == truL) with
  | true =>
    have e := eq_of_beq c3
    subst e
    rfl
  | false =>
  cases c4 : (l == falL) with
  | true =>
    have e := eq_of_beq c4
    subst e
    rfl
  | false =>
  cases l with
  | nil => cases c1
  | cons c r =>
  have hz : ((oL (c :: r)).size : Int) = r.length + 1 := by rw [oL_size]; simp
  simp only [List.length_cons] at hl
  refine bf rfl (bf rfl (bf rfl (bf rfl (gp (by omega) ?_))))
  rw [head_at, b39, b60]
  show _ = some ((SV.v (.tuple #[vl (bif c == 39 then _ else _ : Int × Int × Int × ByteArray × Bool).1 _ _ _, _])), _, _)
  cases c5 : (c == 39) with
  | true =>
    have e5 : ((c :: r).headD 0 == 39) = true := c5
    refine bt rfl (gp (by omega) (gp (by omega) ?_))
    rw [e5, oL_data]
    rfl
  | false =>
  have e5 : ((c :: r).headD 0 == 39) = false := c5
  rw [e5]
  cases c6 : (c == 60) with
  | true =>
    have e6 : ((c :: r).headD 0 == 60) = true := c6
    refine bf rfl (bt rfl (gp (by rw [oL_data, List.length_cons]; omega) ?_))
    rw [e6, oL_data]
    rfl
  | false =>
  have e6 : ((c :: r).headD 0 == 60) = false := c6
  rw [e6]
  have ht := trimSuf_le (c :: r) [46]
  simp only [List.length_cons] at ht
  refine bf rfl (bf rfl (gp (by rw [oL_data, List.length_cons]; omega) (gp (by rw [oL_data, oL_data]; omega) ?_)))
  rw [oL_data]
  cases c7 : (!decide (0 ≤ Lib.indexByte (c :: r) 46)) <;> rfl
theorem read_does (l : List UInt8) (hl : l.length ≤ 140737488351232) : Does cE 45 [] 0 [.v (st (oL l))] (.v (.tuple #[vl (rdL l).1 (rdL l).2.1 (rdL l).2.2.1 (rdL l).2.2.2.1, .bool (rdL l).2.2.2.2])) [] 0 :=
  Does.of (reP_does (oL l) (r := (_, _, _)) (reP_eq l hl)) rfl
end Go.Proofs.YtpfignfgfhbblaaGreatDoorC
/- datum.Parse, walked. Printed by a program (wip/tools); Lean checks each. -/
namespace Go.Proofs.YtpfignfgfhbblaaGreatDoorC
open Go.Proofs Go.Proofs.YtpfignfgfhbblaaGreatDoorSx Go.Lib
set_option maxRecDepth 100000
set_option maxHeartbeats 4000000
set_option linter.unusedVariables false
noncomputable def paP (s : ByteArray) : Option Rs :=
  grd ((s).data.toList.length ≤ 140737488351232) (bif ((rdL s.data.toList).snd.snd.snd.snd) then grd (((rdL s.data.toList).snd.snd.snd.fst).size ≤ 140737488351232) (bif (okV (rdL s.data.toList).fst (rdL s.data.toList).snd.fst (rdL s.data.toList).snd.snd.fst (rdL s.data.toList).snd.snd.snd.fst) then grd (I64 ((rdL s.data.toList).snd.fst)) (grd (I64 ((rdL s.data.toList).snd.snd.fst)) (bif ((oL (prV (rdL s.data.toList).fst (rdL s.data.toList).snd.fst (rdL s.data.toList).snd.snd.fst (rdL s.data.toList).snd.snd.snd.fst)).toList == s.toList) then some ((.v (.tuple #[(.agg #[(.int .i64 ((rdL s.data.toList).fst)), (.int .i64 ((rdL s.data.toList).snd.fst)), (.int .i64 ((rdL s.data.toList).snd.snd.fst)), (.string ((rdL s.data.toList).snd.snd.snd.fst))]), (.int .i64 ((0 : Int)))]) : SV), ([] : Tab cE), 0)
              else some ((.v (.tuple #[(.agg #[(.int .i64 ((0 : Int))), (.int .i64 ((0 : Int))), (.int .i64 ((0 : Int))), (.string ((ByteArray.mk #[])))]), (.int .i64 ((21 : Int)))]) : SV), ([] : Tab cE), 0)))
        else some ((.v (.tuple #[(.agg #[(.int .i64 ((0 : Int))), (.int .i64 ((0 : Int))), (.int .i64 ((0 : Int))), (.string ((ByteArray.mk #[])))]), (.int .i64 ((21 : Int)))]) : SV), ([] : Tab cE), 0))
    else some ((.v (.tuple #[(.agg #[(.int .i64 ((0 : Int))), (.int .i64 ((0 : Int))), (.int .i64 ((0 : Int))), (.string ((ByteArray.mk #[])))]), (.int .i64 ((21 : Int)))]) : SV), ([] : Tab cE), 0))
theorem paP_does (s : ByteArray) {r : Rs} (h : paP s = some r) : Does cE 13 [] 0 [.v (st s)] r.1 r.2.1 r.2.2 := by
  unfold paP at h
  refine does_of_fin (fn := Tryz.f13) (c := bd Tryz.f13) rfl (by kernel_rfl) rfl ?_
  refine ogrd h (fun c1 h => ?_)
  refine obif h (fun c2 h => ?_) (fun c2 h => ?_)
  · refine ogrd h (fun c3 h => ?_)
    refine obif h (fun c4 h => ?_) (fun c4 h => ?_)
    · refine ogrd h (fun c5 h => ?_)
      refine ogrd h (fun c6 h => ?_)
      refine obif h (fun c7 h => ?_) (fun c7 h => ?_)
      · exact osome h (sfin (keep := []) (by decide) [.c (.v (.tuple #[(.agg #[(.int .i64 ((rdL s.data.toList).fst)), (.int .i64 ((rdL s.data.toList).snd.fst)), (.int .i64 ((rdL s.data.toList).snd.snd.fst)), (.string ((rdL s.data.toList).snd.snd.snd.fst))]), (.bool ((rdL s.data.toList).snd.snd.snd.snd))])) [] 0, .t, .t, .c (.v (.bool (okV (rdL s.data.toList).fst (rdL s.data.toList).snd.fst (rdL s.data.toList).snd.snd.fst (rdL s.data.toList).snd.snd.snd.fst))) [] 0, .t, .t, .t, .c (.v (.string (oL (prV (rdL s.data.toList).fst (rdL s.data.toList).snd.fst (rdL s.data.toList).snd.snd.fst (rdL s.data.toList).snd.snd.snd.fst)))) [] 0, .t, .t, .t, .t] (by kernel_rfl) (cj (read_does (s).data.toList (by assumption)) (cj c2 (cj c2 (cj (right_does ((rdL s.data.toList).fst) ((rdL s.data.toList).snd.fst) ((rdL s.data.toList).snd.snd.fst) ((rdL s.data.toList).snd.snd.snd.fst) (by first | assumption | decide)) (cj c2 (cj c4 (cj c4 (cj (vprint_does ((rdL s.data.toList).fst) ((rdL s.data.toList).snd.fst) ((rdL s.data.toList).snd.snd.fst) ((rdL s.data.toList).snd.snd.snd.fst) (by assumption) (by assumption) (by assumption)) (cj c4 (cj c4 (cj c4 (cj c7 cj0)))))))))))))
      · exact osome h (sfin (keep := []) (by decide) [.c (.v (.tuple #[(.agg #[(.int .i64 ((rdL s.data.toList).fst)), (.int .i64 ((rdL s.data.toList).snd.fst)), (.int .i64 ((rdL s.data.toList).snd.snd.fst)), (.string ((rdL s.data.toList).snd.snd.snd.fst))]), (.bool ((rdL s.data.toList).snd.snd.snd.snd))])) [] 0, .t, .t, .c (.v (.bool (okV (rdL s.data.toList).fst (rdL s.data.toList).snd.fst (rdL s.data.toList).snd.snd.fst (rdL s.data.toList).snd.snd.snd.fst))) [] 0, .t, .t, .t, .c (.v (.string (oL (prV (rdL s.data.toList).fst (rdL s.data.toList).snd.fst (rdL s.data.toList).snd.snd.fst (rdL s.data.toList).snd.snd.snd.fst)))) [] 0, .t, .t, .t, .f] (by kernel_rfl) (cj (read_does (s).data.toList (by assumption)) (cj c2 (cj c2 (cj (right_does ((rdL s.data.toList).fst) ((rdL s.data.toList).snd.fst) ((rdL s.data.toList).snd.snd.fst) ((rdL s.data.toList).snd.snd.snd.fst) (by first | assumption | decide)) (cj c2 (cj c4 (cj c4 (cj (vprint_does ((rdL s.data.toList).fst) ((rdL s.data.toList).snd.fst) ((rdL s.data.toList).snd.snd.fst) ((rdL s.data.toList).snd.snd.snd.fst) (by assumption) (by assumption) (by assumption)) (cj c4 (cj c4 (cj c4 (cj c7 cj0)))))))))))))
    · exact osome h (sfin (keep := []) (by decide) [.c (.v (.tuple #[(.agg #[(.int .i64 ((rdL s.data.toList).fst)), (.int .i64 ((rdL s.data.toList).snd.fst)), (.int .i64 ((rdL s.data.toList).snd.snd.fst)), (.string ((rdL s.data.toList).snd.snd.snd.fst))]), (.bool ((rdL s.data.toList).snd.snd.snd.snd))])) [] 0, .t, .t, .c (.v (.bool (okV (rdL s.data.toList).fst (rdL s.data.toList).snd.fst (rdL s.data.toList).snd.snd.fst (rdL s.data.toList).snd.snd.snd.fst))) [] 0, .t, .f, .f, .f, .f, .f, .l] (by kernel_rfl) (cj (read_does (s).data.toList (by assumption)) (cj c2 (cj c2 (cj (right_does ((rdL s.data.toList).fst) ((rdL s.data.toList).snd.fst) ((rdL s.data.toList).snd.snd.fst) ((rdL s.data.toList).snd.snd.snd.fst) (by first | assumption | decide)) (cj c2 (cj c4 (cj c4 (cj c4 (cj c4 (cj c4 cj0)))))))))))
  · exact osome h (sfin (keep := []) (by decide) [.c (.v (.tuple #[(.agg #[(.int .i64 ((rdL s.data.toList).fst)), (.int .i64 ((rdL s.data.toList).snd.fst)), (.int .i64 ((rdL s.data.toList).snd.snd.fst)), (.string ((rdL s.data.toList).snd.snd.snd.fst))]), (.bool ((rdL s.data.toList).snd.snd.snd.snd))])) [] 0, .f, .f, .f, .l, .l, .l, .l, .l, .l] (by kernel_rfl) (cj (read_does (s).data.toList (by assumption)) (cj c2 (cj c2 (cj c2 cj0)))))
end Go.Proofs.YtpfignfgfhbblaaGreatDoorC
/- What Print wrote is read back by datum.read: plain law. What datum.Parse comes to. -/
namespace Go.Proofs.YtpfignfgfhbblaaGreatDoorC
open Go.Proofs Go.Proofs.YtpfignfgfhbblaaGreatDoorSx Go.Lib
set_option maxRecDepth 100000
set_option linter.unusedVariables false
theorem parseL_rng (s : List UInt8) : I64 (parseL s).1 ∧ 0 ≤ (parseL s).2.1 ∧ (parseL s).2.1 ≤ 6 := by
  unfold parseL parseB
  generalize (spD (bodyL s)).1 = w
  generalize (spD (bodyL s)).2 = p
  generalize valD 0 (w ++ p.getD []) = v
  split
  · exact ⟨⟨by decide, by decide⟩, by decide, by decide⟩
  · rename_i h
    have h6 : (p.getD []).length ≤ 6 := by
      apply Nat.le_of_not_lt
      exact fun h' => h (.inr (.inr (.inl h')))
    split
    · exact ⟨⟨by decide, by decide⟩, by decide, by decide⟩
    · split
      · split
        · refine ⟨⟨?_, ?_⟩, ?_, ?_⟩ <;> (dsimp only; omega)
        · exact ⟨⟨by decide, by decide⟩, by decide, by decide⟩
      · split
        · refine ⟨⟨?_, ?_⟩, ?_, ?_⟩ <;> (dsimp only; omega)
        · exact ⟨⟨by decide, by decide⟩, by decide, by decide⟩
theorem gpL_rng (l : List UInt8) : I64 (gpL l).1 ∧ I64 (gpL l).2.1 := by
  rcases gp_some l with e | ⟨x, y, h, _, e⟩
  · rw [e]
    exact ⟨⟨by decide, by decide⟩, by decide, by decide⟩
  · rw [e]
    have hb := rt_b (x := x) (y := y) (by rw [h]; rfl)
    refine ⟨⟨?_, ?_⟩, ?_, ?_⟩ <;> (dsimp only; omega)
theorem qsP_len : ∀ (n : Nat) (l : List UInt8), l.length ≤ n → ∀ a : List UInt8, (qsP l a).1.length ≤ a.length + l.length := by
  intro n
  induction n with
  | zero =>
    intro l hl a
    have e := List.eq_nil_of_length_eq_zero (Nat.le_zero.1 hl)
    subst e
    simp [qsP]
  | succ n ih =>
    intro l hl a
    cases l with
    | nil => simp [qsP]
    | cons c r =>
      simp only [List.length_cons] at hl ⊢
      cases hc : (c == 39) with
      | false =>
        rw [qsP_no r a hc]
        have := ih r (by omega) (a ++ [c])
        simp at this
        omega
      | true =>
        have ec : c = 39 := eq_of_beq hc
        subst ec
        cases r with
        | nil =>
          have e : qsP [39] a = (a, true) := by rw [qsP]; rfl
          rw [e]
          simp
        | cons d r =>
          simp only [List.length_cons] at hl ⊢
          cases hd : (d == 39) with
          | true =>
            have ed : d = 39 := eq_of_beq hd
            subst ed
            have e : qsP (39 :: 39 :: r) a = qsP r (a ++ [39]) := by rw [qsP]; rfl
            rw [e]
            have := ih r (by omega) (a ++ [39])
            simp at this
            omega
          | false =>
            have e : qsP (39 :: d :: r) a = (a, false) := by
              rw [qsP.eq_def]
              show (bif d == 39 then _ else _) = _
              rw [hd]
              rfl
            rw [e]
            simp only
            omega
theorem qsP_dbl : ∀ (l a : List UInt8), qsP (dbl l ++ [39]) a = (a ++ l, true)
  | [], a => by
    rw [List.append_nil]
    show qsP [39] a = _
    rw [qsP]
    rfl
  | c :: l, a => by
    cases hc : (c == 39) with
    | true =>
      have ec : c = 39 := eq_of_beq hc
      subst ec
      have e : dbl (39 :: l) = 39 :: 39 :: dbl l := rfl
      rw [e]
      have e2 : qsP (39 :: 39 :: (dbl l ++ [39])) a = qsP (dbl l ++ [39]) (a ++ [39]) := by rw [qsP]; rfl
      show qsP (39 :: 39 :: (dbl l ++ [39])) a = _
      rw [e2, qsP_dbl l (a ++ [39])]
      simp
    | false =>
      have e : dbl (c :: l) = c :: dbl l := by
        show (bif c == 39 then _ else _) = _
        rw [hc]
        rfl
      rw [e]
      show qsP (c :: (dbl l ++ [39])) a = _
      rw [qsP_no _ _ hc, qsP_dbl l (a ++ [c])]
      simp
theorem index_no {l : List UInt8} {c : UInt8} (h : c ∉ l) : Lib.indexByte l c = -1 := by
  have hg := Lib.indexByte_ge l c
  rcases Int.lt_or_le (Lib.indexByte l c) 0 with h1 | h1
  · omega
  · obtain ⟨o, ho⟩ : ∃ o : Nat, Lib.indexByte l c = o := ⟨(Lib.indexByte l c).toNat, by omega⟩
    exact absurd (List.mem_of_getElem? (Lib.indexByte_some ho).1) h
theorem index_yes {l : List UInt8} {c : UInt8} (h : c ∈ l) : 0 ≤ Lib.indexByte l c := by
  have hg := Lib.indexByte_ge l c
  rcases Int.lt_or_le (Lib.indexByte l c) 0 with h1 | h1
  · have e : Lib.indexByte l c = -1 := by omega
    obtain ⟨k, hk, hk2⟩ := List.getElem_of_mem h
    exact absurd (by rw [List.getElem?_eq_getElem hk, hk2]) (Lib.indexByte_none e k)
  · exact h1
theorem suf_no {r : List UInt8} {c d : UInt8} (h : c ≠ d) : Lib.trimSuffix (r ++ [c]) [d] = r ++ [c] := by
  unfold Lib.trimSuffix
  refine if_neg (fun e => h ?_)
  unfold Lib.hasSuffix at e
  rw [List.isSuffixOf_iff_suffix] at e
  obtain ⟨t, ht⟩ := e
  have := congrArg List.getLast? ht
  simp at this
  exact this.symm
theorem suf_yes (r : List UInt8) (d : UInt8) : Lib.trimSuffix (r ++ [d]) [d] = r := by
  unfold Lib.trimSuffix
  rw [if_pos]
  · simp
  · unfold Lib.hasSuffix
    rw [List.isSuffixOf_iff_suffix]
    exact ⟨r, rfl⟩
/-- A text that begins as a number's does. -/
theorem rdL_num {c : UInt8} {r : List UInt8} (hc : c = 45 ∨ dgC c) : rdL (c :: r) =
    bif !decide (0 ≤ Lib.indexByte (c :: r) 46) then (1, (parseL (Lib.trimSuffix (c :: r) [46])).1, (parseL (Lib.trimSuffix (c :: r) [46])).2.1, bE, (parseL (Lib.trimSuffix (c :: r) [46])).2.2 == 0)
    else (2, (parseL (Lib.trimSuffix (c :: r) [46])).1, (parseL (Lib.trimSuffix (c :: r) [46])).2.1, bE, (parseL (Lib.trimSuffix (c :: r) [46])).2.2 == 0) := by
  have ne : ∀ (d : UInt8) (q : List UInt8), d ≠ 45 → ¬ dgC d → ((c :: r) == d :: q) = false := by
    intro d q h1 h2
    refine beq_eq_false_iff_ne.2 (fun e => ?_)
    injection e with e1 _
    subst e1
    exact hc.elim h1 h2
  have nh : ∀ d : UInt8, d ≠ 45 → ¬ dgC d → ((c :: r).headD 0 == d) = false := by
    intro d h1 h2
    refine beq_eq_false_iff_ne.2 (fun e => ?_)
    have e1 : c = d := e
    subst e1
    exact hc.elim h1 h2
  unfold rdL
  rw [ne 110 _ (by decide) (by decide), ne 116 _ (by decide) (by decide), ne 102 _ (by decide) (by decide), nh 39 (by decide) (by decide), nh 60 (by decide) (by decide)]
  rfl
theorem eqE_of {s : ByteArray} (h : eqE s = true) : s = bE := by
  unfold eqE at h
  have e : s.toList = [] := by
    have := eq_of_beq h
    rw [this]
    exact oL_toList []
  rw [ByteArray.toList_eq] at e
  rw [oL_of s, e]
  rfl
theorem okk {k n m : Int} {s : ByteArray} (h : okV k n m s = true) : k = 0 ∨ k = 1 ∨ k = 2 ∨ k = 3 ∨ k = 4 ∨ k = 5 := by
  by_cases h0 : k = 0
  · exact .inl h0
  by_cases h1 : k = 1
  · exact .inr (.inl h1)
  by_cases h2 : k = 2
  · exact .inr (.inr (.inl h2))
  by_cases h3 : k = 3
  · exact .inr (.inr (.inr (.inl h3)))
  by_cases h4 : k = 4
  · exact .inr (.inr (.inr (.inr (.inl h4))))
  by_cases h5 : k = 5
  · exact .inr (.inr (.inr (.inr (.inr h5))))
  unfold okV at h
  rw [beq_eq_false_iff_ne.mpr h0, beq_eq_false_iff_ne.mpr h1, beq_eq_false_iff_ne.mpr h2, beq_eq_false_iff_ne.mpr h3, beq_eq_false_iff_ne.mpr h4, beq_eq_false_iff_ne.mpr h5] at h
  cases (show false = true from h)
theorem okn {n m : Int} {s : ByteArray} (h : okV 0 n m s = true) : n = 0 ∧ m = 0 ∧ s = bE := by
  change (n == 0 && m == 0 && eqE s) = true at h
  simp only [Bool.and_eq_true, beq_iff_eq] at h
  exact ⟨h.1.1, h.1.2, eqE_of h.2⟩
theorem rd_back {k n m : Int} {s : ByteArray} (h : okV k n m s = true) (hn : I64 n) : rdL (prV k n m s) = (k, n, m, s, true) := by
  have hp : prV k n m s = (bif k == 1 then printL n m
  else bif k == 2 then (bif m == 0 then printL n m ++ [46] else printL n m)
  else bif k == 3 then 39 :: (dbl s.data.toList ++ [39])
  else bif k == 4 then (bif n == 1 then [116, 114, 117, 101] else [102, 97, 108, 115, 101])
  else bif k == 5 then prG n m
  else [110, 117, 108, 108]) := by
    unfold prV
    rw [h]
    rfl
  rw [hp]
  rcases okk h with rfl | rfl | rfl | rfl | rfl | rfl
  · obtain ⟨rfl, rfl, rfl⟩ := okn h
    rfl
  · have h' : (m == 0 && eqE s) = true := h
    simp only [Bool.and_eq_true, beq_iff_eq] at h'
    obtain ⟨rfl, hs⟩ := h'
    have es := eqE_of hs
    subst es
    show rdL (printL n 0) = _
    obtain ⟨c, r, e, hc⟩ := pl_head (u := n) (sc := 0) ⟨by decide, by decide⟩
    obtain ⟨r2, c2, e2, hc2⟩ := pl_last (u := n) (sc := 0) ⟨by decide, by decide⟩
    have ht : Lib.trimSuffix (printL n 0) [46] = printL n 0 := by
      rw [e2]
      refine suf_no (fun e => ?_)
      rw [e] at hc2
      exact absurd hc2 (by decide)
    have hpp := parse_print n 0 (by decide) (by decide) hn.1 (by have := hn.2; omega)
    have hi := index_no (pl_nodot (u := n))
    have hr := rdL_num (r := r) hc
    rw [← e, ht, hpp, hi] at hr
    exact hr
  · have h' : (decide (0 ≤ m) && decide (m ≤ 6) && eqE s) = true := h
    simp only [Bool.and_eq_true, decide_eq_true_eq] at h'
    obtain ⟨⟨h0, h6⟩, hs⟩ := h'
    have es := eqE_of hs
    subst es
    show rdL (bif m == 0 then printL n m ++ [46] else printL n m) = _
    obtain ⟨c, r, e, hc⟩ := pl_head (u := n) (sc := m) ⟨h0, h6⟩
    have hpp := parse_print n m h0 h6 hn.1 (by have := hn.2; omega)
    by_cases hm : m = 0
    · subst hm
      show rdL (printL n 0 ++ [46]) = _
      have hi : 0 ≤ Lib.indexByte (printL n 0 ++ [46]) 46 := index_yes (by simp)
      have hr := rdL_num (r := r ++ [46]) hc
      rw [← List.cons_append, ← e, suf_yes, hpp, decide_eq_true hi] at hr
      exact hr
    · have e1 : (m == 0) = false := beq_eq_false_iff_ne.2 hm
      rw [e1]
      show rdL (printL n m) = _
      obtain ⟨r2, c2, e2, hc2⟩ := pl_last (u := n) (sc := m) ⟨h0, h6⟩
      have ht : Lib.trimSuffix (printL n m) [46] = printL n m := by
        rw [e2]
        refine suf_no (fun e => ?_)
        rw [e] at hc2
        exact absurd hc2 (by decide)
      have hi : 0 ≤ Lib.indexByte (printL n m) 46 := index_yes (pl_dot (u := n) ⟨by omega, h6⟩)
      have hr := rdL_num (r := r) hc
      rw [← e, ht, hpp, decide_eq_true hi] at hr
      exact hr
  · have h' : (n == 0 && m == 0 && decide ((s.size : Int) ≤ 256) && validD s.data.toList) = true := h
    simp only [Bool.and_eq_true, beq_iff_eq] at h'
    obtain ⟨⟨⟨rfl, rfl⟩, _⟩, _⟩ := h'
    show rdL (39 :: (dbl s.data.toList ++ [39])) = _
    have ne : ∀ (d : UInt8) (q : List UInt8), d ≠ 39 → ((39 :: (dbl s.data.toList ++ [39])) == d :: q) = false := by
      intro d q h1
      refine beq_eq_false_iff_ne.2 (fun e => ?_)
      injection e with e1 _
      exact h1 e1.symm
    unfold rdL
    rw [ne 110 _ (by decide), ne 116 _ (by decide), ne 102 _ (by decide)]
    show ((3 : Int), (0 : Int), (0 : Int), oL (qsP (dbl s.data.toList ++ [39]) []).1, (qsP (dbl s.data.toList ++ [39]) []).2) = _
    rw [qsP_dbl, List.nil_append, ← oL_of]
  · have h' : ((n == 0 || n == 1) && m == 0 && eqE s) = true := h
    simp only [Bool.and_eq_true, Bool.or_eq_true, beq_iff_eq] at h'
    obtain ⟨⟨hn', rfl⟩, hs⟩ := h'
    have es := eqE_of hs
    subst es
    rcases hn' with rfl | rfl <;> rfl
  · have h' : (rt n m && eqE s) = true := h
    simp only [Bool.and_eq_true] at h'
    obtain ⟨hr, hs⟩ := h'
    have es := eqE_of hs
    subst es
    show rdL (prG n m) = _
    have hb := gp_back hr
    have ep : prG n m = 60 :: ((Lib.itoa n ++ 44 :: Lib.itoa m) ++ [62]) := by
      unfold prG
      rw [hr]
      simp
    rw [ep] at hb ⊢
    generalize ((Lib.itoa n ++ 44 :: Lib.itoa m) ++ [62]) = q at *
    have ne : ∀ (d : UInt8) (r : List UInt8), d ≠ 60 → ((60 :: q) == d :: r) = false := by
      intro d r h1
      refine beq_eq_false_iff_ne.2 (fun e => ?_)
      injection e with e1 _
      exact h1 e1.symm
    unfold rdL
    rw [ne 110 _ (by decide), ne 116 _ (by decide), ne 102 _ (by decide), hb]
    rfl
end Go.Proofs.YtpfignfgfhbblaaGreatDoorC
/- The lexer: what its parts come to. Plain words. -/
namespace Go.Proofs.YtpfignfgfhbblaaGreatDoorC
open Go.Proofs Go.Proofs.YtpfignfgfhbblaaGreatDoorSx Go.Lib
set_option maxRecDepth 100000
set_option linter.unusedVariables false
/-- A value's parts, and what datum.Parse says of a text. -/
abbrev V4 := Int × Int × Int × ByteArray
def zV : V4 := (0, 0, 0, bE)
/-- Of a text: the value, what is wrong. -/
def pvL (l : List UInt8) : Int × Int × Int × ByteArray × Int :=
  bif (rdL l).2.2.2.2 && (okV (rdL l).1 (rdL l).2.1 (rdL l).2.2.1 (rdL l).2.2.2.1 && prV (rdL l).1 (rdL l).2.1 (rdL l).2.2.1 (rdL l).2.2.2.1 == l) then ((rdL l).1, (rdL l).2.1, (rdL l).2.2.1, (rdL l).2.2.2.1, 0) else (0, 0, 0, bE, 21)
def letB (c : UInt8) : Bool := decide (97 ≤ c.toNat) && decide (c.toNat ≤ 122) || c == 95
def digB (c : UInt8) : Bool := decide (48 ≤ c.toNat) && decide (c.toNat ≤ 57)
def wrdB (c : UInt8) : Bool := letB c || digB c
/-- Is it a word? -/
def wordL : List UInt8 → Bool
  | [] => false
  | c :: r => letB c && (r.all wrdB && decide (r.length + 1 ≤ 32))
def signs1 : List UInt8 := [40, 41, 44, 46, 59, 42, 43, 45, 47, 37, 61, 60, 62]
/-- How long the sign is that a text begins with. -/
def signL : List UInt8 → Int
  | [] => 0
  | c :: r => bif (c == 60 && r.head? == some 62) || ((c == 60 && r.head? == some 61) || (c == 62 && r.head? == some 61)) then 2 else bif signs1.contains c then 1 else 0
/-- How long the number is. -/
def numN : Bool → List UInt8 → Nat
  | _, [] => 0
  | p, c :: r => bif digB c then numN p r + 1 else bif c == 46 && !p then numN true r + 1 else 0
/-- How long the rest of a quoted text is, the last quote too. -/
def quoN : List UInt8 → Option Nat
  | [] => none
  | c :: r => bif c == 39 then (match r with
    | [] => some 1
    | d :: r' => bif d == 39 then (quoN r').map (· + 2) else some 1) else (quoN r).map (· + 1)
def quoLn (l : List UInt8) : Int := match quoN (l.drop 1) with
  | some k => ((k + 1 : Nat) : Int)
  | none => 0
def pv4 (l : List UInt8) : V4 := ((pvL l).1, (pvL l).2.1, (pvL l).2.2.1, (pvL l).2.2.2.1)
def pvOk (l : List UInt8) : Bool := (pvL l).2.2.2.2 == 0
def quoK (r : List UInt8) : Nat := match quoN r with
  | some k => k + 1
  | none => 0
/-- What is taken for the token that a text begins with: kind, how long, value, is it one? -/
def oneR : List UInt8 → Nat × Nat × V4 × Bool
  | [] => (0, 0, zV, false)
  | c :: r =>
    bif letB c then (1, (r.takeWhile wrdB).length + 1, zV, decide ((r.takeWhile wrdB).length + 1 ≤ 32))
    else bif digB c then (3, numN false (c :: r), pv4 ((c :: r).take (numN false (c :: r))), pvOk ((c :: r).take (numN false (c :: r))))
    else bif c == 39 then (3, quoK r, pv4 ((c :: r).take (quoK r)), pvOk ((c :: r).take (quoK r)))
    else (2, (signL (c :: r)).toNat, zV, decide (0 < signL (c :: r)))
/-- Where the program stands behind it. -/
def scE : List UInt8 → Nat
  | [] => 0
  | c :: r =>
    bif letB c then (r.takeWhile wrdB).length + 1
    else bif digB c then numN false (c :: r)
    else bif c == 39 then (match quoN r with
      | some k => k + 1
      | none => r.length + 1)
    else (signL (c :: r)).toNat
def oneL (l : List UInt8) : Nat × Nat × V4 := bif (oneR l).2.2.2 then ((oneR l).1, (oneR l).2.1, (oneR l).2.2.1) else (0, 0, zV)
/-- A token as a value. -/
abbrev tkS (k : Int) (t : ByteArray) (v : V4) (a : Int) : Value := .agg #[it k, st t, it v.1, it v.2.1, it v.2.2.1, st v.2.2.2, it a]
/-- A token: kind, text, value, place. -/
abbrev Tk := Int × ByteArray × V4 × Int
def blankB (c : UInt8) : Bool := c == 32 || (c == 9 || c == 10)
/-- A text's tokens, from a place on. -/
def splitL : Nat → Nat → List UInt8 → Option (List Tk)
  | _, _, [] => some []
  | 0, _, _ :: _ => none
  | f + 1, p, c :: r => bif blankB c then splitL f (p + 1) r else
    bif (oneL (c :: r)).1 == 0 then none else
    (splitL f (p + (oneL (c :: r)).2.1) ((c :: r).drop (oneL (c :: r)).2.1)).map (((((oneL (c :: r)).1 : Nat) : Int), oL ((c :: r).take (oneL (c :: r)).2.1), (oneL (c :: r)).2.2, (p : Int)) :: ·)
/-! ### Signs as numbers -/
theorem cI_ge (c : UInt8) (k : Nat) : decide (((c.toNat : Nat) : Int) ≥ (k : Int)) = decide (k ≤ c.toNat) := decide_eq_decide.2 (by omega)
theorem cI_le (c : UInt8) (k : Nat) : decide (((c.toNat : Nat) : Int) ≤ (k : Int)) = decide (c.toNat ≤ k) := decide_eq_decide.2 (by omega)
theorem cI_eq (c d : UInt8) : (((c.toNat : Nat) : Int) == ((d.toNat : Nat) : Int)) = (c == d) := by
  by_cases h : c = d
  · subst h
    simp
  · rw [beq_eq_false_iff_ne.2 h]
    refine beq_eq_false_iff_ne.2 (fun e => h ?_)
    exact UInt8.toNat_inj.1 (by omega)
theorem cI_lt (c : UInt8) : c.toNat < 256 := c.toNat_lt
theorem u8_sub (c : UInt8) (k : Nat) (m : Nat) (hk : k < 256) (h : k + m ≤ 256) : decide (IntKind.u8.wrap (((c.toNat : Nat) : Int) - (k : Int)) < (m : Int)) = (decide (k ≤ c.toNat) && decide (c.toNat < k + m)) := by
  have hc := cI_lt c
  have e : IntKind.u8.wrap (((c.toNat : Nat) : Int) - (k : Int)) = if k ≤ c.toNat then ((c.toNat : Nat) : Int) - k else ((c.toNat : Nat) : Int) - k + 256 := by
    show ((c.toNat : Int) - k) % 256 = _
    split <;> omega
  rw [e]
  by_cases h1 : k ≤ c.toNat
  · rw [if_pos h1, decide_eq_true h1, Bool.true_and]
    exact decide_eq_decide.2 (by omega)
  · rw [if_neg h1, decide_eq_false h1, Bool.false_and]
    exact decide_eq_false (by omega)
theorem getD_of (p r : List UInt8) (c : UInt8) : (oL (p ++ c :: r)).data.toList.getD (p.length : Int).toNat 0 = c := getD_at p r c
theorem w1 {n : Nat} (h : n ≤ 140737488355328) : IntKind.i64.wrap ((n : Int) + 1) = ((n + 1 : Nat) : Int) := (wrap64 (by omega) (by omega)).trans (by omega)
end Go.Proofs.YtpfignfgfhbblaaGreatDoorC
/- The reference's Word and sign, walked. Printed by a program (wip/tools); Lean checks each. -/
namespace Go.Proofs.YtpfignfgfhbblaaGreatDoorC
open Go.Proofs Go.Proofs.YtpfignfgfhbblaaGreatDoorSx Go.Lib
set_option maxRecDepth 100000
set_option maxHeartbeats 4000000
set_option linter.unusedVariables false
inductive woR_S where
  | st
  | l1 (xi0 : Int)
noncomputable def woR_K1 : List It := stackAt [1, 0, 1, 0] (bd Tryz.f31) [] []
def woR_Fin (s : ByteArray) (f : Nat) (r : Rs) : woR_S → Prop
  | .st => FinR Tryz.f31 0 r [.code (bd Tryz.f31)] (argsS [.v (st s)] Tryz.f31.ntmps) [] 0
  | .l1 xi0 => ∀ m0 : Nat, f ≤ m0 → FinR Tryz.f31 0 r (bodyK (woR_K1) m0) ([.v (.string (s)), .na, .na, .v (.int .i64 (xi0))] ++ List.replicate 30 .na) [] 0
noncomputable def woR_st (s : ByteArray) (rec : woR_S → Option Rs) : Option Rs :=
  rec (.l1 ((0 : Int)))
noncomputable def woR_l1 (s : ByteArray) (rec : woR_S → Option Rs) (xi0 : Int) : Option Rs :=
  bif (decide (xi0 < (s.size : Int))) then grd ((0 : Int) ≤ xi0 ∧ xi0 < (s.size : Int)) (bif (decide ((((s.data.toList.getD xi0.toNat (0 : UInt8)).toNat : Nat) : Int) ≥ (97 : Int))) then bif (decide ((((s.data.toList.getD xi0.toNat (0 : UInt8)).toNat : Nat) : Int) ≤ (122 : Int))) then rec (.l1 (IntKind.i64.wrap (xi0 + (1 : Int))))
        else bif (!(((s.data.toList.getD xi0.toNat (0 : UInt8)).toNat : Nat) : Int) == (95 : Int)) then bif (decide ((((s.data.toList.getD xi0.toNat (0 : UInt8)).toNat : Nat) : Int) ≥ (48 : Int))) then bif (decide ((((s.data.toList.getD xi0.toNat (0 : UInt8)).toNat : Nat) : Int) ≤ (57 : Int))) then bif (!decide (xi0 > (0 : Int))) then some ((.v (.bool (false)) : SV), ([] : Tab cE), 0)
                else rec (.l1 (IntKind.i64.wrap (xi0 + (1 : Int))))
              else some ((.v (.bool (false)) : SV), ([] : Tab cE), 0)
            else some ((.v (.bool (false)) : SV), ([] : Tab cE), 0)
          else rec (.l1 (IntKind.i64.wrap (xi0 + (1 : Int))))
      else bif (!(((s.data.toList.getD xi0.toNat (0 : UInt8)).toNat : Nat) : Int) == (95 : Int)) then bif (decide ((((s.data.toList.getD xi0.toNat (0 : UInt8)).toNat : Nat) : Int) ≥ (48 : Int))) then bif (decide ((((s.data.toList.getD xi0.toNat (0 : UInt8)).toNat : Nat) : Int) ≤ (57 : Int))) then bif (!decide (xi0 > (0 : Int))) then some ((.v (.bool (false)) : SV), ([] : Tab cE), 0)
              else rec (.l1 (IntKind.i64.wrap (xi0 + (1 : Int))))
            else some ((.v (.bool (false)) : SV), ([] : Tab cE), 0)
          else some ((.v (.bool (false)) : SV), ([] : Tab cE), 0)
        else rec (.l1 (IntKind.i64.wrap (xi0 + (1 : Int)))))
  else bif (decide ((s.size : Int) ≥ (1 : Int))) then some ((.v (.bool (decide ((s.size : Int) ≤ (32 : Int)))) : SV), ([] : Tab cE), 0)
    else some ((.v (.bool (false)) : SV), ([] : Tab cE), 0)
noncomputable def woR (s : ByteArray) : Nat → woR_S → Option Rs
  | 0, _ => none
  | f + 1, .st => woR_st s (fun q => woR s f q)
  | f + 1, .l1 xi0 => woR_l1 s (fun q => woR s f q) xi0
theorem woR_st_fin (s : ByteArray) (rec : woR_S → Option Rs) (f : Nat) (ih : ∀ q r, rec q = some r → woR_Fin s f r q) (r : Rs) (h : woR_st s rec = some r) : woR_Fin s (f + 1) r .st := by
  unfold woR_st at h
  show FinR _ _ _ _ _ _ _
  exact sat (keep := [0, 3]) (by decide) [] (by kernel_rfl) cj0 (fin_loop (f + 1) (fin_round (ih _ _ h f (by omega))))
theorem woR_l1_fin (s : ByteArray) (rec : woR_S → Option Rs) (f : Nat) (ih : ∀ q r, rec q = some r → woR_Fin s f r q) (xi0 : Int) (r : Rs) (h : woR_l1 s rec xi0 = some r) : woR_Fin s (f + 1) r (.l1 xi0) := by
  unfold woR_l1 at h
  intro m0 m0h
  obtain ⟨m0, rfl⟩ : ∃ k, m0 = k + 1 := ⟨m0 - 1, by omega⟩
  refine obif h (fun c1 h => ?_) (fun c1 h => ?_)
  · refine ogrd h (fun c2 h => ?_)
    refine obif h (fun c3 h => ?_) (fun c3 h => ?_)
    · refine obif h (fun c4 h => ?_) (fun c4 h => ?_)
      · exact sat (keep := [0, 3]) (by decide) [.t, .e, .t, .t, .t, .t, .t, .t, .l, .l, .l, .l, .l, .l, .l, .l, .l] (by kernel_rfl) (cj c1 (cj c2 (cj c3 (cj c3 (cj c3 (cj c4 (cj c4 (cj c4 cj0)))))))) (fin_round (ih _ _ h (m0) (by omega)))
      · refine obif h (fun c5 h => ?_) (fun c5 h => ?_)
        · refine obif h (fun c6 h => ?_) (fun c6 h => ?_)
          · refine obif h (fun c7 h => ?_) (fun c7 h => ?_)
            · refine obif h (fun c8 h => ?_) (fun c8 h => ?_)
              · exact osome h (sfin (keep := []) (by decide) [.t, .e, .t, .t, .t, .f, .f, .f, .t, .t, .t, .t, .e, .t, .t, .t, .t, .t, .t, .t, .t, .t, .t, .t] (by kernel_rfl) (cj c1 (cj c2 (cj c3 (cj c3 (cj c3 (cj c4 (cj c4 (cj c4 (cj c5 (cj c5 (cj c5 (cj c2 (cj c5 (cj c6 (cj c6 (cj c6 (cj c5 (cj c7 (cj c7 (cj c5 (cj c7 (cj c5 (cj c5 (cj c8 cj0)))))))))))))))))))))))))
              · exact sat (keep := [0, 3]) (by decide) [.t, .e, .t, .t, .t, .f, .f, .f, .t, .t, .t, .t, .e, .t, .t, .t, .t, .t, .t, .t, .t, .t, .t, .f] (by kernel_rfl) (cj c1 (cj c2 (cj c3 (cj c3 (cj c3 (cj c4 (cj c4 (cj c4 (cj c5 (cj c5 (cj c5 (cj c2 (cj c5 (cj c6 (cj c6 (cj c6 (cj c5 (cj c7 (cj c7 (cj c5 (cj c7 (cj c5 (cj c5 (cj c8 cj0)))))))))))))))))))))))) (fin_round (ih _ _ h (m0) (by omega)))
            · exact osome h (sfin (keep := []) (by decide) [.t, .e, .t, .t, .t, .f, .f, .f, .t, .t, .t, .t, .e, .t, .t, .t, .t, .f, .f, .t, .f, .t, .t, .l] (by kernel_rfl) (cj c1 (cj c2 (cj c3 (cj c3 (cj c3 (cj c4 (cj c4 (cj c4 (cj c5 (cj c5 (cj c5 (cj c2 (cj c5 (cj c6 (cj c6 (cj c6 (cj c5 (cj c7 (cj c7 (cj c5 (cj c7 (cj c5 (cj c5 cj0))))))))))))))))))))))))
          · exact osome h (sfin (keep := []) (by decide) [.t, .e, .t, .t, .t, .f, .f, .f, .t, .t, .t, .t, .e, .f, .f, .f, .t, .l, .l, .t, .l, .t, .t, .l] (by kernel_rfl) (cj c1 (cj c2 (cj c3 (cj c3 (cj c3 (cj c4 (cj c4 (cj c4 (cj c5 (cj c5 (cj c5 (cj c2 (cj c5 (cj c6 (cj c6 (cj c6 (cj c5 (cj c5 (cj c5 (cj c5 cj0)))))))))))))))))))))
        · exact sat (keep := [0, 3]) (by decide) [.t, .e, .t, .t, .t, .f, .f, .f, .f, .f, .f, .f, .f, .f, .f, .f, .l] (by kernel_rfl) (cj c1 (cj c2 (cj c3 (cj c3 (cj c3 (cj c4 (cj c4 (cj c4 (cj c5 (cj c5 (cj c5 (cj c5 (cj c5 (cj c5 (cj c5 (cj c5 cj0)))))))))))))))) (fin_round (ih _ _ h (m0) (by omega)))
    · refine obif h (fun c9 h => ?_) (fun c9 h => ?_)
      · refine obif h (fun c10 h => ?_) (fun c10 h => ?_)
        · refine obif h (fun c11 h => ?_) (fun c11 h => ?_)
          · refine obif h (fun c12 h => ?_) (fun c12 h => ?_)
            · exact osome h (sfin (keep := []) (by decide) [.t, .e, .f, .f, .f, .l, .l, .l, .t, .t, .t, .t, .e, .t, .t, .t, .t, .t, .t, .t, .t, .t, .t, .t] (by kernel_rfl) (cj c1 (cj c2 (cj c3 (cj c3 (cj c3 (cj c9 (cj c9 (cj c9 (cj c2 (cj c9 (cj c10 (cj c10 (cj c10 (cj c9 (cj c11 (cj c11 (cj c9 (cj c11 (cj c9 (cj c9 (cj c12 cj0))))))))))))))))))))))
            · exact sat (keep := [0, 3]) (by decide) [.t, .e, .f, .f, .f, .l, .l, .l, .t, .t, .t, .t, .e, .t, .t, .t, .t, .t, .t, .t, .t, .t, .t, .f] (by kernel_rfl) (cj c1 (cj c2 (cj c3 (cj c3 (cj c3 (cj c9 (cj c9 (cj c9 (cj c2 (cj c9 (cj c10 (cj c10 (cj c10 (cj c9 (cj c11 (cj c11 (cj c9 (cj c11 (cj c9 (cj c9 (cj c12 cj0))))))))))))))))))))) (fin_round (ih _ _ h (m0) (by omega)))
          · exact osome h (sfin (keep := []) (by decide) [.t, .e, .f, .f, .f, .l, .l, .l, .t, .t, .t, .t, .e, .t, .t, .t, .t, .f, .f, .t, .f, .t, .t, .l] (by kernel_rfl) (cj c1 (cj c2 (cj c3 (cj c3 (cj c3 (cj c9 (cj c9 (cj c9 (cj c2 (cj c9 (cj c10 (cj c10 (cj c10 (cj c9 (cj c11 (cj c11 (cj c9 (cj c11 (cj c9 (cj c9 cj0)))))))))))))))))))))
        · exact osome h (sfin (keep := []) (by decide) [.t, .e, .f, .f, .f, .l, .l, .l, .t, .t, .t, .t, .e, .f, .f, .f, .t, .l, .l, .t, .l, .t, .t, .l] (by kernel_rfl) (cj c1 (cj c2 (cj c3 (cj c3 (cj c3 (cj c9 (cj c9 (cj c9 (cj c2 (cj c9 (cj c10 (cj c10 (cj c10 (cj c9 (cj c9 (cj c9 (cj c9 cj0))))))))))))))))))
      · exact sat (keep := [0, 3]) (by decide) [.t, .e, .f, .f, .f, .l, .l, .l, .f, .f, .f, .f, .f, .f, .f, .f, .l] (by kernel_rfl) (cj c1 (cj c2 (cj c3 (cj c3 (cj c3 (cj c9 (cj c9 (cj c9 (cj c9 (cj c9 (cj c9 (cj c9 (cj c9 cj0))))))))))))) (fin_round (ih _ _ h (m0) (by omega)))
  · refine obif h (fun c13 h => ?_) (fun c13 h => ?_)
    · exact osome h (sfin (keep := []) (by decide) [.f, .t, .t, .t, .t] (by kernel_rfl) (cj c1 (cj c13 (cj c13 (cj c13 (cj c13 cj0))))))
    · exact osome h (sfin (keep := []) (by decide) [.f, .f, .f, .f, .f] (by kernel_rfl) (cj c1 (cj c13 (cj c13 (cj c13 (cj c13 cj0))))))
theorem woR_ok (s : ByteArray) : ∀ f q r, woR s f q = some r → woR_Fin s f r q := by
  intro f
  induction f with
  | zero => intro q r h; cases h
  | succ f ih =>
    intro q r h
    cases q with
    | st => exact woR_st_fin s _ f ih r h
    | l1 xi0 => exact woR_l1_fin s _ f ih xi0 r h
theorem woR_does (s : ByteArray) (k : Nat) {r : Rs} (h : woR s k .st = some r) : Does cE 31 [] 0 [.v (st s)] r.1 r.2.1 r.2.2 :=
  does_of_fin (fn := Tryz.f31) (c := bd Tryz.f31) rfl (by kernel_rfl) rfl (woR_ok s k .st r h)
inductive siR_S where
  | st
  | l1 (xi0 : Int)
noncomputable def siR_K1 : List It := stackAt [1, 1, 1, 0, 1, 0] (bd Tryz.f120) [] []
def siR_Fin (s : ByteArray) (f : Nat) (r : Rs) : siR_S → Prop
  | .st => FinR Tryz.f120 0 r [.code (bd Tryz.f120)] (argsS [.v (st s)] Tryz.f120.ntmps) [] 0
  | .l1 xi0 => ∀ m0 : Nat, f ≤ m0 → FinR Tryz.f120 0 r (bodyK (siR_K1) m0) ([.v (.string (s)), .na, .na, .v (.string ((ByteArray.mk #[(40 : UInt8), (41 : UInt8), (44 : UInt8), (46 : UInt8), (59 : UInt8), (42 : UInt8), (43 : UInt8), (45 : UInt8), (47 : UInt8), (37 : UInt8), (61 : UInt8), (60 : UInt8), (62 : UInt8)]))), .v (.int .i64 (xi0))] ++ List.replicate 30 .na) [] 0
noncomputable def siR_st (s : ByteArray) (rec : siR_S → Option Rs) : Option Rs :=
  bif (decide ((s.size : Int) ≥ (2 : Int))) then grd ((0 : Int) ≤ (0 : Int) ∧ (0 : Int) ≤ (2 : Int) ∧ (2 : Int) ≤ (s.size : Int)) (bif ((s.extract (Int.toNat (0 : Int)) (Int.toNat (2 : Int))).toList == (ByteArray.mk #[(60 : UInt8), (62 : UInt8)]).toList) then some ((.v (.int .i64 ((2 : Int))) : SV), ([] : Tab cE), 0)
      else bif ((s.extract (Int.toNat (0 : Int)) (Int.toNat (2 : Int))).toList == (ByteArray.mk #[(60 : UInt8), (61 : UInt8)]).toList) then some ((.v (.int .i64 ((2 : Int))) : SV), ([] : Tab cE), 0)
        else bif ((s.extract (Int.toNat (0 : Int)) (Int.toNat (2 : Int))).toList == (ByteArray.mk #[(62 : UInt8), (61 : UInt8)]).toList) then some ((.v (.int .i64 ((2 : Int))) : SV), ([] : Tab cE), 0)
          else rec (.l1 ((0 : Int))))
  else rec (.l1 ((0 : Int)))
noncomputable def siR_l1 (s : ByteArray) (rec : siR_S → Option Rs) (xi0 : Int) : Option Rs :=
  bif (decide (xi0 < (((ByteArray.mk #[(40 : UInt8), (41 : UInt8), (44 : UInt8), (46 : UInt8), (59 : UInt8), (42 : UInt8), (43 : UInt8), (45 : UInt8), (47 : UInt8), (37 : UInt8), (61 : UInt8), (60 : UInt8), (62 : UInt8)]).size : Nat) : Int))) then grd ((0 : Int) ≤ (0 : Int) ∧ (0 : Int) < (s.size : Int)) (grd ((0 : Int) ≤ xi0 ∧ xi0 < (((ByteArray.mk #[(40 : UInt8), (41 : UInt8), (44 : UInt8), (46 : UInt8), (59 : UInt8), (42 : UInt8), (43 : UInt8), (45 : UInt8), (47 : UInt8), (37 : UInt8), (61 : UInt8), (60 : UInt8), (62 : UInt8)]).size : Nat) : Int)) (bif ((((s.data.toList.getD (Int.toNat (0 : Int)) (0 : UInt8)).toNat : Nat) : Int) == ((([(40 : UInt8), (41 : UInt8), (44 : UInt8), (46 : UInt8), (59 : UInt8), (42 : UInt8), (43 : UInt8), (45 : UInt8), (47 : UInt8), (37 : UInt8), (61 : UInt8), (60 : UInt8), (62 : UInt8)].getD xi0.toNat (0 : UInt8)).toNat : Nat) : Int)) then some ((.v (.int .i64 ((1 : Int))) : SV), ([] : Tab cE), 0)
        else rec (.l1 (IntKind.i64.wrap (xi0 + (1 : Int))))))
  else some ((.v (.int .i64 ((0 : Int))) : SV), ([] : Tab cE), 0)
noncomputable def siR (s : ByteArray) : Nat → siR_S → Option Rs
  | 0, _ => none
  | f + 1, .st => siR_st s (fun q => siR s f q)
  | f + 1, .l1 xi0 => siR_l1 s (fun q => siR s f q) xi0
theorem siR_st_fin (s : ByteArray) (rec : siR_S → Option Rs) (f : Nat) (ih : ∀ q r, rec q = some r → siR_Fin s f r q) (r : Rs) (h : siR_st s rec = some r) : siR_Fin s (f + 1) r .st := by
  unfold siR_st at h
  show FinR _ _ _ _ _ _ _
  refine obif h (fun c1 h => ?_) (fun c1 h => ?_)
  · refine ogrd h (fun c2 h => ?_)
    refine obif h (fun c3 h => ?_) (fun c3 h => ?_)
    · exact osome h (sfin (keep := []) (by decide) [.t, .t, .t, .t, .t, .t, .t, .t, .t, .t, .l, .l, .l, .t, .l, .t, .l] (by kernel_rfl) (cj c1 (cj c1 (cj c2 (cj c1 (cj c1 (cj c3 (cj c3 (cj c3 (cj c1 (cj c3 (cj c1 (cj c1 (cj c1 cj0))))))))))))))
    · refine obif h (fun c4 h => ?_) (fun c4 h => ?_)
      · exact osome h (sfin (keep := []) (by decide) [.t, .t, .t, .t, .f, .f, .f, .t, .f, .t, .t, .t, .t, .t, .t, .t, .l] (by kernel_rfl) (cj c1 (cj c1 (cj c2 (cj c1 (cj c1 (cj c3 (cj c3 (cj c2 (cj c3 (cj c1 (cj c3 (cj c1 (cj c4 (cj c4 (cj c4 (cj c1 (cj c4 (cj c1 cj0)))))))))))))))))))
      · refine obif h (fun c5 h => ?_) (fun c5 h => ?_)
        · exact osome h (sfin (keep := []) (by decide) [.t, .t, .t, .t, .f, .f, .f, .t, .f, .t, .f, .f, .f, .t, .f, .t, .t] (by kernel_rfl) (cj c1 (cj c1 (cj c2 (cj c1 (cj c1 (cj c3 (cj c3 (cj c2 (cj c3 (cj c1 (cj c3 (cj c1 (cj c4 (cj c4 (cj c2 (cj c4 (cj c1 (cj c4 (cj c1 (cj c5 cj0)))))))))))))))))))))
        · exact sat (keep := [0, 3, 4]) (by decide) [.t, .t, .t, .t, .f, .f, .f, .t, .f, .t, .f, .f, .f, .t, .f, .t, .f] (by kernel_rfl) (cj c1 (cj c1 (cj c2 (cj c1 (cj c1 (cj c3 (cj c3 (cj c2 (cj c3 (cj c1 (cj c3 (cj c1 (cj c4 (cj c4 (cj c2 (cj c4 (cj c1 (cj c4 (cj c1 (cj c5 cj0)))))))))))))))))))) (fin_loop (f + 1) (fin_round (ih _ _ h f (by omega))))
  · exact sat (keep := [0, 3, 4]) (by decide) [.f, .f, .f, .f, .f, .f, .f, .f, .l] (by kernel_rfl) (cj c1 (cj c1 (cj c1 (cj c1 (cj c1 (cj c1 (cj c1 (cj c1 cj0)))))))) (fin_loop (f + 1) (fin_round (ih _ _ h f (by omega))))
theorem siR_l1_fin (s : ByteArray) (rec : siR_S → Option Rs) (f : Nat) (ih : ∀ q r, rec q = some r → siR_Fin s f r q) (xi0 : Int) (r : Rs) (h : siR_l1 s rec xi0 = some r) : siR_Fin s (f + 1) r (.l1 xi0) := by
  unfold siR_l1 at h
  intro m0 m0h
  obtain ⟨m0, rfl⟩ : ∃ k, m0 = k + 1 := ⟨m0 - 1, by omega⟩
  refine obif h (fun c1 h => ?_) (fun c1 h => ?_)
  · refine ogrd h (fun c2 h => ?_)
    refine ogrd h (fun c3 h => ?_)
    refine obif h (fun c4 h => ?_) (fun c4 h => ?_)
    · exact osome h (sfin (keep := []) (by decide) [.t, .t] (by kernel_rfl) (cj c1 (cj c2 (cj c3 (cj c4 cj0)))))
    · exact sat (keep := [0, 3, 4]) (by decide) [.t, .f] (by kernel_rfl) (cj c1 (cj c2 (cj c3 (cj c4 cj0)))) (fin_round (ih _ _ h (m0) (by omega)))
  · exact osome h (sfin (keep := []) (by decide) [.f] (by kernel_rfl) (cj c1 cj0))
theorem siR_ok (s : ByteArray) : ∀ f q r, siR s f q = some r → siR_Fin s f r q := by
  intro f
  induction f with
  | zero => intro q r h; cases h
  | succ f ih =>
    intro q r h
    cases q with
    | st => exact siR_st_fin s _ f ih r h
    | l1 xi0 => exact siR_l1_fin s _ f ih xi0 r h
theorem siR_does (s : ByteArray) (k : Nat) {r : Rs} (h : siR s k .st = some r) : Does cE 120 [] 0 [.v (st s)] r.1 r.2.1 r.2.2 :=
  does_of_fin (fn := Tryz.f120) (c := bd Tryz.f120) rfl (by kernel_rfl) rfl (siR_ok s k .st r h)
end Go.Proofs.YtpfignfgfhbblaaGreatDoorC
/- The reference's number and quoted (lexer), walked. Printed by a program (wip/tools); Lean checks each. -/
namespace Go.Proofs.YtpfignfgfhbblaaGreatDoorC
open Go.Proofs Go.Proofs.YtpfignfgfhbblaaGreatDoorSx Go.Lib
set_option maxRecDepth 100000
set_option maxHeartbeats 4000000
set_option linter.unusedVariables false
inductive nuF_S where
  | st
  | l1 (xb0 : Bool) (xi1 : Int)
noncomputable def nuF_K1 : List It := stackAt [1, 1, 0, 1, 0] (bd Tryz.f118) [] []
def nuF_Fin (s : ByteArray) (f : Nat) (r : Rs) : nuF_S → Prop
  | .st => FinR Tryz.f118 0 r [.code (bd Tryz.f118)] (argsS [.v (st s)] Tryz.f118.ntmps) [] 0
  | .l1 xb0 xi1 => ∀ m0 : Nat, f ≤ m0 → FinR Tryz.f118 0 r (bodyK (nuF_K1) m0) ([.v (.string (s)), .na, .na, .v (.bool (xb0)), .v (.int .i64 (xi1))] ++ List.replicate 20 .na) [] 0
noncomputable def nuF_st (s : ByteArray) (rec : nuF_S → Option Rs) : Option Rs :=
  rec (.l1 (false) ((0 : Int)))
noncomputable def nuF_l1 (s : ByteArray) (rec : nuF_S → Option Rs) (xb0 : Bool) (xi1 : Int) : Option Rs :=
  bif (decide (xi1 < (s.size : Int))) then grd ((0 : Int) ≤ xi1 ∧ xi1 < (s.size : Int)) (bif (decide ((((s.data.toList.getD xi1.toNat (0 : UInt8)).toNat : Nat) : Int) ≥ (48 : Int))) then bif (decide ((((s.data.toList.getD xi1.toNat (0 : UInt8)).toNat : Nat) : Int) ≤ (57 : Int))) then rec (.l1 (xb0) (IntKind.i64.wrap (xi1 + (1 : Int))))
        else bif ((((s.data.toList.getD xi1.toNat (0 : UInt8)).toNat : Nat) : Int) != (46 : Int)) then some ((.v (.int .i64 (xi1)) : SV), ([] : Tab cE), 0)
          else bif (xb0) then some ((.v (.int .i64 (xi1)) : SV), ([] : Tab cE), 0)
            else rec (.l1 (true) (IntKind.i64.wrap (xi1 + (1 : Int))))
      else bif ((((s.data.toList.getD xi1.toNat (0 : UInt8)).toNat : Nat) : Int) != (46 : Int)) then some ((.v (.int .i64 (xi1)) : SV), ([] : Tab cE), 0)
        else bif (xb0) then some ((.v (.int .i64 (xi1)) : SV), ([] : Tab cE), 0)
          else rec (.l1 (true) (IntKind.i64.wrap (xi1 + (1 : Int)))))
  else some ((.v (.int .i64 ((s.size : Int))) : SV), ([] : Tab cE), 0)
noncomputable def nuF (s : ByteArray) : Nat → nuF_S → Option Rs
  | 0, _ => none
  | f + 1, .st => nuF_st s (fun q => nuF s f q)
  | f + 1, .l1 xb0 xi1 => nuF_l1 s (fun q => nuF s f q) xb0 xi1
theorem nuF_st_fin (s : ByteArray) (rec : nuF_S → Option Rs) (f : Nat) (ih : ∀ q r, rec q = some r → nuF_Fin s f r q) (r : Rs) (h : nuF_st s rec = some r) : nuF_Fin s (f + 1) r .st := by
  unfold nuF_st at h
  show FinR _ _ _ _ _ _ _
  exact sat (keep := [0, 3, 4]) (by decide) [] (by kernel_rfl) cj0 (fin_loop (f + 1) (fin_round (ih _ _ h f (by omega))))
theorem nuF_l1_fin (s : ByteArray) (rec : nuF_S → Option Rs) (f : Nat) (ih : ∀ q r, rec q = some r → nuF_Fin s f r q) (xb0 : Bool) (xi1 : Int) (r : Rs) (h : nuF_l1 s rec xb0 xi1 = some r) : nuF_Fin s (f + 1) r (.l1 xb0 xi1) := by
  unfold nuF_l1 at h
  intro m0 m0h
  obtain ⟨m0, rfl⟩ : ∃ k, m0 = k + 1 := ⟨m0 - 1, by omega⟩
  refine obif h (fun c1 h => ?_) (fun c1 h => ?_)
  · refine ogrd h (fun c2 h => ?_)
    refine obif h (fun c3 h => ?_) (fun c3 h => ?_)
    · refine obif h (fun c4 h => ?_) (fun c4 h => ?_)
      · exact sat (keep := [0, 3, 4]) (by decide) [.t, .e, .t, .t, .t, .t] (by kernel_rfl) (cj c1 (cj c2 (cj c3 (cj c3 (cj c3 (cj c4 cj0)))))) (fin_round (ih _ _ h (m0) (by omega)))
      · refine obif h (fun c5 h => ?_) (fun c5 h => ?_)
        · exact osome h (sfin (keep := []) (by decide) [.t, .e, .t, .t, .t, .f, .t, .t, .l] (by kernel_rfl) (cj c1 (cj c2 (cj c3 (cj c3 (cj c3 (cj c4 (cj c2 (cj c5 (cj c5 cj0))))))))))
        · refine obif h (fun c6 h => ?_) (fun c6 h => ?_)
          · exact osome h (sfin (keep := []) (by decide) [.t, .e, .t, .t, .t, .f, .f, .f, .t] (by kernel_rfl) (cj c1 (cj c2 (cj c3 (cj c3 (cj c3 (cj c4 (cj c2 (cj c5 (cj c5 (cj c6 cj0)))))))))))
          · exact sat (keep := [0, 3, 4]) (by decide) [.t, .e, .t, .t, .t, .f, .f, .f, .f] (by kernel_rfl) (cj c1 (cj c2 (cj c3 (cj c3 (cj c3 (cj c4 (cj c2 (cj c5 (cj c5 (cj c6 cj0)))))))))) (fin_round (ih _ _ h (m0) (by omega)))
    · refine obif h (fun c7 h => ?_) (fun c7 h => ?_)
      · exact osome h (sfin (keep := []) (by decide) [.t, .e, .f, .f, .f, .l, .t, .t, .l] (by kernel_rfl) (cj c1 (cj c2 (cj c3 (cj c3 (cj c3 (cj c2 (cj c7 (cj c7 cj0)))))))))
      · refine obif h (fun c8 h => ?_) (fun c8 h => ?_)
        · exact osome h (sfin (keep := []) (by decide) [.t, .e, .f, .f, .f, .l, .f, .f, .t] (by kernel_rfl) (cj c1 (cj c2 (cj c3 (cj c3 (cj c3 (cj c2 (cj c7 (cj c7 (cj c8 cj0))))))))))
        · exact sat (keep := [0, 3, 4]) (by decide) [.t, .e, .f, .f, .f, .l, .f, .f, .f] (by kernel_rfl) (cj c1 (cj c2 (cj c3 (cj c3 (cj c3 (cj c2 (cj c7 (cj c7 (cj c8 cj0))))))))) (fin_round (ih _ _ h (m0) (by omega)))
  · exact osome h (sfin (keep := []) (by decide) [.f] (by kernel_rfl) (cj c1 cj0))
theorem nuF_ok (s : ByteArray) : ∀ f q r, nuF s f q = some r → nuF_Fin s f r q := by
  intro f
  induction f with
  | zero => intro q r h; cases h
  | succ f ih =>
    intro q r h
    cases q with
    | st => exact nuF_st_fin s _ f ih r h
    | l1 xb0 xi1 => exact nuF_l1_fin s _ f ih xb0 xi1 r h
theorem nuF_does (s : ByteArray) (k : Nat) {r : Rs} (h : nuF s k .st = some r) : Does cE 118 [] 0 [.v (st s)] r.1 r.2.1 r.2.2 :=
  does_of_fin (fn := Tryz.f118) (c := bd Tryz.f118) rfl (by kernel_rfl) rfl (nuF_ok s k .st r h)
inductive qoF_S where
  | st
  | l1 (xi0 : Int)
noncomputable def qoF_K1 : List It := stackAt [1, 0, 1, 0] (bd Tryz.f119) [] []
def qoF_Fin (s : ByteArray) (f : Nat) (r : Rs) : qoF_S → Prop
  | .st => FinR Tryz.f119 0 r [.code (bd Tryz.f119)] (argsS [.v (st s)] Tryz.f119.ntmps) [] 0
  | .l1 xi0 => ∀ m0 : Nat, f ≤ m0 → FinR Tryz.f119 0 r (bodyK (qoF_K1) m0) ([.v (.string (s)), .na, .na, .v (.int .i64 (xi0))] ++ List.replicate 26 .na) [] 0
noncomputable def qoF_st (s : ByteArray) (rec : qoF_S → Option Rs) : Option Rs :=
  rec (.l1 ((1 : Int)))
noncomputable def qoF_l1 (s : ByteArray) (rec : qoF_S → Option Rs) (xi0 : Int) : Option Rs :=
  bif (decide (xi0 < (s.size : Int))) then grd ((0 : Int) ≤ xi0 ∧ xi0 < (s.size : Int)) (bif ((((s.data.toList.getD xi0.toNat (0 : UInt8)).toNat : Nat) : Int) != (39 : Int)) then rec (.l1 (IntKind.i64.wrap (xi0 + (1 : Int))))
      else bif (decide (IntKind.i64.wrap (xi0 + (1 : Int)) < (s.size : Int))) then grd ((0 : Int) ≤ IntKind.i64.wrap (xi0 + (1 : Int)) ∧ IntKind.i64.wrap (xi0 + (1 : Int)) < (s.size : Int)) (bif ((((s.data.toList.getD (IntKind.i64.wrap (xi0 + (1 : Int))).toNat (0 : UInt8)).toNat : Nat) : Int) == (39 : Int)) then rec (.l1 (IntKind.i64.wrap (IntKind.i64.wrap (xi0 + (1 : Int)) + (1 : Int))))
            else some ((.v (.int .i64 (IntKind.i64.wrap (xi0 + (1 : Int)))) : SV), ([] : Tab cE), 0))
        else some ((.v (.int .i64 (IntKind.i64.wrap (xi0 + (1 : Int)))) : SV), ([] : Tab cE), 0))
  else some ((.v (.int .i64 ((0 : Int))) : SV), ([] : Tab cE), 0)
noncomputable def qoF (s : ByteArray) : Nat → qoF_S → Option Rs
  | 0, _ => none
  | f + 1, .st => qoF_st s (fun q => qoF s f q)
  | f + 1, .l1 xi0 => qoF_l1 s (fun q => qoF s f q) xi0
theorem qoF_st_fin (s : ByteArray) (rec : qoF_S → Option Rs) (f : Nat) (ih : ∀ q r, rec q = some r → qoF_Fin s f r q) (r : Rs) (h : qoF_st s rec = some r) : qoF_Fin s (f + 1) r .st := by
  unfold qoF_st at h
  show FinR _ _ _ _ _ _ _
  exact sat (keep := [0, 3]) (by decide) [] (by kernel_rfl) cj0 (fin_loop (f + 1) (fin_round (ih _ _ h f (by omega))))
theorem qoF_l1_fin (s : ByteArray) (rec : qoF_S → Option Rs) (f : Nat) (ih : ∀ q r, rec q = some r → qoF_Fin s f r q) (xi0 : Int) (r : Rs) (h : qoF_l1 s rec xi0 = some r) : qoF_Fin s (f + 1) r (.l1 xi0) := by
  unfold qoF_l1 at h
  intro m0 m0h
  obtain ⟨m0, rfl⟩ : ∃ k, m0 = k + 1 := ⟨m0 - 1, by omega⟩
  refine obif h (fun c1 h => ?_) (fun c1 h => ?_)
  · refine ogrd h (fun c2 h => ?_)
    refine obif h (fun c3 h => ?_) (fun c3 h => ?_)
    · exact sat (keep := [0, 3]) (by decide) [.t, .t] (by kernel_rfl) (cj c1 (cj c2 (cj c3 cj0))) (fin_round (ih _ _ h (m0) (by omega)))
    · refine obif h (fun c4 h => ?_) (fun c4 h => ?_)
      · refine ogrd h (fun c5 h => ?_)
        refine obif h (fun c6 h => ?_) (fun c6 h => ?_)
        · exact sat (keep := [0, 3]) (by decide) [.t, .f, .t, .t, .t, .t, .t, .t, .t] (by kernel_rfl) (cj c1 (cj c2 (cj c3 (cj c4 (cj c4 (cj c4 (cj c4 (cj c5 (cj c4 (cj c4 (cj c6 cj0))))))))))) (fin_round (ih _ _ h (m0) (by omega)))
        · exact osome h (sfin (keep := []) (by decide) [.t, .f, .t, .t, .t, .t, .t, .t, .f] (by kernel_rfl) (cj c1 (cj c2 (cj c3 (cj c4 (cj c4 (cj c4 (cj c4 (cj c5 (cj c4 (cj c4 (cj c6 cj0))))))))))))
      · exact osome h (sfin (keep := []) (by decide) [.t, .f, .f, .f, .f, .f, .f, .f, .l] (by kernel_rfl) (cj c1 (cj c2 (cj c3 (cj c4 (cj c4 (cj c4 (cj c4 (cj c4 (cj c4 cj0))))))))))
  · exact osome h (sfin (keep := []) (by decide) [.f] (by kernel_rfl) (cj c1 cj0))
theorem qoF_ok (s : ByteArray) : ∀ f q r, qoF s f q = some r → qoF_Fin s f r q := by
  intro f
  induction f with
  | zero => intro q r h; cases h
  | succ f ih =>
    intro q r h
    cases q with
    | st => exact qoF_st_fin s _ f ih r h
    | l1 xi0 => exact qoF_l1_fin s _ f ih xi0 r h
theorem qoF_does (s : ByteArray) (k : Nat) {r : Rs} (h : qoF s k .st = some r) : Does cE 119 [] 0 [.v (st s)] r.1 r.2.1 r.2.2 :=
  does_of_fin (fn := Tryz.f119) (c := bd Tryz.f119) rfl (by kernel_rfl) rfl (qoF_ok s k .st r h)
end Go.Proofs.YtpfignfgfhbblaaGreatDoorC
/- The reference's number, quoted, Word (lexer): what they come to. -/
namespace Go.Proofs.YtpfignfgfhbblaaGreatDoorC
open Go.Proofs Go.Proofs.YtpfignfgfhbblaaGreatDoorSx Go.Lib
set_option maxRecDepth 100000
set_option linter.unusedVariables false
abbrev rI (n : Int) : Rs := (.v (it n), [], 0)
abbrev rB (b : Bool) : Rs := (.v (.bool b), [], 0)
theorem nuF_end (p : List UInt8) (f : Nat) (b : Bool) : nuF (oL p) (f + 1) (.l1 b (p.length : Int)) = some (rI p.length) := by
  show nuF_l1 _ _ _ _ = _
  unfold nuF_l1
  refine bf (decide_eq_false (by rw [oL_size]; omega)) ?_
  rw [oL_size]
theorem nuF_step (p r : List UInt8) (c : UInt8) (f : Nat) (b : Bool) (hs : p.length ≤ 140737488355328) : nuF (oL (p ++ c :: r)) (f + 1) (.l1 b (p.length : Int)) =
    bif digB c then nuF (oL (p ++ c :: r)) f (.l1 b ((p.length + 1 : Nat) : Int)) else bif c == 46 && !b then nuF (oL (p ++ c :: r)) f (.l1 true ((p.length + 1 : Nat) : Int)) else some (rI p.length) := by
  show nuF_l1 _ _ _ _ = _
  unfold nuF_l1
  have hz : ((oL (p ++ c :: r)).size : Int) = p.length + r.length + 1 := by rw [oL_size]; simp; omega
  refine bt (decide_eq_true (by omega)) (gp (by omega) ?_)
  rw [getD_of, w1 hs, show (48 : Int) = ((48 : Nat) : Int) from rfl, show (57 : Int) = ((57 : Nat) : Int) from rfl, show (46 : Int) = (((46 : UInt8).toNat : Nat) : Int) from rfl]
  rw [cI_ge, cI_le, bne, cI_eq]
  unfold digB
  cases decide (48 ≤ c.toNat) <;> cases decide (c.toNat ≤ 57) <;> cases (c == 46) <;> cases b <;> rfl
theorem nuF_loop : ∀ (r p : List UInt8) (f : Nat) (b : Bool), r.length + 1 ≤ f → p.length + r.length ≤ 140737488355328 → nuF (oL (p ++ r)) f (.l1 b (p.length : Int)) = some (rI ((p.length + numN b r : Nat) : Int))
  | [], p, f, b, hf, hs => by
    obtain ⟨f, rfl⟩ : ∃ k, f = k + 1 := ⟨f - 1, by omega⟩
    rw [List.append_nil, nuF_end]
    rfl
  | c :: r, p, f, b, hf, hs => by
    simp only [List.length_cons] at hf hs
    obtain ⟨f, rfl⟩ : ∃ k, f = k + 1 := ⟨f - 1, by omega⟩
    rw [nuF_step p r c f b (by omega)]
    have ih := fun b' => nuF_loop r (p ++ [c]) f b' (by omega) (by simp; omega)
    have e1 : p ++ [c] ++ r = p ++ c :: r := by simp
    have e2 : (p ++ [c]).length = p.length + 1 := by simp
    rw [e1, e2] at ih
    rw [ih, ih]
    have e3 : numN b (c :: r) = bif digB c then numN b r + 1 else bif c == 46 && !b then numN true r + 1 else 0 := by rw [numN]
    rw [e3]
    cases digB c with
    | true => exact congrArg (fun z : Int => some (rI z)) (by show (((p.length + 1) + numN b r : Nat) : Int) = ((p.length + (numN b r + 1) : Nat) : Int); omega)
    | false =>
      cases (c == 46 && !b) with
      | true => exact congrArg (fun z : Int => some (rI z)) (by show (((p.length + 1) + numN true r : Nat) : Int) = ((p.length + (numN true r + 1) : Nat) : Int); omega)
      | false => rfl
theorem rnumber5_does (s : ByteArray) (hs : s.size ≤ 140737488351232) : Does cE 118 [] 0 [.v (st s)] (.v (it (numN false (bL s)))) [] 0 := by
  refine Does.of (nuF_does s (s.size + 3) (r := (_, _, _)) ?_) rfl
  obtain ⟨l, rfl⟩ : ∃ l, s = oL l := ⟨_, oL_of s⟩
  rw [oL_size] at hs
  have h := nuF_loop l [] ((oL l).size + 2) false (by rw [oL_size]; omega) (by simp; omega)
  rw [List.nil_append] at h
  show nuF_st _ _ = _
  unfold nuF_st
  show nuF _ _ (.l1 _ _) = _
  refine Eq.trans h ?_
  unfold bL
  rw [oL_data]
  simp
theorem qoF_loop : ∀ (n : Nat) (r p : List UInt8) (f : Nat), r.length ≤ n → r.length + 1 ≤ f → p.length + r.length ≤ 140737488355300 → qoF (oL (p ++ r)) f (.l1 (p.length : Int)) = some (rI (match quoN r with | some k => ((p.length + k : Nat) : Int) | none => 0)) := by
  intro n
  induction n with
  | zero =>
    intro r p f hn hf hs
    have e := List.eq_nil_of_length_eq_zero (Nat.le_zero.1 hn)
    subst e
    obtain ⟨f, rfl⟩ : ∃ k, f = k + 1 := ⟨f - 1, by omega⟩
    show qoF_l1 _ _ _ = _
    unfold qoF_l1
    exact bf (decide_eq_false (by rw [oL_size]; simp)) rfl
  | succ n ih =>
    intro r p f hn hf hs
    obtain ⟨f, rfl⟩ : ∃ k, f = k + 1 := ⟨f - 1, by omega⟩
    show qoF_l1 _ _ _ = _
    unfold qoF_l1
    cases r with
    | nil => exact bf (decide_eq_false (by rw [oL_size]; simp)) rfl
    | cons c r =>
      simp only [List.length_cons] at hn hf hs
      have hz : ((oL (p ++ c :: r)).size : Int) = p.length + r.length + 1 := by rw [oL_size]; simp; omega
      have hw : IntKind.i64.wrap ((p.length : Int) + 1) = (p.length : Int) + 1 := wrap64 (by omega) (by omega)
      refine bt (decide_eq_true (by omega)) (gp (by omega) ?_)
      rw [getD_at, hw]
      cases hc : (c == 39) with
      | false =>
        refine bt (by rw [bne, b39, hc]; rfl) ?_
        have h := ih r (p ++ [c]) f (by omega) (by omega) (by simp; omega)
        have e1 : p ++ [c] ++ r = p ++ c :: r := by simp
        have e2 : (p ++ [c]).length = p.length + 1 := by simp
        rw [e1, e2] at h
        show qoF _ f (.l1 ((p.length : Int) + 1)) = _
        rw [show (p.length : Int) + 1 = ((p.length + 1 : Nat) : Int) from by omega, h]
        have e3 : quoN (c :: r) = (quoN r).map (· + 1) := by
          rw [quoN.eq_def]
          show (bif c == 39 then _ else _) = _
          rw [hc]
          rfl
        rw [e3]
        cases quoN r with
        | none => rfl
        | some k => exact congrArg (fun z : Int => some (rI z)) (by show (((p.length + 1) + k : Nat) : Int) = ((p.length + (k + 1) : Nat) : Int); omega)
      | true =>
        have ec : c = 39 := eq_of_beq hc
        subst ec
        refine bf rfl ?_
        cases r with
        | nil =>
          refine bf (decide_eq_false (by simp at hz; omega)) ?_
          rfl
        | cons d r =>
          simp only [List.length_cons] at hn hf hs hz
          refine bt (decide_eq_true (by omega)) (gp (by omega) ?_)
          rw [getD_at1]
          cases hd : (d == 39) with
          | true =>
            have ed : d = 39 := eq_of_beq hd
            subst ed
            refine bt rfl ?_
            have hw2 : IntKind.i64.wrap ((p.length : Int) + 1 + 1) = ((p.length + 2 : Nat) : Int) := (wrap64 (by omega) (by omega)).trans (by omega)
            have h := ih r (p ++ [39, 39]) f (by omega) (by omega) (by simp; omega)
            have e1 : p ++ [39, 39] ++ r = p ++ 39 :: 39 :: r := by simp
            have e2 : (p ++ [39, 39]).length = p.length + 2 := by simp
            rw [e1, e2] at h
            show qoF _ f (.l1 (IntKind.i64.wrap _)) = _
            rw [hw2, h]
            have e3 : quoN (39 :: 39 :: r) = (quoN r).map (· + 2) := by rw [quoN]; rfl
            rw [e3]
            cases quoN r with
            | none => rfl
            | some k => exact congrArg (fun z : Int => some (rI z)) (by show (((p.length + 2) + k : Nat) : Int) = ((p.length + (k + 2) : Nat) : Int); omega)
          | false =>
            refine bf (by rw [b39, hd]) ?_
            have e3 : quoN (39 :: d :: r) = some 1 := by
              rw [quoN.eq_def]
              show (bif d == 39 then _ else _) = _
              rw [hd]
              rfl
            rw [e3]
            rfl
theorem rquoted5_does (s : ByteArray) (hs : s.size ≤ 140737488351232) (h0 : 1 ≤ s.size) : Does cE 119 [] 0 [.v (st s)] (.v (it (quoLn (bL s)))) [] 0 := by
  refine Does.of (qoF_does s (s.size + 3) (r := (_, _, _)) ?_) rfl
  obtain ⟨l, rfl⟩ : ∃ l, s = oL l := ⟨_, oL_of s⟩
  rw [oL_size] at hs h0
  cases l with
  | nil => simp at h0
  | cons c r =>
    simp only [List.length_cons] at hs
    have h := qoF_loop r.length r [c] ((oL (c :: r)).size + 2) (Nat.le_refl _) (by rw [oL_size, List.length_cons]; omega) (by simp; omega)
    show qoF_st _ _ = _
    unfold qoF_st
    refine Eq.trans h ?_
    unfold bL quoLn
    rw [oL_data]
    show some (rI (match quoN r with | some k => _ | none => _)) = some (rI (match quoN r with | some k => _ | none => _))
    cases quoN r with
    | none => rfl
    | some k => exact congrArg (fun z : Int => some (rI z)) (by show (([c].length + k : Nat) : Int) = ((k + 1 : Nat) : Int); simp; omega)
end Go.Proofs.YtpfignfgfhbblaaGreatDoorC
/-
  DERIVED: THE SHELF's CONTRACTS AT THIS DUMP, IN PLAIN WORDS (tools/lay-plain.mjs out of 'YtpfignfgfhbblaaGreatDoorXL2x.lean', which tools/lay-shelf.mjs wrote): THE SAME DECLARATIONS UNDER THE SAME NAMES: 'import', 'namespace', 'open', 'def', 'theorem' AND NOTHING ELSE: no command of the shelf's: FOR A HAND-IN. Each laying: the table of numbers ('.._ren') and one theorem, a field a fact of the dump's own or the kernel's comparison; each contract: ONE APPLICATION.
-/
namespace Go.Proofs
open Go.Shelf
def Tryz.laysIndexByte_ren : Go.Shelf.Ren := ⟨fun | 137 => 60 | 217 => 115 | 266 => 164 | n => n, fun | 9 => 9 | 5 => 5 | 3 => 3 | n => n, fun | n => n⟩
theorem Tryz.laysIndexByte : Go.Proofs.Lays.n137 Tryz.prog Tryz.laysIndexByte_ren := {
  mixed := by kernel_rfl
  f137 := Tryz.func60.trans (congrArg some (by kernel_rfl))
  f217 := Tryz.func115.trans (congrArg some (by kernel_rfl))
  f266 := Tryz.func164.trans (congrArg some (by kernel_rfl))
  t3 := Tryz.underlying3
  a3 := Tryz.isAgg3
  z3 := Tryz.sizeOf3
  v3 := Tryz.zeroValue3
  t5 := Tryz.underlying5
  a5 := Tryz.isAgg5
  z5 := Tryz.sizeOf5
  v5 := Tryz.zeroValue5
  t9 := Tryz.underlying9
  a9 := Tryz.isAgg9
  z9 := Tryz.sizeOf9
  v9 := Tryz.zeroValue9 }
end Go.Proofs
/- strings.Trim of a word's signs; strings.IndexByte: told. -/
namespace Go.Proofs.YtpfignfgfhbblaaGreatDoorC
open Go.Proofs Go.Proofs.YtpfignfgfhbblaaGreatDoorSx Go.RowKit Go.Sort Go.Lib Go.Shelf
set_option maxRecDepth 100000
set_option linter.unusedVariables false
abbrev alnW : ByteArray := ByteArray.mk #[97, 98, 99, 100, 101, 102, 103, 104, 105, 106, 107, 108, 109, 110, 111, 112, 113, 114, 115, 116, 117, 118, 119, 120, 121, 122, 48, 49, 50, 51, 52, 53, 54, 55, 56, 57, 95]
theorem trimw_does (s : ByteArray) (hs : s.size ≤ 140737488351232) : Does cE 65 [] 0 [.v (st s), .v (st alnW)] (.v (st (oL (Lib.trimS (bL s) (bL alnW))))) [] 0 := by
  refine does_lib (l := [st s, st alnW]) (enters (fn := Tryz.f65) rfl (by kernel_rfl) rfl) (fun w hg => ?_)
  exact Any.strings_Trim_laid Tryz.laysTrim (by kernel_rfl) s alnW w (by omega) (by decide) (ascii_of_all (by decide))
theorem ixb_does (s : ByteArray) (c : Int) (hc : 0 ≤ c ∧ c < 256) : Does cE 60 [] 0 [.v (st s), .v (ib c)] (.v (it (Lib.indexByte (bL s) (UInt8.ofNat c.toNat)))) [] 0 := by
  refine does_lib (l := [st s, ib c]) (enters (fn := Tryz.f60) rfl (by kernel_rfl) rfl) (fun w hg => ?_)
  exact (Any.strings_IndexByte Tryz.laysIndexByte s c w).mono fun e' w' hh => ⟨hh.1, hh.2 ▸ Below.refl _ _⟩
theorem alnW_ok : ∀ n, n < 256 → (bL alnW).contains (UInt8.ofNat n) = wrdB (UInt8.ofNat n) := by decide
theorem aln_wrd (c : UInt8) : (bL alnW).contains c = wrdB c := by
  have h := alnW_ok c.toNat c.toNat_lt
  rw [UInt8.ofNat_toNat] at h
  exact h
end Go.Proofs.YtpfignfgfhbblaaGreatDoorC
/- lexer.Word, walked. Printed by a program (wip/tools); Lean checks each. -/
namespace Go.Proofs.YtpfignfgfhbblaaGreatDoorC
open Go.Proofs Go.Proofs.YtpfignfgfhbblaaGreatDoorSx Go.Lib
set_option maxRecDepth 100000
set_option maxHeartbeats 4000000
set_option linter.unusedVariables false
noncomputable def woP (s : ByteArray) : Option Rs :=
  bif (!s.toList == (ByteArray.mk #[]).toList) then bif (decide ((s.size : Int) ≤ (32 : Int))) then grd ((0 : Int) ≤ (0 : Int) ∧ (0 : Int) < (s.size : Int)) (bif (decide (IntKind.u8.wrap ((((s.data.toList.getD (Int.toNat (0 : Int)) (0 : UInt8)).toNat : Nat) : Int) - (97 : Int)) < (26 : Int))) then grd ((s).size ≤ 140737488351232) (some ((.v (.bool ((oL (Go.Lib.trimS (bL s) (bL (ByteArray.mk #[(97 : UInt8), (98 : UInt8), (99 : UInt8), (100 : UInt8), (101 : UInt8), (102 : UInt8), (103 : UInt8), (104 : UInt8), (105 : UInt8), (106 : UInt8), (107 : UInt8), (108 : UInt8), (109 : UInt8), (110 : UInt8), (111 : UInt8), (112 : UInt8), (113 : UInt8), (114 : UInt8), (115 : UInt8), (116 : UInt8), (117 : UInt8), (118 : UInt8), (119 : UInt8), (120 : UInt8), (121 : UInt8), (122 : UInt8), (48 : UInt8), (49 : UInt8), (50 : UInt8), (51 : UInt8), (52 : UInt8), (53 : UInt8), (54 : UInt8), (55 : UInt8), (56 : UInt8), (57 : UInt8), (95 : UInt8)])))).toList == (ByteArray.mk #[]).toList)) : SV), ([] : Tab cE), 0))
        else bif ((((s.data.toList.getD (Int.toNat (0 : Int)) (0 : UInt8)).toNat : Nat) : Int) == (95 : Int)) then grd ((s).size ≤ 140737488351232) (some ((.v (.bool ((oL (Go.Lib.trimS (bL s) (bL (ByteArray.mk #[(97 : UInt8), (98 : UInt8), (99 : UInt8), (100 : UInt8), (101 : UInt8), (102 : UInt8), (103 : UInt8), (104 : UInt8), (105 : UInt8), (106 : UInt8), (107 : UInt8), (108 : UInt8), (109 : UInt8), (110 : UInt8), (111 : UInt8), (112 : UInt8), (113 : UInt8), (114 : UInt8), (115 : UInt8), (116 : UInt8), (117 : UInt8), (118 : UInt8), (119 : UInt8), (120 : UInt8), (121 : UInt8), (122 : UInt8), (48 : UInt8), (49 : UInt8), (50 : UInt8), (51 : UInt8), (52 : UInt8), (53 : UInt8), (54 : UInt8), (55 : UInt8), (56 : UInt8), (57 : UInt8), (95 : UInt8)])))).toList == (ByteArray.mk #[]).toList)) : SV), ([] : Tab cE), 0))
          else some ((.v (.bool (false)) : SV), ([] : Tab cE), 0))
    else some ((.v (.bool (false)) : SV), ([] : Tab cE), 0)
  else some ((.v (.bool (false)) : SV), ([] : Tab cE), 0)
theorem woP_does (s : ByteArray) {r : Rs} (h : woP s = some r) : Does cE 30 [] 0 [.v (st s)] r.1 r.2.1 r.2.2 := by
  unfold woP at h
  refine does_of_fin (fn := Tryz.f30) (c := bd Tryz.f30) rfl (by kernel_rfl) rfl ?_
  refine obif h (fun c1 h => ?_) (fun c1 h => ?_)
  · refine obif h (fun c2 h => ?_) (fun c2 h => ?_)
    · refine ogrd h (fun c3 h => ?_)
      refine obif h (fun c4 h => ?_) (fun c4 h => ?_)
      · refine ogrd h (fun c5 h => ?_)
        exact osome h (sfin (keep := []) (by decide) [.t, .t, .t, .t, .t, .t, .t, .e, .t, .t, .t, .t, .l, .l, .c (.v (.string (oL (Go.Lib.trimS (bL s) (bL (ByteArray.mk #[97, 98, 99, 100, 101, 102, 103, 104, 105, 106, 107, 108, 109, 110, 111, 112, 113, 114, 115, 116, 117, 118, 119, 120, 121, 122, 48, 49, 50, 51, 52, 53, 54, 55, 56, 57, 95])))))) [] 0, .l, .l] (by kernel_rfl) (cj c1 (cj c1 (cj c1 (cj c1 (cj c2 (cj c2 (cj c3 (cj c2 (cj c4 (cj c4 (cj c4 (cj c2 (cj (trimw_does (s) (by assumption)) cj0))))))))))))))
      · refine obif h (fun c6 h => ?_) (fun c6 h => ?_)
        · refine ogrd h (fun c7 h => ?_)
          exact osome h (sfin (keep := []) (by decide) [.t, .t, .t, .t, .t, .t, .t, .e, .f, .f, .f, .t, .t, .t, .c (.v (.string (oL (Go.Lib.trimS (bL s) (bL (ByteArray.mk #[97, 98, 99, 100, 101, 102, 103, 104, 105, 106, 107, 108, 109, 110, 111, 112, 113, 114, 115, 116, 117, 118, 119, 120, 121, 122, 48, 49, 50, 51, 52, 53, 54, 55, 56, 57, 95])))))) [] 0, .t, .t] (by kernel_rfl) (cj c1 (cj c1 (cj c1 (cj c1 (cj c2 (cj c2 (cj c3 (cj c2 (cj c4 (cj c4 (cj c4 (cj c2 (cj c6 (cj c6 (cj (trimw_does (s) (by assumption)) (cj c6 (cj c6 cj0))))))))))))))))))
        · exact osome h (sfin (keep := []) (by decide) [.t, .t, .t, .t, .t, .t, .t, .e, .f, .f, .f, .t, .f, .f, .f, .f] (by kernel_rfl) (cj c1 (cj c1 (cj c1 (cj c1 (cj c2 (cj c2 (cj c3 (cj c2 (cj c4 (cj c4 (cj c4 (cj c2 (cj c6 (cj c6 (cj c6 (cj c6 cj0)))))))))))))))))
    · exact osome h (sfin (keep := []) (by decide) [.t, .t, .t, .t, .f, .f, .f, .f, .l, .l, .l, .l] (by kernel_rfl) (cj c1 (cj c1 (cj c1 (cj c1 (cj c2 (cj c2 (cj c2 (cj c2 cj0)))))))))
  · exact osome h (sfin (keep := []) (by decide) [.f, .f, .f, .f, .l, .l, .l, .l, .l, .l, .l, .l] (by kernel_rfl) (cj c1 (cj c1 (cj c1 (cj c1 cj0)))))
end Go.Proofs.YtpfignfgfhbblaaGreatDoorC
/- Words: the program's and the reference's. -/
namespace Go.Proofs.YtpfignfgfhbblaaGreatDoorC
open Go.Proofs Go.Proofs.YtpfignfgfhbblaaGreatDoorSx Go.Lib
set_option maxRecDepth 100000
set_option linter.unusedVariables false
theorem woR_step (p r : List UInt8) (c : UInt8) (f : Nat) (hs : p.length ≤ 140737488355328) : woR (oL (p ++ c :: r)) (f + 1) (.l1 (p.length : Int)) =
    bif letB c || (digB c && decide (0 < p.length)) then woR (oL (p ++ c :: r)) f (.l1 ((p.length + 1 : Nat) : Int)) else some (rB false) := by
  show woR_l1 _ _ _ = _
  unfold woR_l1
  have hz : ((oL (p ++ c :: r)).size : Int) = p.length + r.length + 1 := by rw [oL_size]; simp; omega
  refine bt (decide_eq_true (by omega)) (gp (by omega) ?_)
  rw [getD_of, w1 hs, show (97 : Int) = ((97 : Nat) : Int) from rfl, show (122 : Int) = ((122 : Nat) : Int) from rfl, show (48 : Int) = ((48 : Nat) : Int) from rfl, show (57 : Int) = ((57 : Nat) : Int) from rfl, show (95 : Int) = (((95 : UInt8).toNat : Nat) : Int) from rfl]
  rw [cI_ge, cI_le, cI_ge, cI_le, cI_eq]
  have e0 : decide ((p.length : Int) > 0) = decide (0 < p.length) := decide_eq_decide.2 (by omega)
  rw [e0]
  unfold letB digB
  cases decide (97 ≤ c.toNat) <;> cases decide (c.toNat ≤ 122) <;> cases decide (48 ≤ c.toNat) <;> cases decide (c.toNat ≤ 57) <;> cases (c == 95) <;> cases decide (0 < p.length) <;> rfl
theorem woR_end (p : List UInt8) (f : Nat) (hs : p.length ≤ 140737488355328) : woR (oL p) (f + 1) (.l1 (p.length : Int)) = some (rB (decide (1 ≤ p.length) && decide (p.length ≤ 32))) := by
  show woR_l1 _ _ _ = _
  unfold woR_l1
  refine bf (decide_eq_false (by rw [oL_size]; omega)) ?_
  rw [oL_size]
  have e1 : decide ((p.length : Int) ≥ 1) = decide (1 ≤ p.length) := decide_eq_decide.2 (by omega)
  have e2 : decide ((p.length : Int) ≤ 32) = decide (p.length ≤ 32) := decide_eq_decide.2 (by omega)
  rw [e1, e2]
  cases decide (1 ≤ p.length) <;> cases decide (p.length ≤ 32) <;> rfl
theorem woR_loop : ∀ (r p : List UInt8) (f : Nat), r.length + 1 ≤ f → 0 < p.length → p.length + r.length ≤ 140737488355300 → woR (oL (p ++ r)) f (.l1 (p.length : Int)) = some (rB (r.all wrdB && decide (p.length + r.length ≤ 32)))
  | [], p, f, hf, hp, hs => by
    obtain ⟨f, rfl⟩ : ∃ k, f = k + 1 := ⟨f - 1, by omega⟩
    simp only [List.length_nil] at hs
    rw [List.append_nil, woR_end p f (by omega), decide_eq_true (by omega : 1 ≤ p.length)]
    simp
  | c :: r, p, f, hf, hp, hs => by
    simp only [List.length_cons] at hf hs
    obtain ⟨f, rfl⟩ : ∃ k, f = k + 1 := ⟨f - 1, by omega⟩
    rw [woR_step p r c f (by omega)]
    have ih := woR_loop r (p ++ [c]) f (by omega) (by simp) (by simp; omega)
    have e1 : p ++ [c] ++ r = p ++ c :: r := by simp
    have e2 : (p ++ [c]).length = p.length + 1 := by simp
    rw [e1, e2] at ih
    rw [ih, decide_eq_true hp, Bool.and_true]
    have e3 : (c :: r).all wrdB = (wrdB c && r.all wrdB) := rfl
    rw [e3]
    unfold wrdB
    have e4 : decide (p.length + 1 + r.length ≤ 32) = decide (p.length + (c :: r).length ≤ 32) := decide_eq_decide.2 (by simp; omega)
    rw [e4]
    cases letB c <;> cases digB c <;> rfl
theorem rword_does (s : ByteArray) (hs : s.size ≤ 140737488351232) : Does cE 31 [] 0 [.v (st s)] (.v (.bool (wordL (bL s)))) [] 0 := by
  refine Does.of (woR_does s (s.size + 4) (r := (_, _, _)) ?_) rfl
  obtain ⟨l, rfl⟩ : ∃ l, s = oL l := ⟨_, oL_of s⟩
  rw [oL_size] at hs
  have eb : bL (oL l) = l := oL_data l
  rw [eb, oL_size]
  show woR_st _ _ = _
  unfold woR_st
  show woR _ (l.length + 3) (.l1 _) = _
  cases l with
  | nil => exact (woR_end [] _ (by decide)).trans rfl
  | cons c r =>
    simp only [List.length_cons] at hs
    have h1 := woR_step [] r c (r.length + 3) (by simp)
    have h2 := woR_loop r [c] (r.length + 3) (by omega) (by simp) (by simp; omega)
    refine Eq.trans h1 ?_
    rw [List.nil_append]
    have e2 : (([] : List UInt8).length + 1 : Nat) = [c].length := rfl
    rw [e2]
    have e3 : ([c] ++ r) = c :: r := rfl
    rw [e3] at h2
    rw [h2]
    have hw : wordL (c :: r) = (letB c && (r.all wrdB && decide (r.length + 1 ≤ 32))) := rfl
    rw [hw]
    have e4 : decide ([c].length + r.length ≤ 32) = decide (r.length + 1 ≤ 32) := decide_eq_decide.2 (by simp; omega)
    rw [e4]
    have e5 : decide (0 < ([] : List UInt8).length) = false := rfl
    rw [e5]
    cases letB c <;> cases digB c <;> rfl
theorem trim_all (l cs : List UInt8) : (Lib.trimS l cs == []) = l.all (cs.contains ·) := by
  have dw : ∀ (q : UInt8 → Bool) (x : List UInt8), x.dropWhile q = [] ↔ x.all q = true := by
    intro q x
    induction x with
    | nil => simp
    | cons c x ih =>
      rw [List.dropWhile_cons, List.all_cons]
      cases h : q c with
      | true => simp [ih]
      | false => simp
  rw [Bool.eq_iff_iff, beq_iff_eq]
  unfold Lib.trimS Lib.trimLeftS Lib.trimRightS
  rw [dw]
  constructor
  · intro h
    by_cases hr : (l.reverse.dropWhile (cs.contains ·)) = []
    · have := (dw _ _).1 hr
      simpa using this
    · -- what is left ends in a sign that is none of these
      exfalso
      have hne := List.head_dropWhile_not (cs.contains ·) hr
      have hm : (l.reverse.dropWhile (cs.contains ·)).head hr ∈ (l.reverse.dropWhile (cs.contains ·)).reverse := by simp
      have := List.all_eq_true.1 h _ hm
      rw [hne] at this
      cases this
  · intro h
    have hr : l.reverse.dropWhile (cs.contains ·) = [] := (dw _ _).2 (by simpa using h)
    rw [hr]
    rfl
theorem word_eq (l : List UInt8) (hl : l.length ≤ 140737488351232) : woP (oL l) = some (rB (wordL l)) := by
  have e0 : (ByteArray.mk #[]).toList = [] := oL_toList []
  have ea : ∀ c r, (Lib.trimS (bL (oL (c :: r))) (bL alnW) == []) = (wrdB c && r.all wrdB) := by
    intro c r
    rw [trim_all, show bL (oL (c :: r)) = c :: r from oL_data _, List.all_cons, aln_wrd]
    congr 1
    apply List.all_congr rfl
    intro d
    exact aln_wrd d
  unfold woP
  rw [oL_toList, e0]
  cases l with
  | nil => rfl
  | cons c r =>
    simp only [List.length_cons] at hl
    have hz : ((oL (c :: r)).size : Int) = r.length + 1 := by rw [oL_size]; simp
    refine bt rfl ?_
    have e32 : decide (((oL (c :: r)).size : Int) ≤ 32) = decide (r.length + 1 ≤ 32) := decide_eq_decide.2 (by omega)
    rw [e32]
    have hw : wordL (c :: r) = (letB c && (r.all wrdB && decide (r.length + 1 ≤ 32))) := rfl
    rw [hw]
    cases decide (r.length + 1 ≤ 32) with
    | false =>
      refine bf rfl ?_
      cases letB c <;> cases r.all wrdB <;> rfl
    | true =>
      refine bt rfl (gp (by omega) ?_)
      rw [head_at, show (97 : Int) = ((97 : Nat) : Int) from rfl, show (26 : Int) = ((26 : Nat) : Int) from rfl, u8_sub c 97 26 (by decide) (by decide), show (95 : Int) = (((95 : UInt8).toNat : Nat) : Int) from rfl, cI_eq]
      have hsz : (oL (c :: r)).size ≤ 140737488351232 := by rw [oL_size, List.length_cons]; omega
      have h122 : decide (c.toNat < 97 + 26) = decide (c.toNat ≤ 122) := decide_eq_decide.2 (by omega)
      have hv : ((oL (Lib.trimS (bL (oL (c :: r))) (bL alnW))).toList == []) = (wrdB c && r.all wrdB) := by
        rw [oL_toList, ea]
      rw [h122]
      have hl2 : letB c = (decide (97 ≤ c.toNat) && decide (c.toNat ≤ 122) || c == 95) := rfl
      cases h1 : (decide (97 ≤ c.toNat) && decide (c.toNat ≤ 122)) with
      | true =>
        refine bt rfl (gp hsz ?_)
        have hl3 : letB c = true := by rw [hl2, h1]; rfl
        show some (rB ((oL (Lib.trimS (bL (oL (c :: r))) (bL alnW))).toList == [])) = _
        rw [hv, hl3]
        have hwr : wrdB c = true := by unfold wrdB; rw [hl3]; rfl
        rw [hwr]
        cases r.all wrdB <;> rfl
      | false =>
        refine bf rfl ?_
        cases h2 : (c == 95) with
        | true =>
          refine bt rfl (gp hsz ?_)
          have hl3 : letB c = true := by rw [hl2, h1, h2]; rfl
          show some (rB ((oL (Lib.trimS (bL (oL (c :: r))) (bL alnW))).toList == [])) = _
          rw [hv, hl3]
          have hwr : wrdB c = true := by unfold wrdB; rw [hl3]; rfl
          rw [hwr]
          cases r.all wrdB <;> rfl
        | false =>
          have hl3 : letB c = false := by rw [hl2, h1, h2]; rfl
          rw [hl3]
          rfl
theorem word_does (s : ByteArray) (hs : s.size ≤ 140737488351232) : Does cE 30 [] 0 [.v (st s)] (.v (.bool (wordL (bL s)))) [] 0 := by
  refine Does.of (woP_does s (r := (_, _, _)) ?_) rfl
  obtain ⟨l, rfl⟩ : ∃ l, s = oL l := ⟨_, oL_of s⟩
  rw [oL_size] at hs
  have eb : bL (oL l) = l := oL_data l
  rw [eb]
  exact word_eq l hs
end Go.Proofs.YtpfignfgfhbblaaGreatDoorC
/- slices.Index of texts, walked. Printed by a program (wip/tools); Lean checks each. -/
namespace Go.Proofs.YtpfignfgfhbblaaGreatDoorC
open Go.Proofs Go.Proofs.YtpfignfgfhbblaaGreatDoorSx Go.Lib
set_option maxRecDepth 100000
set_option maxHeartbeats 4000000
set_option linter.unusedVariables false
inductive ixS_S where
  | st
  | l1 (xi0 : Int)
noncomputable def ixS_K1 : List It := stackAt [1, 0, 1, 0] (bd Tryz.f165) [] []
def ixS_Fin (l : List ByteArray) (x : ByteArray) (f : Nat) (r : Rs) : ixS_S → Prop
  | .st => FinR Tryz.f165 1 r [.code (bd Tryz.f165)] (argsS [.o 0, .v (st x)] Tryz.f165.ntmps) [(0, .ro 9 l false)] 1
  | .l1 xi0 => ∀ m0 : Nat, f ≤ m0 → FinR Tryz.f165 1 r (bodyK (ixS_K1) m0) ([.o 0, .v (.string (x)), .na, .na, .na, .na, .na, .v (.int .i64 ((l.length : Int))), .v (.int .i64 (xi0))] ++ List.replicate 10 .na) [(0, .ro 9 (l) false)] 1
noncomputable def ixS_st (l : List ByteArray) (x : ByteArray) (rec : ixS_S → Option Rs) : Option Rs :=
  rec (.l1 ((0 : Int)))
noncomputable def ixS_l1 (l : List ByteArray) (x : ByteArray) (rec : ixS_S → Option Rs) (xi0 : Int) : Option Rs :=
  bif (decide (xi0 < (l.length : Int))) then grd ((0 : Int) ≤ xi0 ∧ xi0 < (l.length : Int)) (grd (xi0.toNat.succ.le l.length) (bif (x.toList == (l.getD xi0.toNat ByteArray.empty).toList) then some ((.v (.int .i64 (xi0)) : SV), ([(0, .ro 9 (l) false)] : Tab cE), 1)
        else rec (.l1 (IntKind.i64.wrap (xi0 + (1 : Int))))))
  else some ((.v (.int .i64 ((-1 : Int))) : SV), ([(0, .ro 9 (l) false)] : Tab cE), 1)
noncomputable def ixS (l : List ByteArray) (x : ByteArray) : Nat → ixS_S → Option Rs
  | 0, _ => none
  | f + 1, .st => ixS_st l x (fun q => ixS l x f q)
  | f + 1, .l1 xi0 => ixS_l1 l x (fun q => ixS l x f q) xi0
theorem ixS_st_fin (l : List ByteArray) (x : ByteArray) (rec : ixS_S → Option Rs) (f : Nat) (ih : ∀ q r, rec q = some r → ixS_Fin l x f r q) (r : Rs) (h : ixS_st l x rec = some r) : ixS_Fin l x (f + 1) r .st := by
  unfold ixS_st at h
  show FinR _ _ _ _ _ _ _
  exact sat (keep := [0, 1, 7, 8]) (by decide) [] (by kernel_rfl) cj0 (fin_loop (f + 1) (fin_round (ih _ _ h f (by omega))))
theorem ixS_l1_fin (l : List ByteArray) (x : ByteArray) (rec : ixS_S → Option Rs) (f : Nat) (ih : ∀ q r, rec q = some r → ixS_Fin l x f r q) (xi0 : Int) (r : Rs) (h : ixS_l1 l x rec xi0 = some r) : ixS_Fin l x (f + 1) r (.l1 xi0) := by
  unfold ixS_l1 at h
  intro m0 m0h
  obtain ⟨m0, rfl⟩ : ∃ k, m0 = k + 1 := ⟨m0 - 1, by omega⟩
  refine obif h (fun c1 h => ?_) (fun c1 h => ?_)
  · refine ogrd h (fun c2 h => ?_)
    refine ogrd h (fun c3 h => ?_)
    refine obif h (fun c4 h => ?_) (fun c4 h => ?_)
    · exact osome h (sfin (keep := []) (by decide) [.t, .t] (by kernel_rfl) (cj c1 (cj c2 (cj c3 (cj c4 cj0)))))
    · exact sat (keep := [0, 1, 7, 8]) (by decide) [.t, .f] (by kernel_rfl) (cj c1 (cj c2 (cj c3 (cj c4 cj0)))) (fin_round (ih _ _ h (m0) (by omega)))
  · exact osome h (sfin (keep := []) (by decide) [.f] (by kernel_rfl) (cj c1 cj0))
theorem ixS_ok (l : List ByteArray) (x : ByteArray) : ∀ f q r, ixS l x f q = some r → ixS_Fin l x f r q := by
  intro f
  induction f with
  | zero => intro q r h; cases h
  | succ f ih =>
    intro q r h
    cases q with
    | st => exact ixS_st_fin l x _ f ih r h
    | l1 xi0 => exact ixS_l1_fin l x _ f ih xi0 r h
theorem ixS_does (l : List ByteArray) (x : ByteArray) (k : Nat) {r : Rs} (h : ixS l x k .st = some r) : Does cE 165 [(0, .ro 9 l false)] 1 [.o 0, .v (st x)] r.1 r.2.1 r.2.2 :=
  does_of_fin (fn := Tryz.f165) (c := bd Tryz.f165) rfl (by kernel_rfl) rfl (ixS_ok l x k .st r h)
end Go.Proofs.YtpfignfgfhbblaaGreatDoorC
/- The reference's sign; slices.Index and Contains of texts. -/
namespace Go.Proofs.YtpfignfgfhbblaaGreatDoorC
open Go.Proofs Go.Proofs.YtpfignfgfhbblaaGreatDoorSx Go.Lib
set_option maxRecDepth 100000
set_option linter.unusedVariables false
theorem siR_loop (c : UInt8) (r : List UInt8) : ∀ (m k f : Nat), k + m = 13 → m + 1 ≤ f → siR (oL (c :: r)) f (.l1 (k : Int)) = some (rI (bif (signs1.drop k).contains c then 1 else 0)) := by
  intro m
  induction m with
  | zero =>
    intro k f hk hf
    obtain ⟨f, rfl⟩ : ∃ j, f = j + 1 := ⟨f - 1, by omega⟩
    obtain rfl : k = 13 := by omega
    show siR_l1 _ _ _ = _
    unfold siR_l1
    exact bf rfl rfl
  | succ m ih =>
    intro k f hk hf
    obtain ⟨f, rfl⟩ : ∃ j, f = j + 1 := ⟨f - 1, by omega⟩
    show siR_l1 _ _ _ = _
    unfold siR_l1
    have hl : k < signs1.length := by show k < 13; omega
    have e13 : (((ByteArray.mk #[40, 41, 44, 46, 59, 42, 43, 45, 47, 37, 61, 60, 62]).size : Nat) : Int) = 13 := rfl
    refine bt (decide_eq_true (by rw [e13]; omega)) (gp (by rw [oL_size, List.length_cons]; omega) (gp (by rw [e13]; omega) ?_))
    rw [head_at, cI_eq]
    have ed : signs1.drop k = signs1.getD k 0 :: signs1.drop (k + 1) := by
      rw [List.drop_eq_getElem_cons hl, List.getD_eq_getElem?_getD, List.getElem?_eq_getElem hl]
      rfl
    have ek : signs1.getD (k : Int).toNat 0 = signs1.getD k 0 := rfl
    show (bif c == signs1.getD (k : Int).toNat 0 then _ else _) = _
    rw [ek, ed, List.contains_cons]
    cases (c == signs1.getD k 0) with
    | true => rfl
    | false =>
      have h := ih (k + 1) f (by omega) (by omega)
      show siR _ f (.l1 (IntKind.i64.wrap ((k : Int) + 1))) = _
      rw [w1 (by omega), h]
      rfl
theorem two_beq (c d a b : UInt8) : ([c, d] == [a, b]) = (c == a && d == b) := by
  show (c == a && (d == b && true)) = _
  rw [Bool.and_true]
theorem siR_eq (c : UInt8) (r : List UInt8) (hl : r.length ≤ 140737488351231) : siR (oL (c :: r)) 16 .st = some (rI (signL (c :: r))) := by
  have hL := siR_loop c r 13 0 15 rfl (by decide)
  have hL' : (fun q => siR (oL (c :: r)) 15 q) (.l1 0) = some (rI (bif signs1.contains c then 1 else 0)) := hL
  have e1 : (ByteArray.mk #[60, 62]).toList = [60, 62] := oL_toList _
  have e2 : (ByteArray.mk #[60, 61]).toList = [60, 61] := oL_toList _
  have e3 : (ByteArray.mk #[62, 61]).toList = [62, 61] := oL_toList _
  have hz : ((oL (c :: r)).size : Int) = r.length + 1 := by rw [oL_size]; simp
  show siR_st _ _ = _
  unfold siR_st
  rw [e1, e2, e3, hL']
  cases r with
  | nil =>
    refine bf (decide_eq_false (by simp at hz; omega)) ?_
    have es : signL [c] = bif (c == 60 && false) || ((c == 60 && false) || (c == 62 && false)) then 2 else bif signs1.contains c then 1 else 0 := rfl
    rw [es]
    cases (c == 60) <;> cases (c == 62) <;> rfl
  | cons d r =>
    simp only [List.length_cons] at hz
    refine bt (decide_eq_true (by omega)) (gp (by omega) ?_)
    have ex : ((oL (c :: d :: r)).extract (Int.toNat 0) (Int.toNat 2)).toList = [c, d] := by rw [oL_ext, oL_toList]; rfl
    rw [ex, two_beq, two_beq, two_beq]
    have es : signL (c :: d :: r) = bif (c == 60 && d == 62) || ((c == 60 && d == 61) || (c == 62 && d == 61)) then 2 else bif signs1.contains c then 1 else 0 := rfl
    rw [es]
    cases (c == 60) <;> cases (c == 62) <;> cases (d == 62) <;> cases (d == 61) <;> rfl
theorem rsign_does (s : ByteArray) (hs : s.size ≤ 140737488351232) (h0 : 1 ≤ s.size) : Does cE 120 [] 0 [.v (st s)] (.v (it (signL (bL s)))) [] 0 := by
  refine Does.of (siR_does s 16 (r := (_, _, _)) ?_) rfl
  obtain ⟨l, rfl⟩ : ∃ l, s = oL l := ⟨_, oL_of s⟩
  rw [oL_size] at hs h0
  have eb : bL (oL l) = l := oL_data l
  rw [eb]
  cases l with
  | nil => simp at h0
  | cons c r => exact siR_eq c r (by simp at hs; omega)
/-! ### slices.Index, Contains -/
def idxFrom (x : ByteArray) : List ByteArray → Nat → Int
  | [], _ => -1
  | a :: l, k => bif x.toList == a.toList then (k : Int) else idxFrom x l (k + 1)
theorem getD_b (p r : List ByteArray) (a : ByteArray) : (p ++ a :: r).getD (p.length : Int).toNat ByteArray.empty = a := by
  have e : (p.length : Int).toNat = p.length := by omega
  rw [e, List.getD_eq_getElem?_getD, List.getElem?_append_right (Nat.le_refl _)]
  simp
theorem ixS_loop (x : ByteArray) : ∀ (r p : List ByteArray) (f : Nat), r.length + 1 ≤ f → p.length + r.length ≤ 140737488355328 → ixS (p ++ r) x f (.l1 (p.length : Int)) = some (.v (it (idxFrom x r p.length)), [(0, .ro 9 (p ++ r) false)], 1)
  | [], p, f, hf, hs => by
    obtain ⟨f, rfl⟩ : ∃ k, f = k + 1 := ⟨f - 1, by omega⟩
    show ixS_l1 _ _ _ _ = _
    unfold ixS_l1
    exact bf (decide_eq_false (by simp)) rfl
  | a :: r, p, f, hf, hs => by
    simp only [List.length_cons] at hf hs
    obtain ⟨f, rfl⟩ : ∃ k, f = k + 1 := ⟨f - 1, by omega⟩
    show ixS_l1 _ _ _ _ = _
    unfold ixS_l1
    have hz : ((p ++ a :: r).length : Int) = p.length + r.length + 1 := by simp; omega
    refine bt (decide_eq_true (by omega)) (gp (by omega) (gp (by show _ + 1 ≤ _; omega) ?_))
    rw [getD_b]
    have ei : idxFrom x (a :: r) p.length = bif x.toList == a.toList then (p.length : Int) else idxFrom x r (p.length + 1) := rfl
    rw [ei]
    cases (x.toList == a.toList) with
    | true => rfl
    | false =>
      have h := ixS_loop x r (p ++ [a]) f (by omega) (by simp; omega)
      have e1 : p ++ [a] ++ r = p ++ a :: r := by simp
      have e2 : (p ++ [a]).length = p.length + 1 := by simp
      rw [e1, e2] at h
      show ixS _ _ f (.l1 (IntKind.i64.wrap ((p.length : Int) + 1))) = _
      rw [w1 (by omega), h]
      rfl
theorem index_does (l : List ByteArray) (x : ByteArray) (hl : l.length ≤ 140737488355328) : Does cE 165 [(0, .ro 9 l false)] 1 [.o 0, .v (st x)] (.v (it (idxFrom x l 0))) [] 1 := by
  refine Does.nil (T' := [(0, .ro 9 l false)]) (Does.of (ixS_does l x (l.length + 3) (r := (_, _, _)) ?_) rfl) rfl
  have h := ixS_loop x l [] (l.length + 2) (by omega) (by simp; omega)
  show ixS_st _ _ _ = _
  unfold ixS_st
  exact h
end Go.Proofs.YtpfignfgfhbblaaGreatDoorC
/- slices.Contains of texts, walked. Printed by a program (wip/tools); Lean checks each. -/
namespace Go.Proofs.YtpfignfgfhbblaaGreatDoorC
open Go.Proofs Go.Proofs.YtpfignfgfhbblaaGreatDoorSx Go.Lib
set_option maxRecDepth 100000
set_option maxHeartbeats 4000000
set_option linter.unusedVariables false
noncomputable def coS (l : List ByteArray) (x : ByteArray) : Option Rs :=
  grd ((l).length ≤ 140737488355328) (some ((.v (.bool (decide (idxFrom x l (0 : Nat) ≥ (0 : Int)))) : SV), ([(0, .ro 9 (l) false)] : Tab cE), 1))
theorem coS_does (l : List ByteArray) (x : ByteArray) {r : Rs} (h : coS l x = some r) : Does cE 117 [(0, .ro 9 l false)] 1 [.o 0, .v (st x)] r.1 r.2.1 r.2.2 := by
  unfold coS at h
  refine does_of_fin (fn := Tryz.f117) (c := bd Tryz.f117) rfl (by kernel_rfl) rfl ?_
  refine ogrd h (fun c1 h => ?_)
  exact osome h (sfin (keep := []) (by decide) [.c (.v (.int .i64 (idxFrom x l 0))) [] 1] (by kernel_rfl) (cj (index_does (l) (x) (by assumption)) cj0))
end Go.Proofs.YtpfignfgfhbblaaGreatDoorC
