/- CodecWrites, in plain terms: what the codec writes is what the reference writes. -/
import Derived.Test.YtomgifkpnfgimaaSC
import Derived.Test.YtomgifkpnfgimaaRw
import Derived.Test.YtomgifkpnfgimaaPW
import Derived.Test.YtomgifkpnfgimaaPW2
import Derived.Test.YtomgifkpnfgimaaPW3
namespace Go.Proofs.YtomgifkpnfgimaaC
open Go.Proofs Go.Proofs.YtomgifkpnfgimaaSx Go.RowKit
set_option maxRecDepth 100000
set_option linter.unusedVariables false
theorem rRecord_sub (l : List Int) (hb : Byteish l) (hl : l.length ≤ 1048576) : Does cE 14 [(0, .ro 5 l false)] 1 [.o 0] (.t [.o 1, .v (it 0)]) [(1, .own 5 (recL l))] 2 :=
  Does.sub (rRecord_spec l hb hl) (by simp) (fun k x hk => by
    rw [look_cons] at hk
    split at hk
    · rename_i hk1
      cases hk
      subst hk1
      rfl
    · simp [Go.Proofs.YtomgifkpnfgimaaSx.look] at hk)
theorem recbig (l : List Int) (hl : ¬ l.length ≤ 1048576) : Does cE 13 [(0, .ro 5 l false)] 1 [.o 0] (.v (.tuple #[.slice none 0 0, .int .i64 6])) [] 1 :=
  Does.nil (T' := [(0, .ro 5 l false)]) (recbig_1 l (by simp; omega)) rfl
theorem rrecbig (l : List Int) (hl : ¬ l.length ≤ 1048576) : Does cE 14 [(0, .ro 5 l false)] 1 [.o 0] (.v (.tuple #[.slice none 0 0, .int .i64 6])) [] 1 :=
  Does.nil (T' := [(0, .ro 5 l false)]) (refrec_1 l (by simp; omega)) rfl
abbrev lentL (l : List Int) : List Int := List.take (((l.length : Int)).toNat - Int.toNat 0) (List.drop (Int.toNat 0) ([] ++ l ++ [55, 56]))
theorem lent_in (l : List Int) : lentL l = l := by simp [lentL]
theorem writes_does (n : Int) (h0 : -9223372036854775808 ≤ n) (h1 : n ≤ 9223372036854775807) (s : ByteArray) (l : List Int) (hb : Byteish l) (hl : l.length ≤ 140737488351232) :
    Does cE 3 [(0, .ro 5 l false)] 1 [.v (it n), .v (st s), .o 0] (.v (.bool true)) [(0, .ro 5 l false)] 1 := by
  have r0 : Room (([] : List Int).length + l.length) 1 := by unfold Room maxLen; simp; omega
  have r1 : Room (([] ++ l).length + [(55 : Int), 56].length) 1 := by unfold Room maxLen; simp; omega
  have c2 : (0 : Int) ≤ 0 ∧ (0 : Int) ≤ (l.length : Int) ∧ (l.length : Int) ≤ ↑([] ++ l ++ [55, 56]).length := ⟨by omega, by omega, by simp; omega⟩
  have c8 : Int.toNat 0 + (((l.length : Int)).toNat - Int.toNat 0) ≤ ([] ++ l ++ [(55 : Int), 56]).length := by simp
  have n1 := Number_spec n h0 h1
  have n2 := rNumber_spec n h0 h1
  have s1 := Sum_spec (lentL l) (by rw [lent_in]; omega)
  have s3 : (sumL (lentL l) 0 == sumL l 0) = true := by rw [lent_in]; exact beq_self_eq_true _
  have s2 := rSum_spec l hb (by omega)
  have w2 : IntKind.i64.wrap ((l.length : Int) + 2) = (l.length : Int) + 2 := wrap64 (by omega) (by omega)
  have w1 : IntKind.i64.wrap ((l.length : Int) + 1) = (l.length : Int) + 1 := wrap64 (by omega) (by omega)
  have c20 : (0 : Int) ≤ 0 ∧ (0 : Int) ≤ IntKind.i64.wrap ((l.length : Int) + 2) ∧ ↑(Int.toNat 0) + IntKind.i64.wrap ((l.length : Int) + 2) ≤ ↑([] ++ l ++ [(55 : Int), 56]).length := by rw [w2]; exact ⟨by omega, by omega, by simp⟩
  have c21 : (0 : Int) ≤ 0 ∧ (0 : Int) ≤ (l.length : Int) ∧ ↑(Int.toNat 0 + Int.toNat 0) + (l.length : Int) ≤ ↑([] ++ l ++ [(55 : Int), 56]).length := ⟨by omega, by omega, by simp; omega⟩
  have c22 : Int.toNat 0 + Int.toNat 0 + Int.toNat 0 + (((l.length : Int)).toNat - Int.toNat 0) ≤ ([] ++ l ++ [(55 : Int), 56]).length := by simp
  have c23 : ((bytesOf (List.take (((l.length : Int)).toNat - Int.toNat 0) (List.drop (Int.toNat 0 + Int.toNat 0 + Int.toNat 0) ([] ++ l ++ [55, 56])))).toList == (bytesOf l).toList) = true := by
    have e : List.take (((l.length : Int)).toNat - Int.toNat 0) (List.drop (Int.toNat 0 + Int.toNat 0 + Int.toNat 0) ([] ++ l ++ [55, 56])) = l := by simp
    rw [e]
    exact beq_self_eq_true _
  have c24 : (0 : Int) ≤ (l.length : Int) ∧ (l.length : Int) < ↑((IntKind.i64.wrap ((l.length : Int) + 2)).toNat - Int.toNat 0) := by rw [w2]; exact ⟨by omega, by simp; omega⟩
  have c25 : (Int.toNat 0 + Int.toNat 0 + ((l.length : Int)).toNat).succ.le ([] ++ l ++ [(55 : Int), 56]).length := by
    have h : Int.toNat 0 + Int.toNat 0 + ((l.length : Int)).toNat < ([] ++ l ++ [(55 : Int), 56]).length := by simp
    exact h
  have c26 : (([] ++ l ++ [(55 : Int), 56]).getD (Int.toNat 0 + Int.toNat 0 + ((l.length : Int)).toNat) 0 == 55) = true := by simp [List.getD]
  have c27 : (0 : Int) ≤ IntKind.i64.wrap ((l.length : Int) + 1) ∧ IntKind.i64.wrap ((l.length : Int) + 1) < ↑((IntKind.i64.wrap ((l.length : Int) + 2)).toNat - Int.toNat 0) := by rw [w1, w2]; exact ⟨by omega, by simp; omega⟩
  have e1 : ((l.length : Int) + 1).toNat = l.length + 1 := by omega
  have c28 : (Int.toNat 0 + Int.toNat 0 + (IntKind.i64.wrap ((l.length : Int) + 1)).toNat).succ.le ([] ++ l ++ [(55 : Int), 56]).length := by 
    rw [w1, e1]
    have h : Int.toNat 0 + Int.toNat 0 + (l.length + 1) < ([] ++ l ++ [(55 : Int), 56]).length := by simp
    exact h
  have c29 : (([] ++ l ++ [(55 : Int), 56]).getD (Int.toNat 0 + Int.toNat 0 + (IntKind.i64.wrap ((l.length : Int) + 1)).toNat) 0 == 56) = true := by rw [w1, e1]; simp [List.getD]
  have k1 := knows_spec
  have slen : (strL s).length = s.size := by simp [strL]
  by_cases hs : s.size ≤ 1048576
  · have t0 : decide ((s.size : Int) > 1048576) = false := by simp; omega
    have t1 := Number_spec s.size (by omega) (by omega)
    have t2 := rNumber_spec s.size (by omega) (by omega)
    have tl := enc_len s.size
    have t3 : Room ((encN s.size).length + (strL s).length) 1 := room_small (by omega)
    by_cases hr : l.length ≤ 1048576
    · have p1 := Record_spec (lentL l) (by rw [lent_in]; exact hr)
      have p3 : ((bytesOf (recL (lentL l))).toList == (bytesOf (recL l)).toList) = true := by rw [lent_in]; exact beq_self_eq_true _
      have p2 := rRecord_sub l hb hr
      exact wr0_1 n s l _ _ 0 _ 0 _ _ _ _ _ true r0 r1 c2 t0 t1 t3 t2 t3 c8 p1 p2 n1 n2 (beq_self_eq_true _) (beq_self_eq_true _) p3 (by rfl) s1 s2 s3 c20 c21 c22 c23 c24 c25 c26 c27 c28 c29 k1
    · have p1 := recbig (lentL l) (by rw [lent_in]; exact hr)
      have p2 := rrecbig l hr
      exact wr2_1 n s l _ _ 6 6 _ _ _ _ true r0 r1 c2 t0 t1 t3 t2 t3 c8 p1 p2 n1 n2 (beq_self_eq_true _) (beq_self_eq_true _) (by rfl) s1 s2 s3 c20 c21 c22 c23 c24 c25 c26 c27 c28 c29 k1
  · have t0 : decide ((s.size : Int) > 1048576) = true := by simp; omega
    by_cases hr : l.length ≤ 1048576
    · have p1 := Record_spec (lentL l) (by rw [lent_in]; exact hr)
      have p3 : ((bytesOf (recL (lentL l))).toList == (bytesOf (recL l)).toList) = true := by rw [lent_in]; exact beq_self_eq_true _
      have p2 := rRecord_sub l hb hr
      exact wr1_1 n s l 0 _ 0 _ _ _ _ _ true r0 r1 c2 t0 c8 p1 p2 n1 n2 (beq_self_eq_true _) p3 (by rfl) s1 s2 s3 c20 c21 c22 c23 c24 c25 c26 c27 c28 c29 k1
    · have p1 := recbig (lentL l) (by rw [lent_in]; exact hr)
      have p2 := rrecbig l hr
      exact wr3_1 n s l 6 6 _ _ _ _ true r0 r1 c2 t0 c8 p1 p2 n1 n2 (beq_self_eq_true _) (by rfl) s1 s2 s3 c20 c21 c22 c23 c24 c25 c26 c27 c28 c29 k1
theorem writes_true (a0 : Int) (a1 : ByteArray) (a2 : Option Addr) (len2 cap2 : Nat) (z2 : List Int) (W : World) (w0 : (Lit.int .i64 a0).wf = true) (w1 : a1.size ≤ 140737488351232) (w2 : IsRow .u8 W a2 len2 cap2 z2) (y2 : len2 * 1 ≤ 140737488351232) :
    Calls Try.prog 3 #[.int .i64 a0, .string a1, .slice a2 len2 cap2] W fun e w' => e = .returned (.bool true) ∧ Below W.heap.size W w' := by
  have hw : -9223372036854775808 ≤ a0 ∧ a0 ≤ 9223372036854775807 := by simpa [Lit.wf, IntKind.min, IntKind.max, IntKind.signed, IntKind.bits] using w0
  obtain ⟨l2, b2⟩ := row_bytes w2
  have h := writes_does a0 hw.1 hw.2 a1 (z2.take len2) b2 (by omega)
  refine law_rows [.val (.int .i64 a0), .val (.string a1), .row a2 len2 cap2 z2] (enters (fn := Try.f3) rfl (by kernel_rfl) rfl) h W ?_
  intro a len cap z hz
  simp only [List.mem_cons, ArgD.row.injEq, List.not_mem_nil, or_false, reduceCtorEq, false_or] at hz
  obtain ⟨rfl, rfl, rfl, rfl⟩ := hz
  exact w2
end Go.Proofs.YtomgifkpnfgimaaC
