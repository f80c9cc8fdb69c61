/- CodecFirst, in plain terms: a record is read as it was, whatever stands behind it; cut short it ends too early. -/
import Derived.Test.YtomgifkpnfgimaaSU
import Derived.Test.YtomgifkpnfgimaaRw
import Derived.Test.YtomgifkpnfgimaaPF
import Derived.Test.YtomgifkpnfgimaaPH
namespace Go.Proofs.YtomgifkpnfgimaaC
open Go.Proofs Go.Proofs.YtomgifkpnfgimaaSx Go.RowKit
set_option maxRecDepth 100000
set_option linter.unusedVariables false
theorem tmod_in (a b : Int) (hb : 0 < b) : -b < a.tmod b ∧ a.tmod b < b := by
  refine ⟨?_, Int.tmod_lt_of_pos a hb⟩
  have := Int.tmod_lt_of_pos (-a) hb
  rw [Int.neg_tmod] at this
  omega
theorem rec_len (l : List Int) : (recL l).length = (encN l.length).length + l.length + 8 := by simp [recL, eight_len]; omega
theorem rec_laid (l r : List Int) : laid l (eightL (sumL l 0)) r = [] ++ recL l ++ r := by simp [laid, recL]
theorem keep1 {a b : List Int} {g n : Nat} {v : SV} (h : Does cE g [(0, .ro 5 a false)] 1 [.o 0] v [(0, .ro 5 a false), (1, .own 5 b)] 2) : Does cE g [(0, .ro 5 a false)] 1 [.o 0] v [(1, .own 5 b)] 2 :=
  Does.sub h (by simp) (fun k x hk => by
    rw [look_cons] at hk
    split at hk
    · rename_i hk1
      cases hk
      subst hk1
      rfl
    · simp [Go.Proofs.YtomgifkpnfgimaaSx.look] at hk)
theorem big13 (l : List Int) (hl : ¬ l.length ≤ 1048576) : Does cE 13 [(0, .ro 5 l false)] 1 [.o 0] (.v (.tuple #[.slice none 0 0, .int .i64 6])) [] 1 :=
  Does.nil (T' := [(0, .ro 5 l false)]) (recbig_1 l (by simp; omega)) rfl
theorem first_does (l r : List Int) (cut : Int) (hc : -9223372036854775808 ≤ cut ∧ cut ≤ 9223372036854775807) (hr : r.length ≤ 140737488351232) :
    Does cE 8 [(0, .ro 5 l false), (1, .ro 5 r false)] 2 [.o 0, .o 1, .v (it cut)] (.v (.bool true)) [(0, .ro 5 l false), (1, .ro 5 r false)] 2 := by
  by_cases hl : l.length ≤ 1048576
  · have he := enc_len l.length
    have hlen := rec_len l
    have u1 := keep1 (n := 0) ((unrec_laid l (eightL (sumL l 0)) r hl rfl (by omega)).1 rfl)
    have u1' := ro_to (rec_laid l r) u1
    have hpos : (0 : Int) < ((recL l).length : Int) := by omega
    have t1 := tmod_in cut _ hpos
    have w1 : IntKind.i64.wrap (cut.tmod ((recL l).length : Int) + ((recL l).length : Int)) = cut.tmod ((recL l).length : Int) + ((recL l).length : Int) := wrap64 (by omega) (by omega)
    have w2 : IntKind.i64.wrap ((l.length : Int) + 9) = (l.length : Int) + 9 := wrap64 (by omega) (by omega)
    have h := fi2_1 l r cut 0 (recL l) ((encN l.length).length + l.length + 8 : Nat) 0 l 0 20 true (Record_spec l hl) (by rfl)
    rw [w1, w2] at h
    have t2 := tmod_in (cut.tmod ((recL l).length : Int) + ((recL l).length : Int)) _ hpos
    have t3 : 0 ≤ (cut.tmod ((recL l).length : Int) + ((recL l).length : Int)).tmod ((recL l).length : Int) := Int.tmod_nonneg _ (by omega)
    generalize (cut.tmod ((recL l).length : Int) + ((recL l).length : Int)).tmod ((recL l).length : Int) = x at h t2 t3
    have ecut : (recL l).take x.toNat = List.take (x.toNat - Int.toNat 0) (List.drop (Int.toNat 0) (recL l)) := by simp
    have u2 := ro_to ecut (Does.nil (unrec_cut l hl x.toNat (by omega)) rfl)
    exact h (by simp; omega) (room_small (by simp; omega)) (by unfold Room maxLen; simp; omega) u1' (beq_eq_false_iff_ne.2 (by omega)) ⟨by omega, by omega, by omega⟩ (by simp; omega) u2 (by rfl) (by rw [hlen]; exact beq_self_eq_true _) (beq_self_eq_true _) (by rfl) knows_spec
  · exact fi1_1 l r cut 6 true (big13 l hl) (by rfl) (by simp; omega) knows_spec
theorem first_true (a0 : Option Addr) (len0 cap0 : Nat) (z0 : List Int) (a1 : Option Addr) (len1 cap1 : Nat) (z1 : List Int) (a2 : Int) (W : World) (w0 : IsRow .u8 W a0 len0 cap0 z0) (y0 : len0 * 1 ≤ 140737488351232) (w1 : IsRow .u8 W a1 len1 cap1 z1) (y1 : len1 * 1 ≤ 140737488351232) (w2 : (Lit.int .i64 a2).wf = true) :
    Calls Try.prog 8 #[.slice a0 len0 cap0, .slice a1 len1 cap1, .int .i64 a2] W fun e w' => e = .returned (.bool true) ∧ Below W.heap.size W w' := by
  have hw : -9223372036854775808 ≤ a2 ∧ a2 ≤ 9223372036854775807 := by simpa [Lit.wf, IntKind.min, IntKind.max, IntKind.signed, IntKind.bits] using w2
  obtain ⟨l0, b0⟩ := row_bytes w0
  obtain ⟨l1, b1⟩ := row_bytes w1
  have h := first_does (z0.take len0) (z1.take len1) a2 hw (by omega)
  refine law_rows [.row a0 len0 cap0 z0, .row a1 len1 cap1 z1, .val (.int .i64 a2)] (enters (fn := Try.f8) rfl (by kernel_rfl) rfl) h W ?_
  intro a len cap z hz
  simp only [List.mem_cons, ArgD.row.injEq, List.not_mem_nil, or_false, reduceCtorEq] at hz
  rcases hz with ⟨rfl, rfl, rfl, rfl⟩ | ⟨rfl, rfl, rfl, rfl⟩
  · exact w0
  · exact w1
end Go.Proofs.YtomgifkpnfgimaaC
