/- The laws over texts, in plain terms: what is printed and read. -/
import Derived.Test.YtcneenlcbjicnaaDoorTF
import Derived.Test.YtcneenlcbjicnaaDoorLA
import Derived.Test.YtcneenlcbjicnaaDoorPT4
namespace Go.Proofs.YtcneenlcbjicnaaDoorC
open Go.Proofs Go.Proofs.YtcneenlcbjicnaaDoorSx Go.RowKit Go.Sort Go.Lib
set_option maxRecDepth 100000
set_option linter.unusedVariables false
set_option linter.unusedSimpArgs false
theorem same_list (l : List UInt8) : ((oL l).toList == (oL l).toList) = true := by simp
theorem texts_law {u sc : Int} (hu : I64 u) (s : List UInt8) (hs : s.length ≤ 9223372036854775807) : Does cE 10 [] 0 [.v (dc u sc), .v (st (oL s))] (.v (.bool true)) [] 0 :=
  lTx_1 (u := u) (sc := sc) (bs := oL s) (h0 := parse_does s hs) (h1 := rparse_does s hs) (h2 := own_does u sc) (h3 := print_does u sc hu) (h4 := rprint_does u sc hu) (h5 := same_list _)
    (h6 := agree_does (parseL s).1 (parseL s).2.1 (parseL s).2.2) (h7 := rfl) (h8 := knows_does)
theorem parse_range (s : List UInt8) : I64 (parseL s).1 := by
  unfold parseL parseB
  split
  · decide
  · split
    · decide
    · split
      · split
        · simp only [I64]
          omega
        · decide
      · split
        · simp only [I64]
          omega
        · decide
theorem print_len (u sc : Int) (hu : I64 u) : (printL u sc).length ≤ 9223372036854775807 := by
  unfold printL
  split
  · rename_i h
    have hn : u.natAbs < 18446744073709551616 := by have := ab_spec u; unfold ab at this; omega
    have hd := nd_le hn
    have hl := pad_len u sc
    have hdl : (dotL (padL u sc) sc).length ≤ 1000 := by
      unfold dotL
      split
      · omega
      · rw [List.length_append, List.length_cons, List.length_take, List.length_drop]
        omega
    split
    · simp; omega
    · omega
  · simp
theorem back_law {u sc : Int} (hu : I64 u) (s : List UInt8) (hs : s.length ≤ 9223372036854775807) : Does cE 11 [] 0 [.v (dc u sc), .v (st (oL s))] (.v (.bool true)) [] 0 := by
  have q0 := own_does u sc
  have q1 := print_does u sc hu
  have q2 := parse_does (printL u sc) (print_len u sc hu)
  have q3 := parse_does s hs
  have q4 := rright_does u sc
  have hr := parse_range s
  have qp := print_does (parseL s).1 (parseL s).2.1 hr
  by_cases h6 : sc6 sc
  · have e6 : decide (sc6 sc) = true := by simpa using h6
    rw [e6] at q4
    rw [parse_print u sc h6.1 h6.2 hu.1 (by have := hu.2; omega)] at q2
    have z1 : ((0 : Int) != 0) = false := rfl
    have z2 : (!(u == u && (sc == sc && true))) = false := by simp
    by_cases he : (parseL s).2.2 = 0
    · have hp := print_parse s (parseL s).1 (parseL s).2.1 (parseL s).2.2 rfl he
      rw [hp] at qp
      exact lBk_4 (u := u) (sc := sc) (bs := oL s) (h0 := q0) (h1 := q1) (h2 := q2) (h3 := q3) (h4 := q4) (h5 := rfl) (h6 := num_does 0) (h7 := z1) (h8 := q0) (h9 := z2) (h10 := num_does _) (h11 := by simp [he]) (h12 := qp) (h13 := same_list _) (h14 := knows_does)
    · exact lBk_3 (u := u) (sc := sc) (bs := oL s) (h0 := q0) (h1 := q1) (h2 := q2) (h3 := q3) (h4 := q4) (h5 := rfl) (h6 := num_does 0) (h7 := z1) (h8 := q0) (h9 := z2) (h10 := num_does _) (h11 := by simpa using he) (h12 := knows_does)
  · have e6 : decide (sc6 sc) = false := by simpa using h6
    rw [e6] at q4
    by_cases he : (parseL s).2.2 = 0
    · have hp := print_parse s (parseL s).1 (parseL s).2.1 (parseL s).2.2 rfl he
      rw [hp] at qp
      exact lBk_7 (u := u) (sc := sc) (bs := oL s) (h0 := q0) (h1 := q1) (h2 := q2) (h3 := q3) (h4 := q4) (h5 := rfl) (h6 := num_does _) (h7 := by simp [he]) (h8 := qp) (h9 := same_list _) (h10 := knows_does)
    · exact lBk_6 (u := u) (sc := sc) (bs := oL s) (h0 := q0) (h1 := q1) (h2 := q2) (h3 := q3) (h4 := q4) (h5 := rfl) (h6 := num_does _) (h7 := by simpa using he) (h8 := knows_does)
theorem bytes_len {s : ByteArray} (h : s.size ≤ 140737488351232) : s.data.toList.length ≤ 9223372036854775807 := by
  have : s.data.toList.length = s.size := Array.length_toList
  omega
theorem texts_true (u x : Int) (s : ByteArray) (hu : (Lit.int .i64 u).wf = true) (hx : (Lit.int .i64 x).wf = true) (hs : s.size ≤ 140737488351232) (w : World) (hg : GlobIn cE w) : Calls Tryd.prog 10 #[dc u x, st s] w fun e w' => e = .returned (.bool true) ∧ Below w.heap.size w w' := by
  have h := texts_law (sc := x) (i64_of hu) s.data.toList (bytes_len hs)
  rw [← oL_of] at h
  exact law_calls (E := cE) (l := [dc u x, st s]) (enters (fn := Tryd.f10) rfl (by kernel_rfl) rfl) h w hg
theorem back_true (u x : Int) (s : ByteArray) (hu : (Lit.int .i64 u).wf = true) (hx : (Lit.int .i64 x).wf = true) (hs : s.size ≤ 140737488351232) (w : World) (hg : GlobIn cE w) : Calls Tryd.prog 11 #[dc u x, st s] w fun e w' => e = .returned (.bool true) ∧ Below w.heap.size w w' := by
  have h := back_law (sc := x) (i64_of hu) s.data.toList (bytes_len hs)
  rw [← oL_of] at h
  exact law_calls (E := cE) (l := [dc u x, st s]) (enters (fn := Tryd.f11) rfl (by kernel_rfl) rfl) h w hg
end Go.Proofs.YtcneenlcbjicnaaDoorC
