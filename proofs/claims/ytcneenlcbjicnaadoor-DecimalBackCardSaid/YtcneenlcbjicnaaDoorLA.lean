/- The laws over sums, products and whole numbers, in plain terms: program and reference come to the same. -/
import Derived.Test.YtcneenlcbjicnaaDoorSI
import Derived.Test.YtcneenlcbjicnaaDoorTB
namespace Go.Proofs.YtcneenlcbjicnaaDoorC
open Go.Proofs Go.Proofs.YtcneenlcbjicnaaDoorSx Go.RowKit
set_option maxRecDepth 100000
set_option linter.unusedVariables false
theorem own_does (u x : Int) : Does cE 13 [] 0 [.v (dc u x)] (.v (dc u x)) [] 0 := own_1 u x
theorem num_does (n : Int) : Does cE 14 [] 0 [.v (it n)] (.v (it n)) [] 0 := num_1 n
theorem agree_does (u x n : Int) : Does cE 23 [] 0 [.v (dc u x), .v (it n), .v (dc u x), .v (it n)] (.v (.bool true)) [] 0 := by
  have h := agr_1 u x n u x n (by simp) (by simp)
  have e : (n == n) = true := by simp
  rw [e] at h
  exact h
theorem print33 : Does cE 39 [] 0 [.v (dc 33 2)] (.v (st (ByteArray.mk #[48, 46, 51, 51]))) [] 0 := by
  have h := print_does 33 2 (by decide)
  have e : printL 33 2 = [48, 46, 51, 51] := by
    have : Lib.decDigits (33 : Int).natAbs = [51, 51] := by
      show Lib.decDigits 33 = _
      rw [dec_big (by decide), dec_small (by decide)]
      rfl
    simp only [printL, padL, this]
    rfl
  rw [e] at h
  exact h
theorem print2 : Does cE 39 [] 0 [.v (dc 2 0)] (.v (st (ByteArray.mk #[50]))) [] 0 := by
  have h := print_does 2 0 (by decide)
  have e : printL 2 0 = [50] := by
    have : Lib.decDigits (2 : Int).natAbs = [50] := by
      show Lib.decDigits 2 = _
      rw [dec_small (by decide)]
      rfl
    simp only [printL, padL, this]
    rfl
  rw [e] at h
  exact h
theorem knows_does : Does cE 15 [] 0 [] (.v (.bool true)) [] 0 := by
  have h0 := pdiv_does (u := 1) (x := 0) (v := 3) (y := 0) (sc := 2) (by decide) (by decide) (by decide) (by decide) (by decide)
  have h1 := presc_does (u := 25) (x := 1) (sc := 0) (by decide) (by decide) (by decide)
  have e0 : divM 1 0 3 0 2 = (33, 2, 0) := by decide
  have e1 : rescM 25 1 0 = (2, 0, 0) := by decide
  rw [e0] at h0
  rw [e1] at h1
  have h := kn_1 (h0 := h0) (h1 := h1) (h2 := num_does 0) (h3 := num_does 0) (h4 := by decide) (h5 := print33) (h6 := by kernel_rfl) (h7 := print2)
  have e : ((ByteArray.mk #[50]).toList == (ByteArray.mk #[50]).toList) = true := by kernel_rfl
  rw [e] at h
  exact h
theorem sums_law {u x v y : Int} (hu : I64 u) (hx : I64 x) (hv : I64 v) (hy : I64 y) : Does cE 7 [] 0 [.v (dc u x), .v (dc v y)] (.v (.bool true)) [] 0 :=
  lsums_1 (h0 := own_does u x) (h1 := own_does v y) (h2 := padd_does hu hx hv hy) (h3 := radd_does hu hx hv hy) (h4 := own_does u x) (h5 := own_does v y) (h6 := psub_does hu hx hv hy) (h7 := rsub_does hu hx hv hy) (h8 := own_does u x) (h9 := pneg_does hu hx) (h10 := rneg_does hu hx)
    (h11 := agree_does _ _ _) (h12 := rfl) (h13 := agree_does _ _ _) (h14 := rfl) (h15 := agree_does _ _ _) (h16 := rfl) (h17 := own_does u x) (h18 := own_does v y) (h19 := pcmp_does hu hx hv hy) (h20 := rcmp_does hu hx hv hy) (h21 := by simp) (h22 := own_does u x) (h23 := pright_does u x) (h24 := rright_does u x) (h25 := by simp) (h26 := knows_does)
theorem times_law {u x v y sc : Int} (hu : I64 u) (hx : I64 x) (hv : I64 v) (hy : I64 y) (hs : I64 sc) : Does cE 4 [] 0 [.v (dc u x), .v (dc v y), .v (it sc)] (.v (.bool true)) [] 0 :=
  ltimes_1 (h0 := own_does u x) (h1 := own_does v y) (h2 := pmul_does hu hx hv hy) (h3 := rmul_does hu hx hv hy) (h4 := own_does u x) (h5 := own_does v y) (h6 := pdiv_does hu hx hv hy hs) (h7 := rdiv_does hu hx hv hy hs) (h8 := own_does u x) (h9 := presc_does hu hx hs) (h10 := rresc_does hu hx hs)
    (h11 := agree_does _ _ _) (h12 := rfl) (h13 := agree_does _ _ _) (h14 := rfl) (h15 := agree_does _ _ _) (h16 := rfl) (h17 := knows_does)
theorem ints_law {u v : Int} (hu : I64 u) (hv : I64 v) : Does cE 8 [] 0 [.v (it u), .v (it v)] (.v (.bool true)) [] 0 :=
  lints_1 (h0 := paddi_does hu hv) (h1 := raddi_does hu hv) (h2 := pmuli_does hu hv) (h3 := rmuli_does hu hv) (h4 := by simp) (h5 := num_does _) (h6 := by simp) (h7 := by simp) (h8 := num_does _) (h9 := by simp) (h10 := knows_does)
theorem i64_of {n : Int} (h : (Lit.int .i64 n).wf = true) : I64 n := by simpa [Lit.wf, IntKind.min, IntKind.max, IntKind.signed, IntKind.bits] using h
theorem sums_true (u x v y : Int) (hu : (Lit.int .i64 u).wf = true) (hx : (Lit.int .i64 x).wf = true) (hv : (Lit.int .i64 v).wf = true) (hy : (Lit.int .i64 y).wf = true) (w : World) (hg : GlobIn cE w) : Calls Tryd.prog 7 #[dc u x, dc v y] w fun e w' => e = .returned (.bool true) ∧ Below w.heap.size w w' :=
  law_calls (E := cE) (l := [dc u x, dc v y]) (enters (fn := Tryd.f7) rfl (by kernel_rfl) rfl) (sums_law (i64_of hu) (i64_of hx) (i64_of hv) (i64_of hy)) w hg
theorem times_true (u x v y sc : Int) (hu : (Lit.int .i64 u).wf = true) (hx : (Lit.int .i64 x).wf = true) (hv : (Lit.int .i64 v).wf = true) (hy : (Lit.int .i64 y).wf = true) (hs : (Lit.int .i64 sc).wf = true) (w : World) (hg : GlobIn cE w) : Calls Tryd.prog 4 #[dc u x, dc v y, it sc] w fun e w' => e = .returned (.bool true) ∧ Below w.heap.size w w' :=
  law_calls (E := cE) (l := [dc u x, dc v y, it sc]) (enters (fn := Tryd.f4) rfl (by kernel_rfl) rfl) (times_law (i64_of hu) (i64_of hx) (i64_of hv) (i64_of hy) (i64_of hs)) w hg
theorem ints_true (u v : Int) (hu : (Lit.int .i64 u).wf = true) (hv : (Lit.int .i64 v).wf = true) (w : World) (hg : GlobIn cE w) : Calls Tryd.prog 8 #[it u, it v] w fun e w' => e = .returned (.bool true) ∧ Below w.heap.size w w' :=
  law_calls (E := cE) (l := [it u, it v]) (enters (fn := Tryd.f8) rfl (by kernel_rfl) rfl) (ints_law (i64_of hu) (i64_of hv)) w hg
end Go.Proofs.YtcneenlcbjicnaaDoorC
