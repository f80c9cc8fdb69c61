/- The laws on rounding and signs, in plain terms. -/
import Derived.Test.YtcneenlcbjicnaaDoorSJ
import Derived.Test.YtcneenlcbjicnaaDoorPE3
namespace Go.Proofs.YtcneenlcbjicnaaDoorC
open Go.Proofs Go.Proofs.YtcneenlcbjicnaaDoorSx Go.RowKit
set_option maxRecDepth 100000
set_option linter.unusedVariables false
theorem fitZ_ok {z sc : Int} (h : I64 z) : fitZ z sc = (z, sc, 0) := by unfold fitZ; rw [if_pos h]
theorem fitZ_bad {z sc : Int} (h : ¬ I64 z) : fitZ z sc = (0, 0, 32) := by unfold fitZ; rw [if_neg h]
theorem p10_even {z : Int} (h : 1 ≤ z) : p10 z % 2 = 0 := by
  unfold p10
  obtain ⟨n, hn⟩ : ∃ n, z.toNat = n + 1 := ⟨z.toNat - 1, by omega⟩
  rw [hn, Int.pow_succ]
  omega
theorem tmod2 {q : Int} (h : q % 2 = 0) : (q.tmod 2 == 0) = true := by
  have : (2 : Int) ∣ q := Int.dvd_of_emod_eq_zero h
  rw [Int.tmod_eq_zero_of_dvd this]
  rfl
theorem near_law {u x sc : Int} (hu : I64 u) (hx : I64 x) (hs : I64 sc) : Does cE 3 [] 0 [.v (dc u x), .v (it sc)] (.v (.bool true)) [] 0 := by
  have hr := presc_does hu hx hs
  by_cases hok : sc6 x ∧ sc6 sc
  · rw [rescZ hu hok.1 hok.2] at hr
    by_cases hge : sc ≥ x
    · rw [if_pos hge] at hr
      by_cases hf : I64 (u * p10 (sc - x))
      · rw [fitZ_ok hf] at hr
        exact lnear_2 (h0 := own_does u x) (h1 := hr) (h2 := num_does 0) (h3 := rfl) (h4 := by simpa using hge) (h5 := knows_does)
      · rw [fitZ_bad hf] at hr
        exact lnear_1 (h0 := own_does u x) (h1 := hr) (h2 := num_does 32) (h3 := rfl) (h4 := knows_does)
    · rw [if_neg hge] at hr
      have hp := p10_le (z := x - sc) (by omega)
      have he := p10_even (z := x - sc) (by omega)
      have hn := rz_near (u := u) (p := p10 (x - sc)) (by omega)
      have hpw := pw_does (z := x - sc) (by omega) (by omega)
      have w : IntKind.i64.wrap (x - sc) = x - sc := wrap64 (by omega) (by omega)
      rw [← w] at hpw
      rw [w] at hpw
      generalize hp0 : p10 (x - sc) = p at *
      generalize hq0 : rz u p = q at *
      by_cases hf : I64 q
      · rw [fitZ_ok hf] at hr
        have hb := presc_does (u := q) (x := sc) (sc := x) hf hs hx
        rw [rescZ hf hok.2 hok.1, if_pos (by omega), hp0] at hb
        by_cases hg : I64 (q * p)
        · rw [fitZ_ok hg] at hb
          have hsub := psub_does (u := u) (x := x) (v := q * p) (y := x) hu hx hg hx
          have em : mx x x = x := by unfold mx; split <;> rfl
          rw [sumZ hu hg hok.1 hok.1, em, show x - x = 0 by omega, p10_zero, if_pos rfl, Int.mul_one, Int.mul_one] at hsub
          generalize hz : q * p = z at *
          have ea : u + -z = u - z := by omega
          rw [ea, fitZ_ok (by omega)] at hsub
          have t2 : p.tdiv 2 = p / 2 := Int.tdiv_eq_ediv_of_nonneg (by omega)
          have w2 : IntKind.i64.wrap (p.tdiv 2) = p / 2 := by rw [t2, wrap64 (by omega) (by omega)]
          have w3 : IntKind.i64.wrap (0 - IntKind.i64.wrap (p.tdiv 2)) = -(p / 2) := by rw [w2, wrap64 (by omega) (by omega)]; omega
          have c1 : decide (u - z > IntKind.i64.wrap (p.tdiv 2)) = false := by rw [w2]; exact decide_eq_false (by omega)
          have c2 : decide (u - z < IntKind.i64.wrap (0 - IntKind.i64.wrap (p.tdiv 2))) = false := by rw [w3]; exact decide_eq_false (by omega)
          by_cases d1 : u - z = p / 2
          · exact lnear_10 (h0 := own_does u x) (h1 := hr) (h2 := num_does 0) (h3 := rfl) (h4 := by simpa using hge) (h5 := by rw [w]; exact hpw) (h6 := hb) (h7 := num_does 0) (h8 := rfl) (h9 := own_does u x) (h10 := hsub) (h11 := num_does 0) (h12 := rfl) (h13 := c1) (h14 := c2)
              (h15 := by rw [w2]; exact bne_eq_false_iff_eq.2 d1) (h16 := tmod2 (hn.2.2 (by omega))) (h17 := knows_does)
          · by_cases d2 : u - z = -(p / 2)
            · exact lnear_8 (h0 := own_does u x) (h1 := hr) (h2 := num_does 0) (h3 := rfl) (h4 := by simpa using hge) (h5 := by rw [w]; exact hpw) (h6 := hb) (h7 := num_does 0) (h8 := rfl) (h9 := own_does u x) (h10 := hsub) (h11 := num_does 0) (h12 := rfl) (h13 := c1) (h14 := c2)
                (h15 := by rw [w2]; exact bne_iff_ne.2 d1) (h16 := by rw [w3]; exact bne_eq_false_iff_eq.2 d2) (h17 := tmod2 (hn.2.2 (by omega))) (h18 := knows_does)
            · exact lnear_7 (h0 := own_does u x) (h1 := hr) (h2 := num_does 0) (h3 := rfl) (h4 := by simpa using hge) (h5 := by rw [w]; exact hpw) (h6 := hb) (h7 := num_does 0) (h8 := rfl) (h9 := own_does u x) (h10 := hsub) (h11 := num_does 0) (h12 := rfl) (h13 := c1) (h14 := c2)
                (h15 := by rw [w2]; exact bne_iff_ne.2 d1) (h16 := by rw [w3]; exact bne_iff_ne.2 d2) (h17 := knows_does)
        · rw [fitZ_bad hg] at hb
          exact lnear_3 (h0 := own_does u x) (h1 := hr) (h2 := num_does 0) (h3 := rfl) (h4 := by simpa using hge) (h5 := by rw [w]; exact hpw) (h6 := hb) (h7 := num_does 32) (h8 := rfl) (h9 := knows_does)
      · rw [fitZ_bad hf] at hr
        exact lnear_1 (h0 := own_does u x) (h1 := hr) (h2 := num_does 32) (h3 := rfl) (h4 := knows_does)
  · unfold rescM at hr
    rw [if_neg hok] at hr
    exact lnear_1 (h0 := own_does u x) (h1 := hr) (h2 := num_does 1) (h3 := rfl) (h4 := knows_does)
theorem cmpI_neg (a b : Int) : cmpI (-a) (-b) = cmpI b a := by
  unfold cmpI
  by_cases h1 : b < a
  · rw [if_pos (by omega), if_pos h1]
  · by_cases h2 : b > a
    · rw [if_neg (by omega), if_pos (by omega), if_neg h1, if_pos h2]
    · rw [if_neg (by omega), if_neg (by omega), if_neg h1, if_neg h2]
theorem neg_res {u x : Int} (hu : I64 u) : sumM 0 x u x true = if sc6 x ∧ I64 (-u) then (-u, x, 0) else if sc6 x then (0, 0, 32) else (0, 0, 1) := by
  by_cases hx : sc6 x
  · rw [negZ hu hx]
    by_cases hf : I64 (-u)
    · rw [fitZ_ok hf, if_pos ⟨hx, hf⟩]
    · rw [fitZ_bad hf, if_neg (fun h => hf h.2), if_pos hx]
  · rw [sum_bad (fun h => hx h.1), if_neg (fun h => hx h.1), if_neg hx]
theorem signs_law {u x v y : Int} (hu : I64 u) (hx : I64 x) (hv : I64 v) (hy : I64 y) : Does cE 6 [] 0 [.v (dc u x), .v (dc v y)] (.v (.bool true)) [] 0 := by
  have n1 := pneg_does hu hx
  have n2 := pneg_does hv hy
  rw [neg_res hu] at n1
  rw [neg_res hv] at n2
  by_cases c1 : sc6 x ∧ I64 (-u)
  · rw [if_pos c1] at n1
    by_cases c2 : sc6 y ∧ I64 (-v)
    · rw [if_pos c2] at n2
      have n3 := pneg_does (u := -u) (x := x) c1.2 hx
      have e3 : sumM 0 x (-u) x true = (u, x, 0) := by rw [negZ c1.2 c1.1, Int.neg_neg, fitZ_ok hu]
      rw [e3] at n3
      have k1 := pcmp_does (u := -u) (x := x) (v := -v) (y := y) c1.2 hx c2.2 hy
      have k2 := pcmp_does (u := v) (x := y) (v := u) (y := x) hv hy hu hx
      have e : cmpM (-u) x (-v) y = cmpM v y u x := by
        rw [cmpZ c1.2 c2.2 c1.1 c2.1, cmpZ hv hu c2.1 c1.1, Int.neg_mul, Int.neg_mul, cmpI_neg]
      rw [e] at k1
      exact lsig_3 (h0 := own_does u x) (h1 := n1) (h2 := own_does v y) (h3 := n2) (h4 := num_does 0) (h5 := rfl) (h6 := num_does 0) (h7 := rfl) (h8 := n3) (h9 := num_does 0) (h10 := rfl) (h11 := own_does u x) (h12 := by simp) (h13 := k1) (h14 := own_does v y) (h15 := own_does u x) (h16 := k2) (h17 := by simp) (h18 := knows_does)
    · rw [if_neg c2] at n2
      by_cases c3 : sc6 y
      · rw [if_pos c3] at n2
        exact lsig_2 (h0 := own_does u x) (h1 := n1) (h2 := own_does v y) (h3 := n2) (h4 := num_does 0) (h5 := rfl) (h6 := num_does 32) (h7 := rfl) (h8 := knows_does)
      · rw [if_neg c3] at n2
        exact lsig_2 (h0 := own_does u x) (h1 := n1) (h2 := own_does v y) (h3 := n2) (h4 := num_does 0) (h5 := rfl) (h6 := num_does 1) (h7 := rfl) (h8 := knows_does)
  · rw [if_neg c1] at n1
    by_cases c3 : sc6 x
    · rw [if_pos c3] at n1
      exact lsig_1 (h0 := own_does u x) (h1 := n1) (h2 := own_does v y) (h3 := n2) (h4 := num_does 32) (h5 := rfl) (h6 := knows_does)
    · rw [if_neg c3] at n1
      exact lsig_1 (h0 := own_does u x) (h1 := n1) (h2 := own_does v y) (h3 := n2) (h4 := num_does 1) (h5 := rfl) (h6 := knows_does)
theorem near_true (u x sc : Int) (hu : (Lit.int .i64 u).wf = true) (hx : (Lit.int .i64 x).wf = true) (hs : (Lit.int .i64 sc).wf = true) (w : World) (hg : GlobIn cE w) : Calls Tryd.prog 3 #[dc u x, it sc] w fun e w' => e = .returned (.bool true) ∧ Below w.heap.size w w' :=
  law_calls (E := cE) (l := [dc u x, it sc]) (enters (fn := Tryd.f3) rfl (by kernel_rfl) rfl) (near_law (i64_of hu) (i64_of hx) (i64_of hs)) w hg
theorem signs_true (u x v y : Int) (hu : (Lit.int .i64 u).wf = true) (hx : (Lit.int .i64 x).wf = true) (hv : (Lit.int .i64 v).wf = true) (hy : (Lit.int .i64 y).wf = true) (w : World) (hg : GlobIn cE w) : Calls Tryd.prog 6 #[dc u x, dc v y] w fun e w' => e = .returned (.bool true) ∧ Below w.heap.size w w' :=
  law_calls (E := cE) (l := [dc u x, dc v y]) (enters (fn := Tryd.f6) rfl (by kernel_rfl) rfl) (signs_law (i64_of hu) (i64_of hx) (i64_of hv) (i64_of hy)) w hg
end Go.Proofs.YtcneenlcbjicnaaDoorC
