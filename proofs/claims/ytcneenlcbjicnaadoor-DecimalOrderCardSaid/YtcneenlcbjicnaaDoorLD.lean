/- The order of decimals: one order, and a greater scale does not change it. -/
import Derived.Test.YtcneenlcbjicnaaDoorLC
import Derived.Test.YtcneenlcbjicnaaDoorPE5
namespace Go.Proofs.YtcneenlcbjicnaaDoorC
open Go.Proofs Go.Proofs.YtcneenlcbjicnaaDoorSx Go.RowKit
set_option maxRecDepth 100000
set_option linter.unusedVariables false
theorem rr {u x : Int} (h : sc6 x) : Does cE 24 [] 0 [.v (dc u x)] (.v (.bool true)) [] 0 := by
  have := rright_does u x
  rwa [decide_eq_true h] at this
theorem rn {u x : Int} (h : ¬ sc6 x) : Does cE 24 [] 0 [.v (dc u x)] (.v (.bool false)) [] 0 := by
  have := rright_does u x
  rwa [decide_eq_false h] at this
theorem cmpI_spec (a b : Int) : (a < b ∧ cmpI a b = -1) ∨ (b < a ∧ cmpI a b = 1) ∨ (a = b ∧ cmpI a b = 0) := by
  unfold cmpI
  by_cases h : a < b
  · exact .inl ⟨h, by rw [if_pos h]⟩
  · by_cases g : a > b
    · exact .inr (.inl ⟨g, by rw [if_neg h, if_pos g]⟩)
    · exact .inr (.inr ⟨by omega, by rw [if_neg h, if_neg g]⟩)
theorem order_core {u x v y w z sc ab bc ac ba du ds re : Int} (hxu : sc6 x) (hxv : sc6 y) (hxw : sc6 z)
    (k1 : Does cE 25 [] 0 [.v (dc u x), .v (dc v y)] (.v (it ab)) [] 0) (k2 : Does cE 25 [] 0 [.v (dc v y), .v (dc w z)] (.v (it bc)) [] 0)
    (k3 : Does cE 25 [] 0 [.v (dc u x), .v (dc w z)] (.v (it ac)) [] 0) (k4 : Does cE 25 [] 0 [.v (dc v y), .v (dc u x)] (.v (it ba)) [] 0)
    (hn : (ba != IntKind.i64.wrap (0 - ab)) = false) (t1 : ¬ (ab ≤ 0 ∧ bc ≤ 0 ∧ ac > 0)) (t2 : ¬ (ab ≥ 0 ∧ bc ≥ 0 ∧ ac < 0)) (t3 : u = v → x = y → ab = 0)
    (hr : Does cE 12 [] 0 [.v (dc u x), .v (it sc)] (.v (.tuple #[dc du ds, it re])) [] 0)
    (k5 : re = 0 → ¬ sc < x → Does cE 25 [] 0 [.v (dc du ds), .v (dc u x)] (.v (it 0)) [] 0)
    (k6 : re = 0 → ¬ sc < x → Does cE 25 [] 0 [.v (dc du ds), .v (dc v y)] (.v (it ab)) [] 0) :
    Does cE 5 [] 0 [.v (dc u x), .v (dc v y), .v (dc w z), .v (it sc)] (.v (.bool true)) [] 0 := by
  by_cases a1 : ab ≤ 0
  · by_cases a2 : ab ≥ 0
    · by_cases b1 : bc ≤ 0
      · by_cases b2 : bc ≥ 0
        · have q := 0
          by_cases he : (u == v && (x == y && true)) = true
          · have h0 : ab = 0 := t3 (eq_of_beq (by simp at he; simp [he.1])) (eq_of_beq (by simp at he; simp [he.2]))
            by_cases hre : re = 0
            · by_cases hs : sc < x
              · exact loK2211 (u := u) (x := x) (v := v) (y := y) (w := w) (z := z) (sc := sc) (h0 := rr hxu) (h1 := rfl) (h2 := rr hxv) (h3 := rfl) (h4 := rr hxw) (h5 := rfl) (h6 := own_does _ _) (h7 := own_does _ _) (h8 := k1) (h9 := own_does _ _) (h10 := own_does _ _) (h11 := k2) (h12 := own_does _ _) (h13 := own_does _ _) (h14 := k3) (h15 := own_does _ _) (h16 := own_does _ _) (h17 := k4) (h18 := hn) (h19 := decide_eq_true (by omega)) (h20 := decide_eq_true (by omega)) (h21 := decide_eq_false (by omega)) (h22 := decide_eq_true (by omega)) (h23 := decide_eq_true (by omega)) (h24 := decide_eq_false (by omega)) (h25 := he) (h26 := bne_eq_false_iff_eq.2 (by omega)) (h27 := own_does _ _) (h28 := hr) (h29 := num_does _) (h30 := bne_eq_false_iff_eq.2 hre) (h31 := decide_eq_true (by omega)) (h32 := knows_does)
              · have k5 := k5 hre hs
                have k6 := k6 hre hs
                exact loK2212 (u := u) (x := x) (v := v) (y := y) (w := w) (z := z) (sc := sc) (h0 := rr hxu) (h1 := rfl) (h2 := rr hxv) (h3 := rfl) (h4 := rr hxw) (h5 := rfl) (h6 := own_does _ _) (h7 := own_does _ _) (h8 := k1) (h9 := own_does _ _) (h10 := own_does _ _) (h11 := k2) (h12 := own_does _ _) (h13 := own_does _ _) (h14 := k3) (h15 := own_does _ _) (h16 := own_does _ _) (h17 := k4) (h18 := hn) (h19 := decide_eq_true (by omega)) (h20 := decide_eq_true (by omega)) (h21 := decide_eq_false (by omega)) (h22 := decide_eq_true (by omega)) (h23 := decide_eq_true (by omega)) (h24 := decide_eq_false (by omega)) (h25 := he) (h26 := bne_eq_false_iff_eq.2 (by omega)) (h27 := own_does _ _) (h28 := hr) (h29 := num_does _) (h30 := bne_eq_false_iff_eq.2 hre) (h31 := decide_eq_false (by omega)) (h32 := own_does _ _) (h33 := k5) (h34 := by simp) (h35 := own_does _ _) (h36 := k6) (h37 := by simp) (h38 := knows_does)
            · exact loK2210 (u := u) (x := x) (v := v) (y := y) (w := w) (z := z) (sc := sc) (h0 := rr hxu) (h1 := rfl) (h2 := rr hxv) (h3 := rfl) (h4 := rr hxw) (h5 := rfl) (h6 := own_does _ _) (h7 := own_does _ _) (h8 := k1) (h9 := own_does _ _) (h10 := own_does _ _) (h11 := k2) (h12 := own_does _ _) (h13 := own_does _ _) (h14 := k3) (h15 := own_does _ _) (h16 := own_does _ _) (h17 := k4) (h18 := hn) (h19 := decide_eq_true (by omega)) (h20 := decide_eq_true (by omega)) (h21 := decide_eq_false (by omega)) (h22 := decide_eq_true (by omega)) (h23 := decide_eq_true (by omega)) (h24 := decide_eq_false (by omega)) (h25 := he) (h26 := bne_eq_false_iff_eq.2 (by omega)) (h27 := own_does _ _) (h28 := hr) (h29 := num_does _) (h30 := bne_iff_ne.2 hre) (h31 := knows_does)
          · rw [Bool.not_eq_true] at he
            by_cases hre : re = 0
            · by_cases hs : sc < x
              · exact loK2201 (u := u) (x := x) (v := v) (y := y) (w := w) (z := z) (sc := sc) (h0 := rr hxu) (h1 := rfl) (h2 := rr hxv) (h3 := rfl) (h4 := rr hxw) (h5 := rfl) (h6 := own_does _ _) (h7 := own_does _ _) (h8 := k1) (h9 := own_does _ _) (h10 := own_does _ _) (h11 := k2) (h12 := own_does _ _) (h13 := own_does _ _) (h14 := k3) (h15 := own_does _ _) (h16 := own_does _ _) (h17 := k4) (h18 := hn) (h19 := decide_eq_true (by omega)) (h20 := decide_eq_true (by omega)) (h21 := decide_eq_false (by omega)) (h22 := decide_eq_true (by omega)) (h23 := decide_eq_true (by omega)) (h24 := decide_eq_false (by omega)) (h25 := he) (h26 := own_does _ _) (h27 := hr) (h28 := num_does _) (h29 := bne_eq_false_iff_eq.2 hre) (h30 := decide_eq_true (by omega)) (h31 := knows_does)
              · have k5 := k5 hre hs
                have k6 := k6 hre hs
                exact loK2202 (u := u) (x := x) (v := v) (y := y) (w := w) (z := z) (sc := sc) (h0 := rr hxu) (h1 := rfl) (h2 := rr hxv) (h3 := rfl) (h4 := rr hxw) (h5 := rfl) (h6 := own_does _ _) (h7 := own_does _ _) (h8 := k1) (h9 := own_does _ _) (h10 := own_does _ _) (h11 := k2) (h12 := own_does _ _) (h13 := own_does _ _) (h14 := k3) (h15 := own_does _ _) (h16 := own_does _ _) (h17 := k4) (h18 := hn) (h19 := decide_eq_true (by omega)) (h20 := decide_eq_true (by omega)) (h21 := decide_eq_false (by omega)) (h22 := decide_eq_true (by omega)) (h23 := decide_eq_true (by omega)) (h24 := decide_eq_false (by omega)) (h25 := he) (h26 := own_does _ _) (h27 := hr) (h28 := num_does _) (h29 := bne_eq_false_iff_eq.2 hre) (h30 := decide_eq_false (by omega)) (h31 := own_does _ _) (h32 := k5) (h33 := by simp) (h34 := own_does _ _) (h35 := k6) (h36 := by simp) (h37 := knows_does)
            · exact loK2200 (u := u) (x := x) (v := v) (y := y) (w := w) (z := z) (sc := sc) (h0 := rr hxu) (h1 := rfl) (h2 := rr hxv) (h3 := rfl) (h4 := rr hxw) (h5 := rfl) (h6 := own_does _ _) (h7 := own_does _ _) (h8 := k1) (h9 := own_does _ _) (h10 := own_does _ _) (h11 := k2) (h12 := own_does _ _) (h13 := own_does _ _) (h14 := k3) (h15 := own_does _ _) (h16 := own_does _ _) (h17 := k4) (h18 := hn) (h19 := decide_eq_true (by omega)) (h20 := decide_eq_true (by omega)) (h21 := decide_eq_false (by omega)) (h22 := decide_eq_true (by omega)) (h23 := decide_eq_true (by omega)) (h24 := decide_eq_false (by omega)) (h25 := he) (h26 := own_does _ _) (h27 := hr) (h28 := num_does _) (h29 := bne_iff_ne.2 hre) (h30 := knows_does)
        · have q := 0
          by_cases he : (u == v && (x == y && true)) = true
          · have h0 : ab = 0 := t3 (eq_of_beq (by simp at he; simp [he.1])) (eq_of_beq (by simp at he; simp [he.2]))
            by_cases hre : re = 0
            · by_cases hs : sc < x
              · exact loK2111 (u := u) (x := x) (v := v) (y := y) (w := w) (z := z) (sc := sc) (h0 := rr hxu) (h1 := rfl) (h2 := rr hxv) (h3 := rfl) (h4 := rr hxw) (h5 := rfl) (h6 := own_does _ _) (h7 := own_does _ _) (h8 := k1) (h9 := own_does _ _) (h10 := own_does _ _) (h11 := k2) (h12 := own_does _ _) (h13 := own_does _ _) (h14 := k3) (h15 := own_does _ _) (h16 := own_does _ _) (h17 := k4) (h18 := hn) (h19 := decide_eq_true (by omega)) (h20 := decide_eq_true (by omega)) (h21 := decide_eq_false (by omega)) (h22 := decide_eq_true (by omega)) (h23 := decide_eq_false (by omega)) (h24 := he) (h25 := bne_eq_false_iff_eq.2 (by omega)) (h26 := own_does _ _) (h27 := hr) (h28 := num_does _) (h29 := bne_eq_false_iff_eq.2 hre) (h30 := decide_eq_true (by omega)) (h31 := knows_does)
              · have k5 := k5 hre hs
                have k6 := k6 hre hs
                exact loK2112 (u := u) (x := x) (v := v) (y := y) (w := w) (z := z) (sc := sc) (h0 := rr hxu) (h1 := rfl) (h2 := rr hxv) (h3 := rfl) (h4 := rr hxw) (h5 := rfl) (h6 := own_does _ _) (h7 := own_does _ _) (h8 := k1) (h9 := own_does _ _) (h10 := own_does _ _) (h11 := k2) (h12 := own_does _ _) (h13 := own_does _ _) (h14 := k3) (h15 := own_does _ _) (h16 := own_does _ _) (h17 := k4) (h18 := hn) (h19 := decide_eq_true (by omega)) (h20 := decide_eq_true (by omega)) (h21 := decide_eq_false (by omega)) (h22 := decide_eq_true (by omega)) (h23 := decide_eq_false (by omega)) (h24 := he) (h25 := bne_eq_false_iff_eq.2 (by omega)) (h26 := own_does _ _) (h27 := hr) (h28 := num_does _) (h29 := bne_eq_false_iff_eq.2 hre) (h30 := decide_eq_false (by omega)) (h31 := own_does _ _) (h32 := k5) (h33 := by simp) (h34 := own_does _ _) (h35 := k6) (h36 := by simp) (h37 := knows_does)
            · exact loK2110 (u := u) (x := x) (v := v) (y := y) (w := w) (z := z) (sc := sc) (h0 := rr hxu) (h1 := rfl) (h2 := rr hxv) (h3 := rfl) (h4 := rr hxw) (h5 := rfl) (h6 := own_does _ _) (h7 := own_does _ _) (h8 := k1) (h9 := own_does _ _) (h10 := own_does _ _) (h11 := k2) (h12 := own_does _ _) (h13 := own_does _ _) (h14 := k3) (h15 := own_does _ _) (h16 := own_does _ _) (h17 := k4) (h18 := hn) (h19 := decide_eq_true (by omega)) (h20 := decide_eq_true (by omega)) (h21 := decide_eq_false (by omega)) (h22 := decide_eq_true (by omega)) (h23 := decide_eq_false (by omega)) (h24 := he) (h25 := bne_eq_false_iff_eq.2 (by omega)) (h26 := own_does _ _) (h27 := hr) (h28 := num_does _) (h29 := bne_iff_ne.2 hre) (h30 := knows_does)
          · rw [Bool.not_eq_true] at he
            by_cases hre : re = 0
            · by_cases hs : sc < x
              · exact loK2101 (u := u) (x := x) (v := v) (y := y) (w := w) (z := z) (sc := sc) (h0 := rr hxu) (h1 := rfl) (h2 := rr hxv) (h3 := rfl) (h4 := rr hxw) (h5 := rfl) (h6 := own_does _ _) (h7 := own_does _ _) (h8 := k1) (h9 := own_does _ _) (h10 := own_does _ _) (h11 := k2) (h12 := own_does _ _) (h13 := own_does _ _) (h14 := k3) (h15 := own_does _ _) (h16 := own_does _ _) (h17 := k4) (h18 := hn) (h19 := decide_eq_true (by omega)) (h20 := decide_eq_true (by omega)) (h21 := decide_eq_false (by omega)) (h22 := decide_eq_true (by omega)) (h23 := decide_eq_false (by omega)) (h24 := he) (h25 := own_does _ _) (h26 := hr) (h27 := num_does _) (h28 := bne_eq_false_iff_eq.2 hre) (h29 := decide_eq_true (by omega)) (h30 := knows_does)
              · have k5 := k5 hre hs
                have k6 := k6 hre hs
                exact loK2102 (u := u) (x := x) (v := v) (y := y) (w := w) (z := z) (sc := sc) (h0 := rr hxu) (h1 := rfl) (h2 := rr hxv) (h3 := rfl) (h4 := rr hxw) (h5 := rfl) (h6 := own_does _ _) (h7 := own_does _ _) (h8 := k1) (h9 := own_does _ _) (h10 := own_does _ _) (h11 := k2) (h12 := own_does _ _) (h13 := own_does _ _) (h14 := k3) (h15 := own_does _ _) (h16 := own_does _ _) (h17 := k4) (h18 := hn) (h19 := decide_eq_true (by omega)) (h20 := decide_eq_true (by omega)) (h21 := decide_eq_false (by omega)) (h22 := decide_eq_true (by omega)) (h23 := decide_eq_false (by omega)) (h24 := he) (h25 := own_does _ _) (h26 := hr) (h27 := num_does _) (h28 := bne_eq_false_iff_eq.2 hre) (h29 := decide_eq_false (by omega)) (h30 := own_does _ _) (h31 := k5) (h32 := by simp) (h33 := own_does _ _) (h34 := k6) (h35 := by simp) (h36 := knows_does)
            · exact loK2100 (u := u) (x := x) (v := v) (y := y) (w := w) (z := z) (sc := sc) (h0 := rr hxu) (h1 := rfl) (h2 := rr hxv) (h3 := rfl) (h4 := rr hxw) (h5 := rfl) (h6 := own_does _ _) (h7 := own_does _ _) (h8 := k1) (h9 := own_does _ _) (h10 := own_does _ _) (h11 := k2) (h12 := own_does _ _) (h13 := own_does _ _) (h14 := k3) (h15 := own_does _ _) (h16 := own_does _ _) (h17 := k4) (h18 := hn) (h19 := decide_eq_true (by omega)) (h20 := decide_eq_true (by omega)) (h21 := decide_eq_false (by omega)) (h22 := decide_eq_true (by omega)) (h23 := decide_eq_false (by omega)) (h24 := he) (h25 := own_does _ _) (h26 := hr) (h27 := num_does _) (h28 := bne_iff_ne.2 hre) (h29 := knows_does)
      · have q := 0
        by_cases he : (u == v && (x == y && true)) = true
        · have h0 : ab = 0 := t3 (eq_of_beq (by simp at he; simp [he.1])) (eq_of_beq (by simp at he; simp [he.2]))
          by_cases hre : re = 0
          · by_cases hs : sc < x
            · exact loK1211 (u := u) (x := x) (v := v) (y := y) (w := w) (z := z) (sc := sc) (h0 := rr hxu) (h1 := rfl) (h2 := rr hxv) (h3 := rfl) (h4 := rr hxw) (h5 := rfl) (h6 := own_does _ _) (h7 := own_does _ _) (h8 := k1) (h9 := own_does _ _) (h10 := own_does _ _) (h11 := k2) (h12 := own_does _ _) (h13 := own_does _ _) (h14 := k3) (h15 := own_does _ _) (h16 := own_does _ _) (h17 := k4) (h18 := hn) (h19 := decide_eq_true (by omega)) (h20 := decide_eq_false (by omega)) (h21 := decide_eq_true (by omega)) (h22 := decide_eq_true (by omega)) (h23 := decide_eq_false (by omega)) (h24 := he) (h25 := bne_eq_false_iff_eq.2 (by omega)) (h26 := own_does _ _) (h27 := hr) (h28 := num_does _) (h29 := bne_eq_false_iff_eq.2 hre) (h30 := decide_eq_true (by omega)) (h31 := knows_does)
            · have k5 := k5 hre hs
              have k6 := k6 hre hs
              exact loK1212 (u := u) (x := x) (v := v) (y := y) (w := w) (z := z) (sc := sc) (h0 := rr hxu) (h1 := rfl) (h2 := rr hxv) (h3 := rfl) (h4 := rr hxw) (h5 := rfl) (h6 := own_does _ _) (h7 := own_does _ _) (h8 := k1) (h9 := own_does _ _) (h10 := own_does _ _) (h11 := k2) (h12 := own_does _ _) (h13 := own_does _ _) (h14 := k3) (h15 := own_does _ _) (h16 := own_does _ _) (h17 := k4) (h18 := hn) (h19 := decide_eq_true (by omega)) (h20 := decide_eq_false (by omega)) (h21 := decide_eq_true (by omega)) (h22 := decide_eq_true (by omega)) (h23 := decide_eq_false (by omega)) (h24 := he) (h25 := bne_eq_false_iff_eq.2 (by omega)) (h26 := own_does _ _) (h27 := hr) (h28 := num_does _) (h29 := bne_eq_false_iff_eq.2 hre) (h30 := decide_eq_false (by omega)) (h31 := own_does _ _) (h32 := k5) (h33 := by simp) (h34 := own_does _ _) (h35 := k6) (h36 := by simp) (h37 := knows_does)
          · exact loK1210 (u := u) (x := x) (v := v) (y := y) (w := w) (z := z) (sc := sc) (h0 := rr hxu) (h1 := rfl) (h2 := rr hxv) (h3 := rfl) (h4 := rr hxw) (h5 := rfl) (h6 := own_does _ _) (h7 := own_does _ _) (h8 := k1) (h9 := own_does _ _) (h10 := own_does _ _) (h11 := k2) (h12 := own_does _ _) (h13 := own_does _ _) (h14 := k3) (h15 := own_does _ _) (h16 := own_does _ _) (h17 := k4) (h18 := hn) (h19 := decide_eq_true (by omega)) (h20 := decide_eq_false (by omega)) (h21 := decide_eq_true (by omega)) (h22 := decide_eq_true (by omega)) (h23 := decide_eq_false (by omega)) (h24 := he) (h25 := bne_eq_false_iff_eq.2 (by omega)) (h26 := own_does _ _) (h27 := hr) (h28 := num_does _) (h29 := bne_iff_ne.2 hre) (h30 := knows_does)
        · rw [Bool.not_eq_true] at he
          by_cases hre : re = 0
          · by_cases hs : sc < x
            · exact loK1201 (u := u) (x := x) (v := v) (y := y) (w := w) (z := z) (sc := sc) (h0 := rr hxu) (h1 := rfl) (h2 := rr hxv) (h3 := rfl) (h4 := rr hxw) (h5 := rfl) (h6 := own_does _ _) (h7 := own_does _ _) (h8 := k1) (h9 := own_does _ _) (h10 := own_does _ _) (h11 := k2) (h12 := own_does _ _) (h13 := own_does _ _) (h14 := k3) (h15 := own_does _ _) (h16 := own_does _ _) (h17 := k4) (h18 := hn) (h19 := decide_eq_true (by omega)) (h20 := decide_eq_false (by omega)) (h21 := decide_eq_true (by omega)) (h22 := decide_eq_true (by omega)) (h23 := decide_eq_false (by omega)) (h24 := he) (h25 := own_does _ _) (h26 := hr) (h27 := num_does _) (h28 := bne_eq_false_iff_eq.2 hre) (h29 := decide_eq_true (by omega)) (h30 := knows_does)
            · have k5 := k5 hre hs
              have k6 := k6 hre hs
              exact loK1202 (u := u) (x := x) (v := v) (y := y) (w := w) (z := z) (sc := sc) (h0 := rr hxu) (h1 := rfl) (h2 := rr hxv) (h3 := rfl) (h4 := rr hxw) (h5 := rfl) (h6 := own_does _ _) (h7 := own_does _ _) (h8 := k1) (h9 := own_does _ _) (h10 := own_does _ _) (h11 := k2) (h12 := own_does _ _) (h13 := own_does _ _) (h14 := k3) (h15 := own_does _ _) (h16 := own_does _ _) (h17 := k4) (h18 := hn) (h19 := decide_eq_true (by omega)) (h20 := decide_eq_false (by omega)) (h21 := decide_eq_true (by omega)) (h22 := decide_eq_true (by omega)) (h23 := decide_eq_false (by omega)) (h24 := he) (h25 := own_does _ _) (h26 := hr) (h27 := num_does _) (h28 := bne_eq_false_iff_eq.2 hre) (h29 := decide_eq_false (by omega)) (h30 := own_does _ _) (h31 := k5) (h32 := by simp) (h33 := own_does _ _) (h34 := k6) (h35 := by simp) (h36 := knows_does)
          · exact loK1200 (u := u) (x := x) (v := v) (y := y) (w := w) (z := z) (sc := sc) (h0 := rr hxu) (h1 := rfl) (h2 := rr hxv) (h3 := rfl) (h4 := rr hxw) (h5 := rfl) (h6 := own_does _ _) (h7 := own_does _ _) (h8 := k1) (h9 := own_does _ _) (h10 := own_does _ _) (h11 := k2) (h12 := own_does _ _) (h13 := own_does _ _) (h14 := k3) (h15 := own_does _ _) (h16 := own_does _ _) (h17 := k4) (h18 := hn) (h19 := decide_eq_true (by omega)) (h20 := decide_eq_false (by omega)) (h21 := decide_eq_true (by omega)) (h22 := decide_eq_true (by omega)) (h23 := decide_eq_false (by omega)) (h24 := he) (h25 := own_does _ _) (h26 := hr) (h27 := num_does _) (h28 := bne_iff_ne.2 hre) (h29 := knows_does)
    · by_cases b1 : bc ≤ 0
      · have q := 0
        have he : (u == v && (x == y && true)) = false := by
          rw [← Bool.not_eq_true]
          intro he
          have h0 : ab = 0 := t3 (eq_of_beq (by simp at he; simp [he.1])) (eq_of_beq (by simp at he; simp [he.2]))
          omega
        by_cases hre : re = 0
        · by_cases hs : sc < x
          · exact loK2001 (u := u) (x := x) (v := v) (y := y) (w := w) (z := z) (sc := sc) (h0 := rr hxu) (h1 := rfl) (h2 := rr hxv) (h3 := rfl) (h4 := rr hxw) (h5 := rfl) (h6 := own_does _ _) (h7 := own_does _ _) (h8 := k1) (h9 := own_does _ _) (h10 := own_does _ _) (h11 := k2) (h12 := own_does _ _) (h13 := own_does _ _) (h14 := k3) (h15 := own_does _ _) (h16 := own_does _ _) (h17 := k4) (h18 := hn) (h19 := decide_eq_true (by omega)) (h20 := decide_eq_true (by omega)) (h21 := decide_eq_false (by omega)) (h22 := decide_eq_false (by omega)) (h23 := he) (h24 := own_does _ _) (h25 := hr) (h26 := num_does _) (h27 := bne_eq_false_iff_eq.2 hre) (h28 := decide_eq_true (by omega)) (h29 := knows_does)
          · have k5 := k5 hre hs
            have k6 := k6 hre hs
            exact loK2002 (u := u) (x := x) (v := v) (y := y) (w := w) (z := z) (sc := sc) (h0 := rr hxu) (h1 := rfl) (h2 := rr hxv) (h3 := rfl) (h4 := rr hxw) (h5 := rfl) (h6 := own_does _ _) (h7 := own_does _ _) (h8 := k1) (h9 := own_does _ _) (h10 := own_does _ _) (h11 := k2) (h12 := own_does _ _) (h13 := own_does _ _) (h14 := k3) (h15 := own_does _ _) (h16 := own_does _ _) (h17 := k4) (h18 := hn) (h19 := decide_eq_true (by omega)) (h20 := decide_eq_true (by omega)) (h21 := decide_eq_false (by omega)) (h22 := decide_eq_false (by omega)) (h23 := he) (h24 := own_does _ _) (h25 := hr) (h26 := num_does _) (h27 := bne_eq_false_iff_eq.2 hre) (h28 := decide_eq_false (by omega)) (h29 := own_does _ _) (h30 := k5) (h31 := by simp) (h32 := own_does _ _) (h33 := k6) (h34 := by simp) (h35 := knows_does)
        · exact loK2000 (u := u) (x := x) (v := v) (y := y) (w := w) (z := z) (sc := sc) (h0 := rr hxu) (h1 := rfl) (h2 := rr hxv) (h3 := rfl) (h4 := rr hxw) (h5 := rfl) (h6 := own_does _ _) (h7 := own_does _ _) (h8 := k1) (h9 := own_does _ _) (h10 := own_does _ _) (h11 := k2) (h12 := own_does _ _) (h13 := own_does _ _) (h14 := k3) (h15 := own_does _ _) (h16 := own_does _ _) (h17 := k4) (h18 := hn) (h19 := decide_eq_true (by omega)) (h20 := decide_eq_true (by omega)) (h21 := decide_eq_false (by omega)) (h22 := decide_eq_false (by omega)) (h23 := he) (h24 := own_does _ _) (h25 := hr) (h26 := num_does _) (h27 := bne_iff_ne.2 hre) (h28 := knows_does)
      · have q := 0
        have he : (u == v && (x == y && true)) = false := by
          rw [← Bool.not_eq_true]
          intro he
          have h0 : ab = 0 := t3 (eq_of_beq (by simp at he; simp [he.1])) (eq_of_beq (by simp at he; simp [he.2]))
          omega
        by_cases hre : re = 0
        · by_cases hs : sc < x
          · exact loK1001 (u := u) (x := x) (v := v) (y := y) (w := w) (z := z) (sc := sc) (h0 := rr hxu) (h1 := rfl) (h2 := rr hxv) (h3 := rfl) (h4 := rr hxw) (h5 := rfl) (h6 := own_does _ _) (h7 := own_does _ _) (h8 := k1) (h9 := own_does _ _) (h10 := own_does _ _) (h11 := k2) (h12 := own_does _ _) (h13 := own_does _ _) (h14 := k3) (h15 := own_does _ _) (h16 := own_does _ _) (h17 := k4) (h18 := hn) (h19 := decide_eq_true (by omega)) (h20 := decide_eq_false (by omega)) (h21 := decide_eq_false (by omega)) (h22 := he) (h23 := own_does _ _) (h24 := hr) (h25 := num_does _) (h26 := bne_eq_false_iff_eq.2 hre) (h27 := decide_eq_true (by omega)) (h28 := knows_does)
          · have k5 := k5 hre hs
            have k6 := k6 hre hs
            exact loK1002 (u := u) (x := x) (v := v) (y := y) (w := w) (z := z) (sc := sc) (h0 := rr hxu) (h1 := rfl) (h2 := rr hxv) (h3 := rfl) (h4 := rr hxw) (h5 := rfl) (h6 := own_does _ _) (h7 := own_does _ _) (h8 := k1) (h9 := own_does _ _) (h10 := own_does _ _) (h11 := k2) (h12 := own_does _ _) (h13 := own_does _ _) (h14 := k3) (h15 := own_does _ _) (h16 := own_does _ _) (h17 := k4) (h18 := hn) (h19 := decide_eq_true (by omega)) (h20 := decide_eq_false (by omega)) (h21 := decide_eq_false (by omega)) (h22 := he) (h23 := own_does _ _) (h24 := hr) (h25 := num_does _) (h26 := bne_eq_false_iff_eq.2 hre) (h27 := decide_eq_false (by omega)) (h28 := own_does _ _) (h29 := k5) (h30 := by simp) (h31 := own_does _ _) (h32 := k6) (h33 := by simp) (h34 := knows_does)
        · exact loK1000 (u := u) (x := x) (v := v) (y := y) (w := w) (z := z) (sc := sc) (h0 := rr hxu) (h1 := rfl) (h2 := rr hxv) (h3 := rfl) (h4 := rr hxw) (h5 := rfl) (h6 := own_does _ _) (h7 := own_does _ _) (h8 := k1) (h9 := own_does _ _) (h10 := own_does _ _) (h11 := k2) (h12 := own_does _ _) (h13 := own_does _ _) (h14 := k3) (h15 := own_does _ _) (h16 := own_does _ _) (h17 := k4) (h18 := hn) (h19 := decide_eq_true (by omega)) (h20 := decide_eq_false (by omega)) (h21 := decide_eq_false (by omega)) (h22 := he) (h23 := own_does _ _) (h24 := hr) (h25 := num_does _) (h26 := bne_iff_ne.2 hre) (h27 := knows_does)
  · by_cases b2 : bc ≥ 0
    · have q := 0
      have he : (u == v && (x == y && true)) = false := by
        rw [← Bool.not_eq_true]
        intro he
        have h0 : ab = 0 := t3 (eq_of_beq (by simp at he; simp [he.1])) (eq_of_beq (by simp at he; simp [he.2]))
        omega
      by_cases hre : re = 0
      · by_cases hs : sc < x
        · exact loK0201 (u := u) (x := x) (v := v) (y := y) (w := w) (z := z) (sc := sc) (h0 := rr hxu) (h1 := rfl) (h2 := rr hxv) (h3 := rfl) (h4 := rr hxw) (h5 := rfl) (h6 := own_does _ _) (h7 := own_does _ _) (h8 := k1) (h9 := own_does _ _) (h10 := own_does _ _) (h11 := k2) (h12 := own_does _ _) (h13 := own_does _ _) (h14 := k3) (h15 := own_does _ _) (h16 := own_does _ _) (h17 := k4) (h18 := hn) (h19 := decide_eq_false (by omega)) (h20 := decide_eq_true (by omega)) (h21 := decide_eq_true (by omega)) (h22 := decide_eq_false (by omega)) (h23 := he) (h24 := own_does _ _) (h25 := hr) (h26 := num_does _) (h27 := bne_eq_false_iff_eq.2 hre) (h28 := decide_eq_true (by omega)) (h29 := knows_does)
        · have k5 := k5 hre hs
          have k6 := k6 hre hs
          exact loK0202 (u := u) (x := x) (v := v) (y := y) (w := w) (z := z) (sc := sc) (h0 := rr hxu) (h1 := rfl) (h2 := rr hxv) (h3 := rfl) (h4 := rr hxw) (h5 := rfl) (h6 := own_does _ _) (h7 := own_does _ _) (h8 := k1) (h9 := own_does _ _) (h10 := own_does _ _) (h11 := k2) (h12 := own_does _ _) (h13 := own_does _ _) (h14 := k3) (h15 := own_does _ _) (h16 := own_does _ _) (h17 := k4) (h18 := hn) (h19 := decide_eq_false (by omega)) (h20 := decide_eq_true (by omega)) (h21 := decide_eq_true (by omega)) (h22 := decide_eq_false (by omega)) (h23 := he) (h24 := own_does _ _) (h25 := hr) (h26 := num_does _) (h27 := bne_eq_false_iff_eq.2 hre) (h28 := decide_eq_false (by omega)) (h29 := own_does _ _) (h30 := k5) (h31 := by simp) (h32 := own_does _ _) (h33 := k6) (h34 := by simp) (h35 := knows_does)
      · exact loK0200 (u := u) (x := x) (v := v) (y := y) (w := w) (z := z) (sc := sc) (h0 := rr hxu) (h1 := rfl) (h2 := rr hxv) (h3 := rfl) (h4 := rr hxw) (h5 := rfl) (h6 := own_does _ _) (h7 := own_does _ _) (h8 := k1) (h9 := own_does _ _) (h10 := own_does _ _) (h11 := k2) (h12 := own_does _ _) (h13 := own_does _ _) (h14 := k3) (h15 := own_does _ _) (h16 := own_does _ _) (h17 := k4) (h18 := hn) (h19 := decide_eq_false (by omega)) (h20 := decide_eq_true (by omega)) (h21 := decide_eq_true (by omega)) (h22 := decide_eq_false (by omega)) (h23 := he) (h24 := own_does _ _) (h25 := hr) (h26 := num_does _) (h27 := bne_iff_ne.2 hre) (h28 := knows_does)
    · have q := 0
      have he : (u == v && (x == y && true)) = false := by
        rw [← Bool.not_eq_true]
        intro he
        have h0 : ab = 0 := t3 (eq_of_beq (by simp at he; simp [he.1])) (eq_of_beq (by simp at he; simp [he.2]))
        omega
      by_cases hre : re = 0
      · by_cases hs : sc < x
        · exact loK0101 (u := u) (x := x) (v := v) (y := y) (w := w) (z := z) (sc := sc) (h0 := rr hxu) (h1 := rfl) (h2 := rr hxv) (h3 := rfl) (h4 := rr hxw) (h5 := rfl) (h6 := own_does _ _) (h7 := own_does _ _) (h8 := k1) (h9 := own_does _ _) (h10 := own_does _ _) (h11 := k2) (h12 := own_does _ _) (h13 := own_does _ _) (h14 := k3) (h15 := own_does _ _) (h16 := own_does _ _) (h17 := k4) (h18 := hn) (h19 := decide_eq_false (by omega)) (h20 := decide_eq_true (by omega)) (h21 := decide_eq_false (by omega)) (h22 := he) (h23 := own_does _ _) (h24 := hr) (h25 := num_does _) (h26 := bne_eq_false_iff_eq.2 hre) (h27 := decide_eq_true (by omega)) (h28 := knows_does)
        · have k5 := k5 hre hs
          have k6 := k6 hre hs
          exact loK0102 (u := u) (x := x) (v := v) (y := y) (w := w) (z := z) (sc := sc) (h0 := rr hxu) (h1 := rfl) (h2 := rr hxv) (h3 := rfl) (h4 := rr hxw) (h5 := rfl) (h6 := own_does _ _) (h7 := own_does _ _) (h8 := k1) (h9 := own_does _ _) (h10 := own_does _ _) (h11 := k2) (h12 := own_does _ _) (h13 := own_does _ _) (h14 := k3) (h15 := own_does _ _) (h16 := own_does _ _) (h17 := k4) (h18 := hn) (h19 := decide_eq_false (by omega)) (h20 := decide_eq_true (by omega)) (h21 := decide_eq_false (by omega)) (h22 := he) (h23 := own_does _ _) (h24 := hr) (h25 := num_does _) (h26 := bne_eq_false_iff_eq.2 hre) (h27 := decide_eq_false (by omega)) (h28 := own_does _ _) (h29 := k5) (h30 := by simp) (h31 := own_does _ _) (h32 := k6) (h33 := by simp) (h34 := knows_does)
      · exact loK0100 (u := u) (x := x) (v := v) (y := y) (w := w) (z := z) (sc := sc) (h0 := rr hxu) (h1 := rfl) (h2 := rr hxv) (h3 := rfl) (h4 := rr hxw) (h5 := rfl) (h6 := own_does _ _) (h7 := own_does _ _) (h8 := k1) (h9 := own_does _ _) (h10 := own_does _ _) (h11 := k2) (h12 := own_does _ _) (h13 := own_does _ _) (h14 := k3) (h15 := own_does _ _) (h16 := own_does _ _) (h17 := k4) (h18 := hn) (h19 := decide_eq_false (by omega)) (h20 := decide_eq_true (by omega)) (h21 := decide_eq_false (by omega)) (h22 := he) (h23 := own_does _ _) (h24 := hr) (h25 := num_does _) (h26 := bne_iff_ne.2 hre) (h27 := knows_does)
theorem resc_ok {u x sc : Int} (h : (rescM u x sc).2.2 = 0) : sc6 x ∧ sc6 sc := by
  by_cases g : sc6 x ∧ sc6 sc
  · exact g
  · unfold rescM at h
    rw [if_neg g] at h
    exact absurd h (by decide)
theorem resc_up {u x sc : Int} (hu : I64 u) (hx : sc6 x) (hs : I64 sc) (h : (rescM u x sc).2.2 = 0) (h1 : ¬ sc < x) : I64 (u * p10 (sc - x)) ∧ rescM u x sc = (u * p10 (sc - x), sc, 0) := by
  have h6 := resc_ok h
  rw [rescZ hu hx h6.2, if_pos (by omega)] at h ⊢
  by_cases hf : I64 (u * p10 (sc - x))
  · exact ⟨hf, fitZ_ok hf⟩
  · rw [fitZ_bad hf] at h
    cases h
theorem order_law {u x v y w z sc : Int} (hu : I64 u) (hx : I64 x) (hv : I64 v) (hy : I64 y) (hw : I64 w) (hz : I64 z) (hs : I64 sc) :
    Does cE 5 [] 0 [.v (dc u x), .v (dc v y), .v (dc w z), .v (it sc)] (.v (.bool true)) [] 0 := by
  by_cases hxu : sc6 x
  · by_cases hxv : sc6 y
    · by_cases hxw : sc6 z
      · have k1 := pcmp_does hu hx hv hy
        have k2 := pcmp_does hv hy hw hz
        have k3 := pcmp_does hu hx hw hz
        have k4 := pcmp_does hv hy hu hx
        have hr := presc_does hu hx hs
        rw [cmpZ hu hv hxu hxv] at k1
        rw [cmpZ hv hw hxv hxw] at k2
        rw [cmpZ hu hw hxu hxw] at k3
        rw [cmpZ hv hu hxv hxu] at k4
        have e1 : u = v → x = y → u * p10 (6 - x) = v * p10 (6 - y) := by intro a b; rw [a, b]
        have c1 := cmpI_spec (u * p10 (6 - x)) (v * p10 (6 - y))
        have c2 := cmpI_spec (v * p10 (6 - y)) (w * p10 (6 - z))
        have c3 := cmpI_spec (u * p10 (6 - x)) (w * p10 (6 - z))
        have c4 := cmpI_spec (v * p10 (6 - y)) (u * p10 (6 - x))
        refine order_core hxu hxv hxw k1 k2 k3 k4 (bne_eq_false_iff_eq.2 ?_) ?_ ?_ ?_ (du := (rescM u x sc).1) (ds := (rescM u x sc).2.1) (re := (rescM u x sc).2.2) hr ?_ ?_
        · rcases c1 with ⟨_, e⟩ | ⟨_, e⟩ | ⟨_, e⟩ <;> rcases c4 with ⟨_, f⟩ | ⟨_, f⟩ | ⟨_, f⟩ <;> rw [e, f] <;> first | decide | (exfalso; omega)
        · omega
        · omega
        · intro a b; have := e1 a b; omega
        · intro h0 h1
          obtain ⟨hf, e⟩ := resc_up hu hxu hs h0 h1
          rw [e]
          have k := pcmp_does (u := u * p10 (sc - x)) (x := sc) hf hs hu hx
          have h6 := resc_ok h0
          rw [cmpZ hf hu h6.2 hxu, Int.mul_assoc, ← p10_add (by omega) (by omega), show sc - x + (6 - sc) = 6 - x by omega] at k
          have e4 : cmpI (u * p10 (6 - x)) (u * p10 (6 - x)) = 0 := by unfold cmpI; rw [if_neg (by omega), if_neg (by omega)]
          rwa [e4] at k
        · intro h0 h1
          obtain ⟨hf, e⟩ := resc_up hu hxu hs h0 h1
          rw [e]
          have k := pcmp_does (u := u * p10 (sc - x)) (x := sc) hf hs hv hy
          have h6 := resc_ok h0
          rwa [cmpZ hf hv h6.2 hxv, Int.mul_assoc, ← p10_add (by omega) (by omega), show sc - x + (6 - sc) = 6 - x by omega] at k
      · exact le2_1 (u := u) (x := x) (v := v) (y := y) (w := w) (z := z) (sc := sc) (h0 := rr hxu) (h1 := rfl) (h2 := rr hxv) (h3 := rfl) (h4 := rn hxw) (h5 := rfl) (h6 := knows_does)
    · exact le1_1 (u := u) (x := x) (v := v) (y := y) (w := w) (z := z) (sc := sc) (h0 := rr hxu) (h1 := rfl) (h2 := rn hxv) (h3 := rfl) (h4 := knows_does)
  · exact le0_1 (u := u) (x := x) (v := v) (y := y) (w := w) (z := z) (sc := sc) (h0 := rn hxu) (h1 := rfl) (h2 := knows_does)
theorem order_true (u x v y w z sc : Int) (hu : (Lit.int .i64 u).wf = true) (hx : (Lit.int .i64 x).wf = true) (hv : (Lit.int .i64 v).wf = true) (hy : (Lit.int .i64 y).wf = true) (hw : (Lit.int .i64 w).wf = true) (hz : (Lit.int .i64 z).wf = true) (hs : (Lit.int .i64 sc).wf = true) (wd : World) (hg : GlobIn cE wd) : Calls Tryd.prog 5 #[dc u x, dc v y, dc w z, it sc] wd fun e w' => e = .returned (.bool true) ∧ Below wd.heap.size wd w' :=
  law_calls (E := cE) (l := [dc u x, dc v y, dc w z, it sc]) (enters (fn := Tryd.f5) rfl (by kernel_rfl) rfl) (order_law (i64_of hu) (i64_of hx) (i64_of hv) (i64_of hy) (i64_of hw) (i64_of hz) (i64_of hs)) wd hg
end Go.Proofs.YtcneenlcbjicnaaDoorC
