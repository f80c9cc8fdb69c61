/- The stage's laws, in plain terms: sums and products can be turned round; what is added is taken away again; a product is parted again. -/
import Derived.Test.YtcneenlcbjicnaaDoorLB
import Derived.Test.YtcneenlcbjicnaaDoorPE4
namespace Go.Proofs.YtcneenlcbjicnaaDoorC
open Go.Proofs Go.Proofs.YtcneenlcbjicnaaDoorSx Go.RowKit
set_option maxRecDepth 100000
set_option linter.unusedVariables false
theorem mx_comm (x y : Int) : mx x y = mx y x := by
  unfold mx
  split <;> split <;> omega
theorem sum_comm {u x v y : Int} (hu : I64 u) (hv : I64 v) : sumM v y u x false = sumM u x v y false := by
  by_cases h : sc6 x ∧ sc6 y
  · rw [sumZ hu hv h.1 h.2, sumZ hv hu h.2 h.1, mx_comm y x]
    simp only [Bool.false_eq_true, if_false]
    rw [Int.add_comm]
  · rw [sum_bad h, sum_bad (fun g => h ⟨g.2, g.1⟩)]
theorem mul_comm' (u x v y : Int) : mulM v y u x = mulM u x v y := by
  have e1 : (ng v != ng u) = (ng u != ng v) := by cases ng u <;> cases ng v <;> rfl
  unfold mulM
  by_cases h : sc6 x ∧ sc6 y
  · rw [if_pos h, if_pos ⟨h.2, h.1⟩, Int.add_comm y x, Int.mul_comm (ab v) (ab u), e1]
  · rw [if_neg h, if_neg (fun g => h ⟨g.2, g.1⟩)]
theorem p10_add {a b : Int} (ha : 0 ≤ a) (hb : 0 ≤ b) : p10 (a + b) = p10 a * p10 b := by
  unfold p10
  rw [show (a + b).toNat = a.toNat + b.toNat by omega, Int.pow_add]
theorem ab_mul (u v : Int) : ab (u * v) = ab u * ab v := by
  unfold ab
  rw [Int.natAbs_mul]
  simp
theorem rnd_zero {y : Int} (hy : 0 < y) : rnd 0 y = 0 := by
  have := rnd_mul (q := 0) hy
  rwa [Int.zero_mul] at this
theorem div_back {u x v y : Int} (hu : I64 u) (hv : I64 v) (hx : sc6 x) (hy : sc6 y) (h6 : x + y ≤ 6) (hv0 : v ≠ 0) : divM (u * v) (x + y) v y x = (u, x, 0) := by
  have hp := p10_le (z := y + x) (by omega)
  have hpos : 0 < ab v * p10 (x + y) := Int.mul_pos (ab_pos hv0) (by rw [Int.add_comm]; omega)
  have hr : rnd (ab (u * v) * p10 (y + x)) (ab v * p10 (x + y)) = ab u := by
    rw [ab_mul, Int.mul_assoc, Int.add_comm y x, rnd_mul hpos]
  unfold divM
  rw [if_pos ⟨by omega, hy, hx⟩, if_neg hv0, hr, fitP_eq (ab_bound hu).1]
  have e : sg (ab u) (ng (u * v) != ng v) = u := by
    rcases ab_spec u with ⟨h1, h2⟩ | ⟨h1, h2⟩
    · rcases Int.lt_or_gt_of_ne hv0 with h3 | h3
      · have : 0 < u * v := Int.mul_pos_of_neg_of_neg h1 h3
        rw [h2, show ng (u * v) = false from decide_eq_false (by omega), show ng v = true from decide_eq_true h3]
        simp [sg]
      · have : u * v < 0 := Int.mul_neg_of_neg_of_pos h1 h3
        rw [h2, show ng (u * v) = true from decide_eq_true this, show ng v = false from decide_eq_false (by omega)]
        simp [sg]
    · by_cases hu0 : u = 0
      · rw [h2, hu0]
        simp [sg]
      · rcases Int.lt_or_gt_of_ne hv0 with h3 | h3
        · have : u * v < 0 := Int.mul_neg_of_pos_of_neg (by omega) h3
          rw [h2, show ng (u * v) = true from decide_eq_true this, show ng v = true from decide_eq_true h3]
          simp [sg]
        · have : 0 < u * v := Int.mul_pos (by omega) h3
          rw [h2, show ng (u * v) = false from decide_eq_false (by omega), show ng v = false from decide_eq_false (by omega)]
          simp [sg]
  rw [e, fitZ_ok hu]
theorem mul_cases {u x v y : Int} (hu : I64 u) (hv : I64 v) (hy : I64 y) (hx : I64 x) : ∃ ru rs re, mulM u x v y = (ru, rs, re) ∧
    (re ≠ 0 ∨ (re = 0 ∧ v = 0) ∨ (re = 0 ∧ v ≠ 0 ∧ IntKind.i64.wrap (x + y) > 6) ∨ (re = 0 ∧ v ≠ 0 ∧ IntKind.i64.wrap (x + y) ≤ 6 ∧ Does cE 20 [] 0 [.v (dc ru rs), .v (dc v y), .v (it x)] (.v (ans (u, x, 0))) [] 0)) := by
  refine ⟨(mulM u x v y).1, (mulM u x v y).2.1, (mulM u x v y).2.2, rfl, ?_⟩
  by_cases hok : sc6 x ∧ sc6 y
  · have w : IntKind.i64.wrap (x + y) = x + y := wrap64 (by omega) (by omega)
    rw [w]
    by_cases hre : (mulM u x v y).2.2 = 0
    · by_cases hv0 : v = 0
      · exact .inr (.inl ⟨hre, hv0⟩)
      · by_cases h6 : x + y ≤ 6
        · refine .inr (.inr (.inr ⟨hre, hv0, h6, ?_⟩))
          rw [mulZ hu hv hok.1 hok.2 h6] at hre ⊢
          by_cases hf : I64 (u * v)
          · rw [fitZ_ok hf]
            have h := pdiv_does (u := u * v) (x := x + y) (v := v) (y := y) (sc := x) hf (by omega) hv hy hx
            rw [div_back hu hv hok.1 hok.2 h6 hv0] at h
            exact h
          · rw [fitZ_bad hf] at hre
            cases hre
        · exact .inr (.inr (.inl ⟨hre, hv0, by omega⟩))
    · exact .inl hre
  · left
    unfold mulM
    rw [if_neg hok]
    decide
theorem laws_law {u x v y : Int} (hu : I64 u) (hx : I64 x) (hv : I64 v) (hy : I64 y) : Does cE 9 [] 0 [.v (dc u x), .v (dc v y)] (.v (.bool true)) [] 0 := by
  have o1 := own_does u x
  have o2 := own_does v y
  have s1 := padd_does hu hx hv hy
  have s2 := padd_does hv hy hu hx
  have m1 := pmul_does hu hx hv hy
  have m2 := pmul_does hv hy hu hx
  rw [sum_comm hu hv] at s2
  rw [mul_comm'] at m2
  obtain ⟨ru, rs, re, hr, hrc⟩ := mul_cases hu hv hy hx
  rw [hr] at m1 m2
  have q1 : ∀ a b : Int, (!(a == a && (b == b && true))) = false := by intro a b; simp
  have q2 : ∀ a : Int, (a != a) = false := by intro a; simp
  by_cases hok : sc6 x ∧ sc6 y
  · have hmx : mx x y ≤ 6 ∧ x ≤ mx x y ∧ y ≤ mx x y := by unfold mx; split <;> omega
    have e := sumZ hu hv hok.1 hok.2 false
    simp only [Bool.false_eq_true, if_false] at e
    generalize hz : u * p10 (mx x y - x) + v * p10 (mx x y - y) = z at e
    by_cases hf : I64 z
    · rw [fitZ_ok hf] at e
      rw [e] at s1 s2
      have hs := psub_does (u := z) (x := mx x y) (v := v) (y := y) hf (by omega) hv hy
      have emx : mx (mx x y) y = mx x y := by
        generalize mx x y = s at hmx
        unfold mx
        split <;> omega
      rw [sumZ hf hv (by omega) hok.2, emx, show mx x y - mx x y = 0 by omega, p10_zero, if_pos rfl, Int.mul_one] at hs
      have e3 : z + -(v * p10 (mx x y - y)) = u * p10 (mx x y - x) := by omega
      rw [e3] at hs
      by_cases hg : I64 (u * p10 (mx x y - x))
      · rw [fitZ_ok hg] at hs
        have hc := pcmp_does (u := u * p10 (mx x y - x)) (x := mx x y) (v := u) (y := x) hg (by omega) hu hx
        rw [cmpZ hg hu (by omega) hok.1, Int.mul_assoc, ← p10_add (by omega) (by omega), show mx x y - x + (6 - mx x y) = 6 - x by omega] at hc
        have e4 : cmpI (u * p10 (6 - x)) (u * p10 (6 - x)) = 0 := by unfold cmpI; rw [if_neg (by omega), if_neg (by omega)]
        rw [e4] at hc
        rcases hrc with h | ⟨h, hv0⟩ | ⟨h, hv0, h6⟩ | ⟨h, hv0, h6, hd⟩
        · exact llaws_ag_1 (h0 := o1) (h1 := o2) (h2 := s1) (h3 := o2) (h4 := o1) (h5 := s2) (h6 := o1) (h7 := o2) (h8 := m1) (h9 := o2) (h10 := o1) (h11 := m2) (h12 := q1 _ _) (h13 := q2 _) (h14 := q1 _ _) (h15 := q2 _) (h16 := knows_does) (h17 := rfl) (h18 := num_does _) (h19 := rfl) (h20 := o2) (h21 := hs) (h22 := num_does _) (h23 := rfl) (h24 := o1) (h25 := hc) (h26 := rfl) (h27 := num_does _) (h28 := beq_false_of_ne h)
        · exact llaws_av_1 (h0 := o1) (h1 := o2) (h2 := s1) (h3 := o2) (h4 := o1) (h5 := s2) (h6 := o1) (h7 := o2) (h8 := m1) (h9 := o2) (h10 := o1) (h11 := m2) (h12 := q1 _ _) (h13 := q2 _) (h14 := q1 _ _) (h15 := q2 _) (h16 := knows_does) (h17 := rfl) (h18 := num_does _) (h19 := rfl) (h20 := o2) (h21 := hs) (h22 := num_does _) (h23 := rfl) (h24 := o1) (h25 := hc) (h26 := rfl) (h27 := num_does _) (h28 := by simp [h]) (h29 := by simp [hv0])
        · exact llaws_as_1 (h0 := o1) (h1 := o2) (h2 := s1) (h3 := o2) (h4 := o1) (h5 := s2) (h6 := o1) (h7 := o2) (h8 := m1) (h9 := o2) (h10 := o1) (h11 := m2) (h12 := q1 _ _) (h13 := q2 _) (h14 := q1 _ _) (h15 := q2 _) (h16 := knows_does) (h17 := rfl) (h18 := num_does _) (h19 := rfl) (h20 := o2) (h21 := hs) (h22 := num_does _) (h23 := rfl) (h24 := o1) (h25 := hc) (h26 := rfl) (h27 := num_does _) (h28 := by simp [h]) (h29 := bne_iff_ne.2 hv0) (h30 := decide_eq_false (by omega))
        · exact llaws_ad_1 (h0 := o1) (h1 := o2) (h2 := s1) (h3 := o2) (h4 := o1) (h5 := s2) (h6 := o1) (h7 := o2) (h8 := m1) (h9 := o2) (h10 := o1) (h11 := m2) (h12 := q1 _ _) (h13 := q2 _) (h14 := q1 _ _) (h15 := q2 _) (h16 := knows_does) (h17 := rfl) (h18 := num_does _) (h19 := rfl) (h20 := o2) (h21 := hs) (h22 := num_does _) (h23 := rfl) (h24 := o1) (h25 := hc) (h26 := rfl) (h27 := num_does _) (h28 := by simp [h]) (h29 := bne_iff_ne.2 hv0) (h30 := decide_eq_true (by omega)) (h31 := o2) (h32 := hd) (h33 := num_does _) (h34 := rfl) (h35 := o1) (h36 := q1 _ _)
      · rw [fitZ_bad hg] at hs
        rcases hrc with h | ⟨h, hv0⟩ | ⟨h, hv0, h6⟩ | ⟨h, hv0, h6, hd⟩
        · exact llaws_bg_1 (h0 := o1) (h1 := o2) (h2 := s1) (h3 := o2) (h4 := o1) (h5 := s2) (h6 := o1) (h7 := o2) (h8 := m1) (h9 := o2) (h10 := o1) (h11 := m2) (h12 := q1 _ _) (h13 := q2 _) (h14 := q1 _ _) (h15 := q2 _) (h16 := knows_does) (h17 := rfl) (h18 := num_does _) (h19 := rfl) (h20 := o2) (h21 := hs) (h22 := num_does _) (h23 := rfl) (h24 := num_does _) (h25 := beq_false_of_ne h)
        · exact llaws_bv_1 (h0 := o1) (h1 := o2) (h2 := s1) (h3 := o2) (h4 := o1) (h5 := s2) (h6 := o1) (h7 := o2) (h8 := m1) (h9 := o2) (h10 := o1) (h11 := m2) (h12 := q1 _ _) (h13 := q2 _) (h14 := q1 _ _) (h15 := q2 _) (h16 := knows_does) (h17 := rfl) (h18 := num_does _) (h19 := rfl) (h20 := o2) (h21 := hs) (h22 := num_does _) (h23 := rfl) (h24 := num_does _) (h25 := by simp [h]) (h26 := by simp [hv0])
        · exact llaws_bs_1 (h0 := o1) (h1 := o2) (h2 := s1) (h3 := o2) (h4 := o1) (h5 := s2) (h6 := o1) (h7 := o2) (h8 := m1) (h9 := o2) (h10 := o1) (h11 := m2) (h12 := q1 _ _) (h13 := q2 _) (h14 := q1 _ _) (h15 := q2 _) (h16 := knows_does) (h17 := rfl) (h18 := num_does _) (h19 := rfl) (h20 := o2) (h21 := hs) (h22 := num_does _) (h23 := rfl) (h24 := num_does _) (h25 := by simp [h]) (h26 := bne_iff_ne.2 hv0) (h27 := decide_eq_false (by omega))
        · exact llaws_bd_1 (h0 := o1) (h1 := o2) (h2 := s1) (h3 := o2) (h4 := o1) (h5 := s2) (h6 := o1) (h7 := o2) (h8 := m1) (h9 := o2) (h10 := o1) (h11 := m2) (h12 := q1 _ _) (h13 := q2 _) (h14 := q1 _ _) (h15 := q2 _) (h16 := knows_does) (h17 := rfl) (h18 := num_does _) (h19 := rfl) (h20 := o2) (h21 := hs) (h22 := num_does _) (h23 := rfl) (h24 := num_does _) (h25 := by simp [h]) (h26 := bne_iff_ne.2 hv0) (h27 := decide_eq_true (by omega)) (h28 := o2) (h29 := hd) (h30 := num_does _) (h31 := rfl) (h32 := o1) (h33 := q1 _ _)
    · rw [fitZ_bad hf] at e
      rw [e] at s1 s2
      rcases hrc with h | ⟨h, hv0⟩ | ⟨h, hv0, h6⟩ | ⟨h, hv0, h6, hd⟩
      · exact llaws_cg_1 (h0 := o1) (h1 := o2) (h2 := s1) (h3 := o2) (h4 := o1) (h5 := s2) (h6 := o1) (h7 := o2) (h8 := m1) (h9 := o2) (h10 := o1) (h11 := m2) (h12 := q1 _ _) (h13 := q2 _) (h14 := q1 _ _) (h15 := q2 _) (h16 := knows_does) (h17 := rfl) (h18 := num_does _) (h19 := rfl) (h20 := num_does _) (h21 := beq_false_of_ne h)
      · exact llaws_cv_1 (h0 := o1) (h1 := o2) (h2 := s1) (h3 := o2) (h4 := o1) (h5 := s2) (h6 := o1) (h7 := o2) (h8 := m1) (h9 := o2) (h10 := o1) (h11 := m2) (h12 := q1 _ _) (h13 := q2 _) (h14 := q1 _ _) (h15 := q2 _) (h16 := knows_does) (h17 := rfl) (h18 := num_does _) (h19 := rfl) (h20 := num_does _) (h21 := by simp [h]) (h22 := by simp [hv0])
      · exact llaws_cs_1 (h0 := o1) (h1 := o2) (h2 := s1) (h3 := o2) (h4 := o1) (h5 := s2) (h6 := o1) (h7 := o2) (h8 := m1) (h9 := o2) (h10 := o1) (h11 := m2) (h12 := q1 _ _) (h13 := q2 _) (h14 := q1 _ _) (h15 := q2 _) (h16 := knows_does) (h17 := rfl) (h18 := num_does _) (h19 := rfl) (h20 := num_does _) (h21 := by simp [h]) (h22 := bne_iff_ne.2 hv0) (h23 := decide_eq_false (by omega))
      · exact llaws_cd_1 (h0 := o1) (h1 := o2) (h2 := s1) (h3 := o2) (h4 := o1) (h5 := s2) (h6 := o1) (h7 := o2) (h8 := m1) (h9 := o2) (h10 := o1) (h11 := m2) (h12 := q1 _ _) (h13 := q2 _) (h14 := q1 _ _) (h15 := q2 _) (h16 := knows_does) (h17 := rfl) (h18 := num_does _) (h19 := rfl) (h20 := num_does _) (h21 := by simp [h]) (h22 := bne_iff_ne.2 hv0) (h23 := decide_eq_true (by omega)) (h24 := o2) (h25 := hd) (h26 := num_does _) (h27 := rfl) (h28 := o1) (h29 := q1 _ _)
  · have e := sum_bad hok false (u := u) (v := v)
    rw [e] at s1 s2
    have h : re ≠ 0 := by
      unfold mulM at hr
      rw [if_neg hok] at hr
      cases hr
      decide
    exact llaws_cg_1 (h0 := o1) (h1 := o2) (h2 := s1) (h3 := o2) (h4 := o1) (h5 := s2) (h6 := o1) (h7 := o2) (h8 := m1) (h9 := o2) (h10 := o1) (h11 := m2) (h12 := q1 _ _) (h13 := q2 _) (h14 := q1 _ _) (h15 := q2 _) (h16 := knows_does) (h17 := rfl) (h18 := num_does _) (h19 := rfl) (h20 := num_does _) (h21 := beq_false_of_ne h)
theorem laws_true (u x v y : Int) (hu : (Lit.int .i64 u).wf = true) (hx : (Lit.int .i64 x).wf = true) (hv : (Lit.int .i64 v).wf = true) (hy : (Lit.int .i64 y).wf = true) (w : World) (hg : GlobIn cE w) : Calls Tryd.prog 9 #[dc u x, dc v y] w fun e w' => e = .returned (.bool true) ∧ Below w.heap.size w w' :=
  law_calls (E := cE) (l := [dc u x, dc v y]) (enters (fn := Tryd.f9) rfl (by kernel_rfl) rfl) (laws_law (i64_of hu) (i64_of hx) (i64_of hv) (i64_of hy)) w hg
end Go.Proofs.YtcneenlcbjicnaaDoorC
