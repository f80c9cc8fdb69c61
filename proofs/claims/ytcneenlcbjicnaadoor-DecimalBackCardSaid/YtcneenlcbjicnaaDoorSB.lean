/- Numbers in six parts of 32 bits: what the reference's product, order, and test for zero come to. -/
import Derived.Test.YtcneenlcbjicnaaDoorSA
import Derived.Test.YtcneenlcbjicnaaDoorPB1
import Derived.Test.YtcneenlcbjicnaaDoorPC2
namespace Go.Proofs.YtcneenlcbjicnaaDoorC
open Go.Proofs Go.Proofs.YtcneenlcbjicnaaDoorSx
set_option maxRecDepth 100000
set_option linter.unusedVariables false
theorem val_set : ∀ {l : List Int} {i : Nat} {v : Int}, i < l.length → val (l.set i v) = val l + 4294967296 ^ i * (v - l.getD i 0)
  | [], i, v, h => by simp at h
  | x :: l, 0, v, h => by
    simp [val]
    omega
  | x :: l, i + 1, v, h => by
    have ih := val_set (l := l) (i := i) (v := v) (by simpa using h)
    simp only [List.set_cons_succ, val, List.getD_cons_succ]
    rw [ih, Int.pow_succ]
    grind
theorem V_split (l : List Int) (k : Nat) (h : k ≤ l.length) : ∃ r, val l = V l k + 4294967296 ^ k * r := by
  refine ⟨val (l.drop k), ?_⟩
  have := val_app (l.take k) (l.drop k)
  rw [List.take_append_drop, List.length_take, Nat.min_eq_left h] at this
  exact this
theorem prod_bound {x y : Int} (hx : 0 ≤ x ∧ x < 4294967296) (hy : 0 ≤ y ∧ y < 4294967296) : 0 ≤ x * y ∧ x * y ≤ 18446744065119617025 := by
  refine ⟨Int.mul_nonneg hx.1 hy.1, ?_⟩
  have h1 : x * y ≤ 4294967295 * y := Int.mul_le_mul_of_nonneg_right (by omega) hy.1
  omega
abbrev tmS (i : Int) : List SV := ps4 ++ [.v (it i)] ++ List.replicate 41 .na
abbrev tnS (i c k : Int) : List SV := ps4 ++ [.v (it i), .v (iu c), .v (it k)] ++ List.replicate 39 .na
theorem tm_in {a b : List Int} (ha : Dig a) (hb : Dig b) (s t : Bool) {res : SV} {T' : Tab cE} {n' : Nat} (m i : Nat) (hi : i < 6) (o0 : List Int)
    (hend : ∀ o c, Dig o → val o + 4294967296 ^ 6 * c = val o0 + 4294967296 ^ i * (a.getD i 0 * V b (6 - i)) → Fin cE Tryd.f48 0 res T' n' (inK tmK m) (tmS (i + 1 : Nat)) (wT a b o s t false) 4) :
    ∀ (r k : Nat) (o : List Int) (c : Int), i + k + r = 6 → Dig o → 0 ≤ c ∧ c < 4294967296 → val o + 4294967296 ^ (i + k) * c = val o0 + 4294967296 ^ i * (a.getD i 0 * V b k) → ∀ n,
      Fin cE Tryd.f48 0 res T' n' (inK (tnK m) (n + r + 1)) (tnS i c k) (wT a b o s t false) 4
  | 0, k, o, c, hr, ho, hc, hv, n => by
    refine fin_round ?_
    have w1 : IntKind.i64.wrap ((i : Int) + (k : Int)) = ((i + k : Nat) : Int) := by rw [wrap64 (by omega) (by omega)]; rfl
    have h := tmc_2 a b o s t c i k m n res T' n' (by rw [w1]; simp; omega)
    rw [step64 (by omega)] at h
    have e6 : i + k = 6 := by omega
    rw [e6, show k = 6 - i by omega] at hv
    exact h (fin_weak (hend o c ho hv) (by repeat (first | exact trivial | refine ⟨.inr rfl, ?_⟩ | refine ⟨.inl rfl, ?_⟩)))
  | r + 1, k, o, c, hr, ho, hc, hv, n => by
    refine fin_round ?_
    have w1 : IntKind.i64.wrap ((i : Int) + (k : Int)) = ((i + k : Nat) : Int) := by rw [wrap64 (by omega) (by omega)]; rfl
    have h := tmc_1 a b o s t c i k m (n + (r + 1)) res T' n'
    rw [w1, pre_wc ha.len, pre_wc hb.len, pre_wc ho.len, step64 (by omega), Int.toNat_natCast] at h
    have ra := rng_get ha.rng i
    have rb := rng_get hb.rng k
    have ro := rng_get ho.rng (i + k)
    have vb := V_succ (l := b) (i := k) (by rw [hb.len]; omega)
    have hvs := fun v => val_set (l := o) (i := i + k) (v := v) (by rw [ho.len]; omega)
    generalize hx : a.getD i 0 = x at h ra hend hv
    generalize b.getD k 0 = y at h rb vb
    generalize o.getD (i + k) 0 = z at h ro hvs
    have hp := prod_bound ra rb
    have vb' : V b (k + 1) = V b k + 4294967296 ^ k * y := vb
    rw [wrU (x := x * y) (by omega) (by omega), wrU (x := c + z) (by omega) (by omega), wrU (x := c + z + x * y) (by omega) (by omega), Int.tdiv_eq_ediv_of_nonneg (a := c + z + x * y) (by omega), Int.tmod_eq_emod_of_nonneg (a := c + z + x * y) (by omega), wrU (x := (c + z + x * y) / 4294967296) (by omega) (by omega)] at h
    refine h (by simp; omega) ⟨by omega, by omega⟩ (lt6 ho (by omega)) ⟨by omega, by omega⟩ (lt6 ha hi) ⟨by omega, by omega⟩ (lt6 hb (by omega)) ?_
    refine tm_in ha hb s t m i hi o0 (by rw [hx]; exact hend) r (k + 1) _ _ (by omega) ⟨by simp [ho.len], rng_set ho.rng (by omega)⟩ (by omega) ?_ n
    rw [hvs, hx, vb', show i + (k + 1) = i + k + 1 by omega, Int.pow_succ]
    have hdm := Int.emod_add_mul_ediv (c + z + x * y) 4294967296
    generalize (c + z + x * y) % 4294967296 = u at hdm
    generalize (c + z + x * y) / 4294967296 = v at hdm
    rw [Int.pow_add] at hv ⊢
    generalize (4294967296 : Int) ^ i = P at hv ⊢
    generalize (4294967296 : Int) ^ k = Q at hv ⊢
    grind
theorem tm_loop {a b : List Int} (ha : Dig a) (hb : Dig b) (s t : Bool) : ∀ (r i : Nat) (o : List Int) (q : Int), i + r = 6 → Dig o → val o + 4294967296 ^ 6 * q = V a i * val b → val a * val b < big192 → ∀ m,
    Fin cE Tryd.f48 0 (.v (W (val a * val b) false)) [] 0 (inK tmK (m + r + 1)) (tmS i) (wT a b o s t false) 4
  | 0, i, o, q, hi, ho, hv, hlt, m => by
    refine fin_round ?_
    have h6 : i = 6 := by omega
    subst h6
    have h := tmb_2 a b o s t 6 m (by decide)
    rw [ha.V6] at hv
    have hr := val_rng ho.rng
    rw [ho.len, big_pow] at hr
    rw [big_pow] at hv
    have hpos : 0 ≤ val a * val b := Int.mul_nonneg (val_rng ha.rng).1 (val_rng hb.rng).1
    generalize val a * val b = p at hv hlt hpos
    have e : p = val o := by unfold big192 at *; omega
    rw [e, W, ← ho.eq]
    exact h
  | r + 1, i, o, q, hi, ho, hv, hlt, m => by
    refine fin_round ?_
    have hi6 : i < 6 := by omega
    refine tmb_1 a b o s t i (m + (r + 1)) _ _ _ (by simp; omega) ?_
    refine fin_loop (0 + (6 - i) + 1) ?_
    refine tm_in ha hb s t (m + (r + 1)) i hi6 o (fun o' c ho' hv' => ?_) (6 - i) 0 o 0 (by omega) ho (by omega) (by simp [V, val]) 0
    obtain ⟨rest, hrest⟩ := V_split b (6 - i) (by rw [hb.len]; omega)
    have va := V_succ (l := a) (i := i) (by rw [ha.len]; omega)
    refine tm_loop ha hb s t r (i + 1) o' (q + c + a.getD i 0 * rest) (by omega) ho' ?_ hlt m
    rw [va]
    have hpp : (4294967296 : Int) ^ 6 = 4294967296 ^ i * 4294967296 ^ (6 - i) := by rw [← Int.pow_add]; congr 1; omega
    rw [hpp] at hv hv' ⊢
    generalize (4294967296 : Int) ^ i = P at hv hv' hrest ⊢
    generalize (4294967296 : Int) ^ (6 - i) = Q at hv hv' hrest ⊢
    generalize a.getD i 0 = x at hv' ⊢
    generalize V b (6 - i) = vb at hv' hrest
    generalize V a i = va at hv
    generalize val b = B at hv hrest
    grind
theorem times_does {a b : List Int} (ha : Dig a) (hb : Dig b) (s t : Bool) (h : val a * val b < big192) : Does cE 48 [] 0 [.v (wv a s), .v (wv b t)] (.v (W (val a * val b) false)) [] 0 := by
  refine does_of_fin (fn := Tryd.f48) (c := bd Tryd.f48) rfl (by kernel_rfl) rfl ?_
  refine tma_1 a b s t _ _ _ ?_
  refine fin_loop (0 + 6 + 1) ?_
  exact tm_loop ha hb s t 6 0 [0, 0, 0, 0, 0, 0] 0 (by omega) dig0 (by simp [V, val]) h 0
/-! ### Order -/
theorem val6 {a : List Int} (h : Dig a) : val a = a.getD 0 0 + 4294967296 * (a.getD 1 0 + 4294967296 * (a.getD 2 0 + 4294967296 * (a.getD 3 0 + 4294967296 * (a.getD 4 0 + 4294967296 * a.getD 5 0)))) := by
  match a, h with
  | [x0, x1, x2, x3, x4, x5], _ => simp [val]
theorem less_does {a b : List Int} (ha : Dig a) (hb : Dig b) (s t : Bool) : Does cE 66 [] 0 [.v (wv a s), .v (wv b t)] (.v (.bool (decide (val a < val b)))) [] 0 := by
  have va := val6 ha
  have vb := val6 hb
  have a0 := rng_get ha.rng 0
  have a1 := rng_get ha.rng 1
  have a2 := rng_get ha.rng 2
  have a3 := rng_get ha.rng 3
  have a4 := rng_get ha.rng 4
  have a5 := rng_get ha.rng 5
  have b0 := rng_get hb.rng 0
  have b1 := rng_get hb.rng 1
  have b2 := rng_get hb.rng 2
  have b3 := rng_get hb.rng 3
  have b4 := rng_get hb.rng 4
  have b5 := rng_get hb.rng 5
  by_cases h5 : a.getD 5 0 = b.getD 5 0
  · by_cases h4 : a.getD 4 0 = b.getD 4 0
    · by_cases h3 : a.getD 3 0 = b.getD 3 0
      · by_cases h2 : a.getD 2 0 = b.getD 2 0
        · by_cases h1 : a.getD 1 0 = b.getD 1 0
          · by_cases h0 : a.getD 0 0 = b.getD 0 0
            · have e : decide (val a < val b) = false := by simp; omega
              rw [e]
              exact les_1 a b s t (bne_eq_false_iff_eq.2 h5) (bne_eq_false_iff_eq.2 h4) (bne_eq_false_iff_eq.2 h3) (bne_eq_false_iff_eq.2 h2) (bne_eq_false_iff_eq.2 h1) (bne_eq_false_iff_eq.2 h0)
            · have e : decide (val a < val b) = decide (a.getD 0 0 < b.getD 0 0) := by rw [decide_eq_decide]; omega
              rw [e]
              exact les5_1 a b s t (bne_eq_false_iff_eq.2 h5) (bne_eq_false_iff_eq.2 h4) (bne_eq_false_iff_eq.2 h3) (bne_eq_false_iff_eq.2 h2) (bne_eq_false_iff_eq.2 h1) (bne_iff_ne.2 h0)
          · have e : decide (val a < val b) = decide (a.getD 1 0 < b.getD 1 0) := by rw [decide_eq_decide]; omega
            rw [e]
            exact les4_1 a b s t (bne_eq_false_iff_eq.2 h5) (bne_eq_false_iff_eq.2 h4) (bne_eq_false_iff_eq.2 h3) (bne_eq_false_iff_eq.2 h2) (bne_iff_ne.2 h1)
        · have e : decide (val a < val b) = decide (a.getD 2 0 < b.getD 2 0) := by rw [decide_eq_decide]; omega
          rw [e]
          exact les3_1 a b s t (bne_eq_false_iff_eq.2 h5) (bne_eq_false_iff_eq.2 h4) (bne_eq_false_iff_eq.2 h3) (bne_iff_ne.2 h2)
      · have e : decide (val a < val b) = decide (a.getD 3 0 < b.getD 3 0) := by rw [decide_eq_decide]; omega
        rw [e]
        exact les2_1 a b s t (bne_eq_false_iff_eq.2 h5) (bne_eq_false_iff_eq.2 h4) (bne_iff_ne.2 h3)
    · have e : decide (val a < val b) = decide (a.getD 4 0 < b.getD 4 0) := by rw [decide_eq_decide]; omega
      rw [e]
      exact les1_1 a b s t (bne_eq_false_iff_eq.2 h5) (bne_iff_ne.2 h4)
  · have e : decide (val a < val b) = decide (a.getD 5 0 < b.getD 5 0) := by rw [decide_eq_decide]; omega
    rw [e]
    exact les0_1 a b s t (bne_iff_ne.2 h5)
theorem zero_does {a : List Int} (ha : Dig a) (s : Bool) : Does cE 55 [] 0 [.v (wv a s)] (.v (.bool (decide (val a = 0)))) [] 0 := by
  have va := val6 ha
  have a0 := rng_get ha.rng 0
  have a1 := rng_get ha.rng 1
  have a2 := rng_get ha.rng 2
  have a3 := rng_get ha.rng 3
  have a4 := rng_get ha.rng 4
  have a5 := rng_get ha.rng 5
  by_cases h : val a = 0
  · have e : decide (val a = 0) = true := by simpa using h
    rw [e]
    exact zer_1 a s (bne_eq_false_iff_eq.2 (by omega)) (bne_eq_false_iff_eq.2 (by omega)) (bne_eq_false_iff_eq.2 (by omega)) (bne_eq_false_iff_eq.2 (by omega)) (bne_eq_false_iff_eq.2 (by omega)) (bne_eq_false_iff_eq.2 (by omega))
  · have e : decide (val a = 0) = false := by simpa using h
    rw [e]
    by_cases h0 : a.getD 0 0 = 0
    · by_cases h1 : a.getD 1 0 = 0
      · by_cases h2 : a.getD 2 0 = 0
        · by_cases h3 : a.getD 3 0 = 0
          · by_cases h4 : a.getD 4 0 = 0
            · exact zer5_1 a s (bne_eq_false_iff_eq.2 h0) (bne_eq_false_iff_eq.2 h1) (bne_eq_false_iff_eq.2 h2) (bne_eq_false_iff_eq.2 h3) (bne_eq_false_iff_eq.2 h4) (bne_iff_ne.2 (by omega))
            · exact zer4_1 a s (bne_eq_false_iff_eq.2 h0) (bne_eq_false_iff_eq.2 h1) (bne_eq_false_iff_eq.2 h2) (bne_eq_false_iff_eq.2 h3) (bne_iff_ne.2 h4)
          · exact zer3_1 a s (bne_eq_false_iff_eq.2 h0) (bne_eq_false_iff_eq.2 h1) (bne_eq_false_iff_eq.2 h2) (bne_iff_ne.2 h3)
        · exact zer2_1 a s (bne_eq_false_iff_eq.2 h0) (bne_eq_false_iff_eq.2 h1) (bne_iff_ne.2 h2)
      · exact zer1_1 a s (bne_eq_false_iff_eq.2 h0) (bne_iff_ne.2 h1)
    · exact zer0_1 a s (bne_iff_ne.2 h0)
end Go.Proofs.YtcneenlcbjicnaaDoorC
