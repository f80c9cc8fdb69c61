/- What the program's functions on 128 bits come to: of, times, compare, plus, by, back, up, scales. -/
import Derived.Test.YtcneenlcbjicnaaDoorSE
import Derived.Test.YtcneenlcbjicnaaDoorPC2
namespace Go.Proofs.YtcneenlcbjicnaaDoorC
open Go.Proofs Go.Proofs.YtcneenlcbjicnaaDoorSx
set_option maxRecDepth 100000
set_option linter.unusedVariables false
theorem pof_does {n : Int} (hn : I64 n) : Does cE 44 [] 0 [.v (it n)] (.v (Bv (ab n) (ng n))) [] 0 := by
  have ha := ab_spec n
  have e1 : ab n / 18446744073709551616 = 0 := by omega
  have e2 : ab n % 18446744073709551616 = ab n := by omega
  unfold Bv
  rw [e1, e2]
  by_cases h : n < 0
  · have h1 := of_1 n (by simpa using h)
    have d : ng n = true := by simpa [ng] using h
    rw [wrap_abs hn h] at h1
    rw [d]
    exact h1
  · have h1 := of_2 n (by simpa using h)
    have d : ng n = false := by simpa [ng] using h
    rw [wrap_pos hn h] at h1
    rw [d]
    exact h1
theorem Bv_range {n : Int} (h0 : 0 ≤ n) (h1 : n < big128) : U64 (n / 18446744073709551616) ∧ U64 (n % 18446744073709551616) := by
  unfold big128 at h1
  unfold U64
  omega
theorem ptimes_does {x n : Int} (hx : 0 ≤ x) (hn : U64 n) (h : x * n < big128) (hxb : x < big128) (s : Bool) : Does cE 47 [] 0 [.v (Bv x s), .v (iu n)] (.v (Bv (x * n) s)) [] 0 := by
  obtain ⟨r1, r2⟩ := Bv_range hx hxb
  have h1 := times_1 (h := x / 18446744073709551616) (l := x % 18446744073709551616) (n := n) (s := s) (h0 := mul64_does r2 hn)
  have hx0 : x = 18446744073709551616 * (x / 18446744073709551616) + x % 18446744073709551616 := by omega
  unfold Bv
  generalize x / 18446744073709551616 = a at h1 hx0 r1 ⊢
  generalize x % 18446744073709551616 = b at h1 hx0 r2 ⊢
  have hm : x * n = 18446744073709551616 * (a * n) + b * n := by rw [hx0]; grind
  have p1 : 0 ≤ a * n := Int.mul_nonneg r1.1 hn.1
  have p2 : 0 ≤ b * n := Int.mul_nonneg r2.1 hn.1
  rw [hm]
  rw [hm] at h
  generalize a * n = A at h1 h p1
  generalize b * n = B at h1 h p2
  unfold big128 at h
  rw [wrU (x := A) p1 (by omega), wrU (x := B / 18446744073709551616 + A) (by omega) (by omega)] at h1
  have e1 : (18446744073709551616 * A + B) / 18446744073709551616 = B / 18446744073709551616 + A := by omega
  have e2 : (18446744073709551616 * A + B) % 18446744073709551616 = B % 18446744073709551616 := by omega
  rw [e1, e2]
  exact h1
/-! ### Order -/
def cmpI (x y : Int) : Int := if x < y then -1 else if x > y then 1 else 0
theorem cmp64_does (x y : Int) : Does cE 79 [] 0 [.v (iu x), .v (iu y)] (.v (it (cmpI x y))) [] 0 := by
  unfold cmpI
  by_cases h1 : x < y
  · rw [if_pos h1]
    exact cmp64_4 x y (by simp) (by simp) (by simpa using h1)
  · rw [if_neg h1]
    by_cases h2 : x > y
    · rw [if_pos h2]
      exact cmp64_5 x y (by simp) (by simp) (by simpa using h1) (by simpa using h2)
    · rw [if_neg h2]
      exact cmp64_6 x y (by simp) (by simp) (by simpa using h1) (by simpa using h2)
theorem or_does (x y : Int) : Does cE 78 [(0, .ro 3 ([x, y] : List Int) false)] 1 [.o 0] (.v (it (if x = 0 then y else x))) [] 1 := by
  refine Does.nil (T' := [(0, .ro 3 ([x, y] : List Int) false)]) ?_ rfl
  by_cases h1 : x = 0
  · rw [if_pos h1]
    by_cases h2 : y = 0
    · subst h1
      subst h2
      exact or2c_1 0 0 ⟨by decide, by simp⟩ (by simp) (by simp) ⟨by decide, by simp; decide⟩ (by simp; decide) (by rfl)
    · subst h1
      exact or2b_1 0 y ⟨by decide, by simp⟩ (by simp) (by simp) ⟨by decide, by simp; decide⟩ (by simp; decide) (bne_iff_ne.2 h2)
  · rw [if_neg h1]
    exact or2a_1 x y ⟨by decide, by simp⟩ (by simp) (bne_iff_ne.2 h1)
theorem cmp_split {x y : Int} : (if cmpI (x / 18446744073709551616) (y / 18446744073709551616) = 0 then cmpI (x % 18446744073709551616) (y % 18446744073709551616) else cmpI (x / 18446744073709551616) (y / 18446744073709551616)) = cmpI x y := by
  unfold cmpI
  by_cases h1 : x / 18446744073709551616 < y / 18446744073709551616
  · rw [if_pos h1, if_neg (by decide), if_pos (by omega)]
  · by_cases h2 : x / 18446744073709551616 > y / 18446744073709551616
    · rw [if_neg h1, if_pos h2, if_neg (by decide), if_neg (by omega), if_pos (by omega)]
    · rw [if_neg h1, if_neg h2, if_pos rfl]
      by_cases h3 : x < y
      · rw [if_pos h3, if_pos (by omega)]
      · by_cases h4 : x > y
        · rw [if_neg h3, if_pos h4, if_neg (by omega), if_pos (by omega)]
        · rw [if_neg h3, if_neg h4, if_neg (by omega), if_neg (by omega)]
theorem pcompare_does (x y : Int) (s t : Bool) : Does cE 62 [] 0 [.v (Bv x s), .v (Bv y t)] (.v (it (cmpI x y))) [] 0 := by
  rw [← cmp_split]
  exact cmpb_1 (s := s) (t := t) (h0 := cmp64_does _ _) (h1 := cmp64_does _ _) (h2 := or_does _ _)
/-! ### Sums -/
theorem pdiff {x y : Int} (hy : 0 ≤ y) (hle : y ≤ x) (hx : x < big128) (s : Bool) :
    bg (IntKind.u64.wrap (IntKind.u64.wrap (x / 18446744073709551616 - y / 18446744073709551616) - (if x % 18446744073709551616 < y % 18446744073709551616 then 1 else 0))) ((x % 18446744073709551616 - y % 18446744073709551616) % 18446744073709551616) s = Bv (x - y) s := by
  unfold big128 at hx
  have e1 : IntKind.u64.wrap (x / 18446744073709551616 - y / 18446744073709551616) = x / 18446744073709551616 - y / 18446744073709551616 := wrU (by omega) (by omega)
  rw [e1]
  have e2 : (x % 18446744073709551616 - y % 18446744073709551616) % 18446744073709551616 = (x - y) % 18446744073709551616 := by omega
  rw [e2]
  by_cases h : x % 18446744073709551616 < y % 18446744073709551616
  · rw [if_pos h, wrU (by omega) (by omega)]
    have e3 : x / 18446744073709551616 - y / 18446744073709551616 - 1 = (x - y) / 18446744073709551616 := by omega
    rw [e3]
  · rw [if_neg h, wrU (by omega) (by omega)]
    have e3 : x / 18446744073709551616 - y / 18446744073709551616 - 0 = (x - y) / 18446744073709551616 := by omega
    rw [e3]
theorem pplus_does {x y : Int} (hx : 0 ≤ x) (hy : 0 ≤ y) (h : x + y < big128) (s t : Bool) : Does cE 53 [] 0 [.v (Bv x s), .v (Bv y t)] (.v (Bv (addM x s y t).1 (addM x s y t).2)) [] 0 := by
  obtain ⟨a1, a2⟩ := Bv_range hx (by omega)
  obtain ⟨b1, b2⟩ := Bv_range hy (by omega)
  unfold addM
  by_cases hs : s = t
  · rw [if_pos hs]
    subst hs
    have h1 := plus_1 (h0 := (by simp : (s == s) = true)) (h1 := add64_does a2 b2) (h := x / 18446744073709551616) (g := y / 18446744073709551616)
    unfold big128 at h
    have e1 : IntKind.u64.wrap (x / 18446744073709551616 + y / 18446744073709551616) = x / 18446744073709551616 + y / 18446744073709551616 := wrU (by omega) (by omega)
    rw [e1, wrU (by omega) (by omega)] at h1
    have e2 : x / 18446744073709551616 + y / 18446744073709551616 + (x % 18446744073709551616 + y % 18446744073709551616) / 18446744073709551616 = (x + y) / 18446744073709551616 := by omega
    have e3 : (x % 18446744073709551616 + y % 18446744073709551616) % 18446744073709551616 = (x + y) % 18446744073709551616 := by omega
    rw [e2, e3] at h1
    exact h1
  · rw [if_neg hs]
    have hc := pcompare_does x y s t
    unfold cmpI at hc
    by_cases hlt : x < y
    · rw [if_pos hlt]
      rw [if_pos hlt] at hc
      have h1 := plus_2 (h0 := (by simpa using hs : (s == t) = false)) (h1 := hc) (h2 := by decide) (h3 := sub64_does b2 a2)
      have e := pdiff (x := y) (y := x) hx (by omega) (by omega) t
      unfold bg at e
      rw [e] at h1
      exact h1
    · rw [if_neg hlt]
      rw [if_neg hlt] at hc
      have h1 := plus_3 (h0 := (by simpa using hs : (s == t) = false)) (h1 := hc) (h2 := by split <;> decide) (h3 := sub64_does a2 b2)
      have e := pdiff (x := x) (y := y) hy (by omega) (by omega) s
      unfold bg at e
      rw [e] at h1
      exact h1
/-! ### Back, up, scales -/
theorem pback_does {x : Int} (h0 : 0 ≤ x) (h1 : x < big128) (s : Bool) (sc : Int) : Does cE 43 [] 0 [.v (Bv x s), .v (it sc)] (.v (ans (fitP x s sc))) [] 0 := by
  unfold big128 at h1
  by_cases hh : x / 18446744073709551616 = 0
  · have e2 : x % 18446744073709551616 = x := by omega
    unfold Bv fitP
    rw [hh, e2]
    cases s with
    | true =>
      by_cases hle : x ≤ 9223372036854775808
      · have h := back_2 0 x sc true rfl rfl (by simpa using hle)
        have e : IntKind.i64.wrap (IntKind.u64.wrap (0 - x)) = -x := by rw [wrapU, IntKind.wrap_i64]; omega
        rw [e] at h
        rw [if_pos (by unfold fits; simpa using hle)]
        exact h
      · have h := back_5 0 x sc true rfl rfl (by simpa using hle) rfl
        rw [if_neg (by unfold fits; simpa using hle)]
        exact h
    | false =>
      by_cases hle : x ≤ 9223372036854775807
      · have h := back_6 0 x sc false rfl rfl rfl (by simp; omega)
        rw [wrap64 (by omega) (by omega)] at h
        rw [if_pos (by unfold fits; simpa using hle)]
        exact h
      · have h := back_7 0 x sc false rfl rfl rfl (by simp; omega)
        rw [if_neg (by unfold fits; simpa using hle)]
        exact h
  · have h := back_1 (x / 18446744073709551616) (x % 18446744073709551616) sc s (bne_iff_ne.2 hh)
    have : ¬ fits x s := by unfold fits; cases s <;> simp <;> omega
    unfold fitP
    rw [if_neg this]
    exact h
theorem pow10_get : ∀ d : Fin 13, pow10.getD d.val 0 = 10 ^ d.val := by decide
theorem pup_does {u x sc : Int} (hu : I64 u) (d : Nat) (hd : d ≤ 12) (he : sc - x = d) : Does cE 42 [] 0 [.v (dc u x), .v (it sc)] (.v (Bv (ab u * 10 ^ d) (ng u))) [] 0 := by
  have ha := ab_spec u
  have hb := p10_bound (n := d) (by omega)
  have hm := mul_small (a := ab u) (b := 10 ^ d) (A := 9223372036854775808) (B := 1000000000000000000) (by omega) (by omega)
  have ew : IntKind.i64.wrap (sc - x) = (d : Int) := by rw [he, wrap64 (by omega) (by omega)]
  have hp := pow10_get ⟨d, by omega⟩
  simp only at hp
  have ht := ptimes_does (x := ab u) (n := 10 ^ d) (by omega) (by unfold U64; omega) (by unfold big128; omega) (by unfold big128; omega) (ng u)
  have h := fun g1 g2 g3 => up_1 (h0 := pof_does hu) (h1 := g1) (h2 := g2) (h3 := g3) (u := u) (x := x) (sc := sc) (i3 := ab u * 10 ^ d / 18446744073709551616) (i4 := ab u * 10 ^ d % 18446744073709551616) (b5 := ng u)
  rw [ew] at h
  have e3 : 0 + ((d : Int)).toNat * 1 = d := by omega
  rw [e3, hp] at h
  exact h ⟨by omega, by omega⟩ (by show d < 13; omega) ht
abbrev inS (x : Int) : Bool := decide (0 ≤ x ∧ x ≤ 6)
theorem sc_loop (l : List Int) (hl : l.length < 100) : ∀ (r i : Nat), i + r = l.length → ∀ m, Fin cE Tryd.f41 1 (.v (.bool ((l.drop i).all inS))) [(0, .ro 3 l false)] 1 (inK scK1 (m + r + 1)) ([.na, .na, .na, .na, .na, .o 0, .v (it l.length), .v (it i)] ++ List.replicate 10 .na) [(0, .ro 3 l false)] 1
  | 0, i, hi, m => by
    refine fin_round ?_
    rw [List.drop_of_length_le (by omega)]
    exact scb_4 l i m (by simp; omega)
  | r + 1, i, hi, m => by
    refine fin_round ?_
    have hlt : i < l.length := by omega
    have hd : l.drop i = l.getD i 0 :: l.drop (i + 1) := by
      rw [List.drop_eq_getElem_cons hlt]
      congr 1
      simp [List.getD, hlt]
    rw [hd, List.all_cons]
    by_cases h1 : l.getD i 0 < 0
    · have e : inS (l.getD i 0) = false := decide_eq_false (by omega)
      rw [e]
      exact scb_1 l i (m + (r + 1)) (by simp; omega) ⟨by omega, by omega⟩ hlt (by simpa using h1)
    · by_cases h2 : l.getD i 0 > 6
      · have e : inS (l.getD i 0) = false := decide_eq_false (by omega)
        rw [e]
        exact scb_2 l i (m + (r + 1)) (by simp; omega) ⟨by omega, by omega⟩ hlt (by simpa using h1) (by simpa using h2)
      · have e : inS (l.getD i 0) = true := decide_eq_true (by omega)
        rw [e, Bool.true_and]
        refine scb_3 l i (m + (r + 1)) _ _ _ (by simp; omega) ⟨by omega, by omega⟩ hlt (by simpa using h1) (by simpa using h2) ?_
        rw [step64 (by omega)]
        exact sc_loop l hl r (i + 1) (by omega) m
theorem scales_does (l : List Int) (hl : l.length < 100) : Does cE 41 [(0, .ro 3 l false)] 1 [.o 0] (.v (.bool (l.all inS))) [] 1 := by
  refine Does.nil (T' := [(0, .ro 3 l false)]) ?_ rfl
  refine does_of_fin (fn := Tryd.f41) (c := bd Tryd.f41) rfl (by kernel_rfl) rfl ?_
  refine sca_1 l _ _ _ ?_
  refine fin_loop (0 + l.length + 1) ?_
  exact sc_loop l hl l.length 0 (by omega) 0
end Go.Proofs.YtcneenlcbjicnaaDoorC
