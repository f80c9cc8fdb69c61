/- Numbers in six parts of 32 bits: what the reference's sum and difference of such numbers come to. -/
import Derived.Test.YtcneenlcbjicnaaDoorPB0
namespace Go.Proofs.YtcneenlcbjicnaaDoorC
open Go.Proofs Go.Proofs.YtcneenlcbjicnaaDoorSx
set_option maxRecDepth 100000
set_option linter.unusedVariables false
theorem wrapU (x : Int) : IntKind.u64.wrap x = x % 18446744073709551616 := by simp [IntKind.wrap, IntKind.bits, IntKind.signed]
theorem wrU {x : Int} (h0 : 0 ≤ x) (h1 : x < 18446744073709551616) : IntKind.u64.wrap x = x := by rw [wrapU]; omega
theorem wrap64 {n : Int} (h0 : -9223372036854775808 ≤ n) (h1 : n ≤ 9223372036854775807) : IntKind.i64.wrap n = n := by
  rw [IntKind.wrap_i64]
  omega
theorem step64 {i : Nat} (h : i < 9223372036854775807) : IntKind.i64.wrap ((i : Int) + 1) = ((i + 1 : Nat) : Int) := by rw [wrap64 (by omega) (by omega)]; rfl
def val : List Int → Int
  | [] => 0
  | x :: l => x + 4294967296 * val l
def dg : Nat → Int → List Int
  | 0, _ => []
  | k + 1, n => n % 4294967296 :: dg k (n / 4294967296)
def Rng (l : List Int) : Prop := ∀ x ∈ l, 0 ≤ x ∧ x < 4294967296
structure Dig (l : List Int) : Prop where
  len : l.length = 6
  rng : Rng l
theorem lt6 {a : List Int} (h : Dig a) {i : Nat} (hi : i < 6) : i.succ.le a.length := by rw [h.len]; exact hi
def V (l : List Int) (i : Nat) : Int := val (l.take i)
theorem val_app : ∀ (l r : List Int), val (l ++ r) = val l + 4294967296 ^ l.length * val r
  | [], r => by simp [val]
  | x :: l, r => by
    have ih := val_app l r
    simp only [List.cons_append, val, List.length_cons]
    rw [ih, Int.pow_succ]
    grind
theorem V_succ {l : List Int} {i : Nat} (h : i < l.length) : V l (i + 1) = V l i + 4294967296 ^ i * l.getD i 0 := by
  unfold V
  rw [List.take_add_one, List.getElem?_eq_getElem h, Option.toList_some, val_app]
  simp [val, List.getD, h, Nat.min_eq_left (Nat.le_of_lt h)]
theorem V_set {l : List Int} {i : Nat} {v : Int} (h : i < l.length) : V (l.set i v) (i + 1) = V l i + 4294967296 ^ i * v := by
  rw [V_succ (by simpa using h)]
  unfold V
  rw [List.take_set_of_le (Nat.le_refl i)]
  simp [List.getD, h]
theorem rng_set {l : List Int} {i : Nat} {v : Int} (h : Rng l) (hv : 0 ≤ v ∧ v < 4294967296) : Rng (l.set i v) := by
  intro x hx
  rcases List.mem_or_eq_of_mem_set hx with hx | rfl
  · exact h x hx
  · exact hv
theorem rng_get {l : List Int} (h : Rng l) (i : Nat) : 0 ≤ l.getD i 0 ∧ l.getD i 0 < 4294967296 := by
  by_cases hi : i < l.length
  · exact h _ (by simp [List.getD, hi])
  · simp [List.getD, List.getElem?_eq_none (Nat.le_of_not_lt hi)]
theorem val_rng : ∀ {l : List Int}, Rng l → 0 ≤ val l ∧ val l < 4294967296 ^ l.length
  | [], _ => by simp [val]
  | x :: l, h => by
    have ih := val_rng (l := l) fun y hy => h y (List.mem_cons_of_mem _ hy)
    have hx := h x List.mem_cons_self
    simp only [val, List.length_cons, Int.pow_succ]
    generalize (4294967296 : Int) ^ l.length = P at ih ⊢
    omega
theorem dg_val : ∀ {l : List Int}, Rng l → dg l.length (val l) = l
  | [], _ => rfl
  | x :: l, h => by
    have hx := h x List.mem_cons_self
    have ih := dg_val (l := l) fun y hy => h y (List.mem_cons_of_mem _ hy)
    simp only [val, List.length_cons, dg]
    have e1 : (x + 4294967296 * val l) % 4294967296 = x := by omega
    have e2 : (x + 4294967296 * val l) / 4294967296 = val l := by omega
    rw [e1, e2, ih]
theorem dg_len (k : Nat) : ∀ n, (dg k n).length = k := by
  induction k with
  | zero => intro n; rfl
  | succ k ih => intro n; simp [dg, ih]
theorem dg_rng (k : Nat) : ∀ n, Rng (dg k n) := by
  induction k with
  | zero => intro n x hx; simp [dg] at hx
  | succ k ih =>
    intro n x hx
    simp only [dg, List.mem_cons] at hx
    rcases hx with rfl | hx
    · omega
    · exact ih _ x hx
theorem dg_dig (n : Int) : Dig (dg 6 n) := ⟨dg_len 6 n, dg_rng 6 n⟩
theorem val_dg (k : Nat) : ∀ n : Int, 0 ≤ n → n < 4294967296 ^ k → val (dg k n) = n := by
  induction k with
  | zero => intro n h0 h1; simp [dg, val] at h1 ⊢; omega
  | succ k ih =>
    intro n h0 h1
    simp only [dg, val]
    rw [Int.pow_succ] at h1
    rw [ih (n / 4294967296) (by omega) (by
      generalize (4294967296 : Int) ^ k = P at h1 ⊢
      omega)]
    omega
theorem Dig.eq {l : List Int} (h : Dig l) : l = dg 6 (val l) := by
  have := dg_val h.rng
  rw [h.len] at this
  exact this.symm
theorem Dig.V6 {l : List Int} (h : Dig l) : V l 6 = val l := by
  unfold V
  rw [List.take_of_length_le (by rw [h.len]; exact Nat.le_refl _)]
/-- A wide number. -/
abbrev W (n : Int) (s : Bool) : Value := wv (dg 6 n) s
def big192 : Int := 6277101735386680763835789423207666416102355444464034512896
theorem big_pow : (4294967296 : Int) ^ 6 = big192 := by decide
theorem pre_wc {a : List Int} {s : Bool} (h : a.length = 6) : intPre IntKind.u64 (List.drop (0 + 0) (wc a s)) = a := by
  have e : intPre IntKind.u64 (List.drop (0 + 0) (wc a s)) = [a.getD 0 0, a.getD 1 0, a.getD 2 0, a.getD 3 0, a.getD 4 0, a.getD 5 0] := by rfl
  rw [e]
  match a, h with
  | [x0, x1, x2, x3, x4, x5], _ => rfl
theorem dig0 : Dig [0, 0, 0, 0, 0, 0] := ⟨rfl, fun x hx => by simp at hx; omega⟩
/-! ### Sums -/
abbrev lpS (c : Int) (i n : Nat) : List SV := ps4 ++ [.v (iu c), .v (it i)] ++ List.replicate n .na
theorem pl_loop {a b : List Int} (ha : Dig a) (hb : Dig b) (s t : Bool) : ∀ (r i : Nat) (o : List Int) (c : Int), i + r = 6 → Dig o → 0 ≤ c ∧ c ≤ 1 → V o i + 4294967296 ^ i * c = V a i + V b i → val a + val b < big192 → ∀ m,
    Fin cE Tryd.f58 0 (.v (W (val a + val b) false)) [] 0 (inK plK (m + r + 1)) (lpS c i 24) (wT a b o s t false) 4
  | 0, i, o, c, hi, ho, hc, hv, hlt, m => by
    refine fin_round ?_
    have h6 : i = 6 := by omega
    subst h6
    have h := plb_2 a b o s t c 6 m (by decide)
    rw [ho.V6, ha.V6, hb.V6] at hv
    have hr := val_rng ho.rng
    rw [ho.len, big_pow] at hr
    rw [big_pow] at hv
    have e : val a + val b = val o := by unfold big192 at *; omega
    rw [e, W, ← ho.eq]
    exact h
  | r + 1, i, o, c, hi, ho, hc, hv, hlt, m => by
    refine fin_round ?_
    have hi6 : i < 6 := by omega
    have h := plb_1 a b o s t c i (m + (r + 1)) (.v (W (val a + val b) false)) [] 0 (by simp; omega) ⟨by omega, by omega⟩
    rw [pre_wc ha.len, pre_wc hb.len, pre_wc ho.len, step64 (by omega)] at h
    have ra := rng_get ha.rng i
    have rb := rng_get hb.rng i
    have va := V_succ (l := a) (i := i) (by rw [ha.len]; omega)
    have vb := V_succ (l := b) (i := i) (by rw [hb.len]; omega)
    generalize a.getD i 0 = x at h ra va
    generalize b.getD i 0 = y at h rb vb
    rw [wrU (x := c + x) (by omega) (by omega), wrU (x := c + x + y) (by omega) (by omega), Int.tdiv_eq_ediv_of_nonneg (a := c + x + y) (by omega), Int.tmod_eq_emod_of_nonneg (a := c + x + y) (by omega), wrU (x := (c + x + y) / 4294967296) (by omega) (by omega)] at h
    refine h (lt6 ha hi6) (lt6 hb hi6) (lt6 ho hi6) ?_
    have hset := V_set (l := o) (i := i) (v := (c + x + y) % 4294967296) (by rw [ho.len]; omega)
    refine pl_loop ha hb s t r (i + 1) (o.set i ((c + x + y) % 4294967296)) ((c + x + y) / 4294967296) (by omega) ⟨by simp [ho.len], rng_set ho.rng (by omega)⟩ (by omega) ?_ hlt m
    rw [hset, va, vb, Int.pow_succ]
    have hdm := Int.emod_add_mul_ediv (c + x + y) 4294967296
    generalize (c + x + y) % 4294967296 = u at hdm
    generalize (c + x + y) / 4294967296 = v at hdm
    generalize (4294967296 : Int) ^ i = P at hv
    grind
theorem plus_does {a b : List Int} (ha : Dig a) (hb : Dig b) (s t : Bool) (h : val a + val b < big192) : Does cE 58 [] 0 [.v (wv a s), .v (wv b t)] (.v (W (val a + val b) false)) [] 0 := by
  refine does_of_fin (fn := Tryd.f58) (c := bd Tryd.f58) rfl (by kernel_rfl) rfl ?_
  refine pla_1 a b s t _ _ _ ?_
  refine fin_loop (0 + 6 + 1) ?_
  have := pl_loop ha hb s t 6 0 [0, 0, 0, 0, 0, 0] 0 (by omega) dig0 (by omega) (by simp [V, val]) h 0
  exact this
/-! ### Differences -/
theorem mi_loop {a b : List Int} (ha : Dig a) (hb : Dig b) (s t : Bool) : ∀ (r i : Nat) (o : List Int) (c : Int), i + r = 6 → Dig o → 0 ≤ c ∧ c ≤ 1 → V o i + V b i = V a i + 4294967296 ^ i * c → val b ≤ val a → ∀ m,
    Fin cE Tryd.f68 0 (.v (W (val a - val b) false)) [] 0 (inK miK (m + r + 1)) (lpS c i 27) (wT a b o s t false) 4
  | 0, i, o, c, hi, ho, hc, hv, hlt, m => by
    refine fin_round ?_
    have h6 : i = 6 := by omega
    subst h6
    have h := mib_2 a b o s t c 6 m (by decide)
    rw [ho.V6, ha.V6, hb.V6] at hv
    have hr := val_rng ho.rng
    rw [ho.len, big_pow] at hr
    rw [big_pow] at hv
    have e : val a - val b = val o := by unfold big192 at *; omega
    rw [e, W, ← ho.eq]
    exact h
  | r + 1, i, o, c, hi, ho, hc, hv, hlt, m => by
    refine fin_round ?_
    have hi6 : i < 6 := by omega
    have h := mib_1 a b o s t c i (m + (r + 1)) (.v (W (val a - val b) false)) [] 0 (by simp; omega) ⟨by omega, by omega⟩
    rw [pre_wc ha.len, pre_wc hb.len, pre_wc ho.len, step64 (by omega)] at h
    have ra := rng_get ha.rng i
    have rb := rng_get hb.rng i
    have va := V_succ (l := a) (i := i) (by rw [ha.len]; omega)
    have vb := V_succ (l := b) (i := i) (by rw [hb.len]; omega)
    generalize a.getD i 0 = x at h ra va
    generalize b.getD i 0 = y at h rb vb
    rw [wrU (x := x + 4294967296) (by omega) (by omega), wrU (x := x + 4294967296 - y) (by omega) (by omega), wrU (x := x + 4294967296 - y - c) (by omega) (by omega), Int.tdiv_eq_ediv_of_nonneg (a := x + 4294967296 - y - c) (by omega), Int.tmod_eq_emod_of_nonneg (a := x + 4294967296 - y - c) (by omega),
      wrU (x := (x + 4294967296 - y - c) / 4294967296) (by omega) (by omega), wrU (x := 1 - (x + 4294967296 - y - c) / 4294967296) (by omega) (by omega)] at h
    refine h (lt6 ha hi6) (lt6 hb hi6) (lt6 ho hi6) ?_
    have hset := V_set (l := o) (i := i) (v := (x + 4294967296 - y - c) % 4294967296) (by rw [ho.len]; omega)
    refine mi_loop ha hb s t r (i + 1) (o.set i ((x + 4294967296 - y - c) % 4294967296)) (1 - (x + 4294967296 - y - c) / 4294967296) (by omega) ⟨by simp [ho.len], rng_set ho.rng (by omega)⟩ (by omega) ?_ hlt m
    rw [hset, va, vb, Int.pow_succ]
    have hdm := Int.emod_add_mul_ediv (x + 4294967296 - y - c) 4294967296
    generalize (x + 4294967296 - y - c) % 4294967296 = u at hdm
    generalize (x + 4294967296 - y - c) / 4294967296 = v at hdm
    generalize (4294967296 : Int) ^ i = P at hv
    grind
theorem minus_does {a b : List Int} (ha : Dig a) (hb : Dig b) (s t : Bool) (h : val b ≤ val a) : Does cE 68 [] 0 [.v (wv a s), .v (wv b t)] (.v (W (val a - val b) false)) [] 0 := by
  refine does_of_fin (fn := Tryd.f68) (c := bd Tryd.f68) rfl (by kernel_rfl) rfl ?_
  refine mia_1 a b s t _ _ _ ?_
  refine fin_loop (0 + 6 + 1) ?_
  exact mi_loop ha hb s t 6 0 [0, 0, 0, 0, 0, 0] 0 (by omega) dig0 (by omega) (by simp [V, val]) h 0
end Go.Proofs.YtcneenlcbjicnaaDoorC
