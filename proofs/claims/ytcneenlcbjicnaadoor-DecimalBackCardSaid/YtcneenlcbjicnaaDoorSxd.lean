/- The symbolic machine's single steps: slices of slices, places, lengths, appends, literals, strings of bytes. -/
import Derived.Test.YtcneenlcbjicnaaDoorSxc
set_option linter.unusedVariables false
set_option linter.unusedSimpArgs false
namespace Go.Proofs.YtcneenlcbjicnaaDoorSx
open Go.RowKit Go.Proofs.YtcneenlcbjicnaaDoorW.PrintLast Go.Proofs.YtcneenlcbjicnaaDoorW.PrintWords
noncomputable section
section
variable {E : Env} {S : Nat → Prop} {w0 w w' : World} {U : Nat → Prop} {μ : Nat → Value} {b : Tab E} {key : Nat}

/-! ### Slices of slices, strings -/
def intS : SV → Option Int
  | .v (.int _ z) => some z
  | _ => none
/-- A bound that stands there, or the one that Go takes. -/
def bndS (x : Option SV) (z : Int) : Option Int := match x with
  | none => some z
  | some s => intS s
def Bnd (U : Nat → Prop) (μ : Nat → Value) : Option SV → Option Value → Prop
  | none, none => True
  | some s, some u => rel U μ s u
  | _, _ => False
theorem intS_rel {s : SV} {u : Value} {z : Int} (h : rel U μ s u) (hz : intS s = some z) : ∃ k, u = .int k z := by
  unfold intS at hz
  split at hz
  · rename_i k z'
    simp only [Option.some.injEq] at hz
    subst hz
    exact ⟨k, rel_v.1 h⟩
  · cases hz
theorem run_bounds {P : Program} {t : Bool} {lo hi : Option SV} {ulo uhi : Option Value} {n cap : Nat} {a c : Int} (h1 : Bnd U μ lo ulo) (h2 : Bnd U μ hi uhi) (ha : bndS lo 0 = some a) (hc : bndS hi n = some c) (h : 0 ≤ a ∧ a ≤ c ∧ c ≤ cap) :
    (Instr.sliceBounds t n cap ulo uhi none).run P w = .ok (a.toNat, c.toNat, cap) w := by
  obtain ⟨h0, h3, h4⟩ := h
  have ec : (c.toNat : Int) = c := Int.toNat_of_nonneg (by omega)
  cases lo with
  | none =>
    cases ulo with
    | some u => exact h1.elim
    | none =>
      simp only [bndS, Option.some.injEq] at ha
      subst ha
      cases hi with
      | none =>
        cases uhi with
        | some u => exact h2.elim
        | none =>
          simp only [bndS, Option.some.injEq] at hc
          subst hc
          simp [Instr.sliceBounds]
      | some s =>
        cases uhi with
        | none => exact h2.elim
        | some u =>
          obtain ⟨k, rfl⟩ := intS_rel h2 hc
          simp [Instr.sliceBounds, run_sliceBound, h4, (by omega : 0 ≤ c)]
  | some s =>
    cases ulo with
    | none => exact h1.elim
    | some u =>
      obtain ⟨k, rfl⟩ := intS_rel h1 ha
      cases hi with
      | none =>
        cases uhi with
        | some u => exact h2.elim
        | none =>
          simp only [bndS, Option.some.injEq] at hc
          subst hc
          simp [Instr.sliceBounds, run_sliceBound, h0, h3]
      | some s' =>
        cases uhi with
        | none => exact h2.elim
        | some u' =>
          obtain ⟨k', rfl⟩ := intS_rel h2 hc
          simp [Instr.sliceBounds, run_sliceBound, h0, h3, h4, ec, (by omega : 0 ≤ c)]
def xSlice (b : Tab E) (key : Nat) (t : TypeId) (x : SV) (lo hi : Option SV) (d : List (Dec E)) : Option (Res E) := match E.P.underlying t with
  | some (.slice e) => match E.P.info? e with
    | some i => match x with
      | .o k => match look b k with
        | some x => match rowOf x with
          | some ⟨e', l⟩ => bif Nat.beq i.size (E.fm e').sz then (match bndS lo 0, bndS hi l.length with
            | some a, some c => some ⟨.s k (E.fm e').sz a.toNat (c.toNat - a.toNat), [], key, [0 ≤ a ∧ a ≤ c ∧ c ≤ l.length], d⟩
            | _, _ => none) else none
          | none => none
        | none => none
      | .s k sz lo0 n0 => match look b k with
        | some x => match rowOf x with
          | some ⟨e', l⟩ => bif Nat.beq i.size sz then (match bndS lo 0, bndS hi n0 with
            | some a, some c => some ⟨.s k sz (lo0 + a.toNat) (c.toNat - a.toNat), [], key, [0 ≤ a ∧ a ≤ c ∧ lo0 + c ≤ l.length], d⟩
            | _, _ => none) else none
          | none => none
        | none => none
      | _ => none
    | none => none
  | some .string => match x with
    | .v (.string s) => match bndS lo 0, bndS hi s.size with
      | some a, some c => some ⟨.v (.string (s.extract a.toNat c.toNat)), [], key, [0 ≤ a ∧ a ≤ c ∧ c ≤ s.size], d⟩
      | _, _ => none
    | _ => none
  | _ => none
theorem run_slice_row {P : Program} {t e : TypeId} {i : TypeInfo} (ht : P.underlying t = some (.slice e)) (hi : P.info? e = some i) {ao : Option Addr} {n cap : Nat} {lo hi' : Option SV} {ulo uhi : Option Value} {a c : Int}
    (h1 : Bnd U μ lo ulo) (h2 : Bnd U μ hi' uhi) (ha : bndS lo 0 = some a) (hc : bndS hi' n = some c) (h : 0 ≤ a ∧ a ≤ c ∧ c ≤ cap) :
    (Instr.sliceAt t (.slice ao n cap) ulo uhi none).run P w = .ok (.slice (if cap = a.toNat then ao else ao.map (·.add (a.toNat * i.size))) (c.toNat - a.toNat) (cap - a.toNat)) w := by
  simp [Instr.sliceAt, run_underlying ht, Instr.slice, run_bounds h1 h2 ha hc h, sizeOf, typeInfo, hi]
theorem xSlice_ok {t : TypeId} {x : SV} {lo hi : Option SV} {d : List (Dec E)} {R : Res E} (h : xSlice b key t x lo hi d = some R) (hcn : Conj R.c) (hm : Mem S w0 U μ b w) {ux : Value} {ulo uhi : Option Value}
    (hx : rel U μ x ux) (h1 : Bnd U μ lo ulo) (h2 : Bnd U μ hi uhi) : Good S w0 U μ b key R ((Instr.sliceAt t ux ulo uhi none).run E.P w) := by
  unfold xSlice at h
  split at h
  · rename_i e ht
    cases hi' : E.P.info? e with
    | none => simp [hi'] at h
    | some i =>
    simp only [hi'] at h
    cases x with
    | o k =>
      simp only at h
      split at h
      · rename_i x hk
        split at h
        · rename_i e' l hro
          cases hz : Nat.beq i.size (E.fm e').sz with
          | false => simp [hz] at h
          | true =>
            have hsz := Nat.eq_of_beq_eq_true hz
            simp only [hz, cond_true] at h
            split at h
            · rename_i a c ha hc
              simp only [Option.some.injEq] at h
              subst h
              obtain ⟨c0, c1, c2⟩ : 0 ≤ a ∧ a ≤ c ∧ c ≤ l.length := hcn
              unfold rel at hx
              obtain ⟨hU, hx, _⟩ := hx
              rcases row_reads hm hk hro with ⟨r1, r2⟩ | ⟨r2, ad, cc, r1⟩ | ⟨g, o, cap, r1, r2, r3, r4⟩
              · have hrun := run_slice_row (P := E.P) (w := w) (cap := 0) (ao := none) ht hi' h1 h2 ha (by rw [r2] at hc; exact hc) ⟨c0, c1, by omega⟩
                refine good_plain hm (by rw [hx, r1]; exact hrun) ?_
                unfold rel
                refine ⟨hU, .inl ⟨r1, ?_, by omega, by omega⟩⟩
                have e1 : c.toNat - a.toNat = 0 := by omega
                rw [e1]
                simp
              · have hrun := run_slice_row (P := E.P) (w := w) (cap := cc) (ao := some ad) ht hi' h1 h2 ha (by rw [r2] at hc; exact hc) ⟨c0, c1, by omega⟩
                refine good_plain hm (by rw [hx, r1]; exact hrun) ?_
                unfold rel
                have e0 : a.toNat = 0 := by omega
                have e1 : c.toNat - a.toNat = 0 := by omega
                refine ⟨hU, .inr (.inl ⟨ad, cc, r1, ?_, by omega, by omega⟩)⟩
                rw [e1, e0]
                by_cases hcc : cc = 0
                · simp [hcc]
                · simp [hcc, Addr.add]
              · have hrun := run_slice_row (P := E.P) (w := w) (cap := cap) (ao := some ⟨g, o, none⟩) ht hi' h1 h2 ha hc ⟨c0, c1, by omega⟩
                refine good_plain hm (by rw [hx, r1]; exact hrun) ?_
                unfold rel
                refine ⟨hU, .inr (.inr ⟨g, o, l.length, cap, if cap = a.toNat then o else o + a.toNat * (E.fm e').sz, r1, ?_, ?_, by omega⟩)⟩
                · rw [hsz]
                  split <;> simp [addr_add]
                · split
                  · rename_i h0
                    by_cases hz0 : a.toNat = 0
                    · right; rw [hz0]; simp
                    · left; exact ⟨h0, hz0⟩
                  · right; rfl
            · cases h
        · cases h
      · cases h
    | s k sz lo0 n0 =>
      simp only at h
      split at h
      · rename_i x hk
        split at h
        · rename_i e' l hro
          cases hz : Nat.beq i.size sz with
          | false => simp [hz] at h
          | true =>
            have hsz := Nat.eq_of_beq_eq_true hz
            simp only [hz, cond_true] at h
            split at h
            · rename_i a c ha hc
              simp only [Option.some.injEq] at h
              subst h
              obtain ⟨c0, c1, c2⟩ : 0 ≤ a ∧ a ≤ c ∧ lo0 + c ≤ l.length := hcn
              unfold rel at hx
              obtain ⟨hU, hx⟩ := hx
              rcases hx with ⟨r1, e1, e2, e3⟩ | ⟨ad, cc, r1, e1, e2, e3⟩ | ⟨g', o1, len, cap', o', e1, e2, e3, e4⟩
              · have hl0 : l.length = 0 := by
                  rcases row_reads hm hk hro with ⟨_, q⟩ | ⟨q, _⟩ | ⟨g, o, cap, q, _⟩
                  · exact q
                  · exact q
                  · rw [q] at r1; cases r1
                have hrun := run_slice_row (P := E.P) (w := w) (cap := 0) (ao := none) ht hi' h1 h2 ha (by rw [e3] at hc; exact hc) ⟨c0, c1, by omega⟩
                refine good_plain hm (by rw [e1]; exact hrun) ?_
                unfold rel
                refine ⟨hU, .inl ⟨r1, ?_, by omega, by omega⟩⟩
                have e1 : c.toNat - a.toNat = 0 := by omega
                rw [e1]
                simp
              · have hl0 : l.length = 0 := by
                  rcases row_reads hm hk hro with ⟨_, q⟩ | ⟨q, _⟩ | ⟨g, o, cap, q, _⟩
                  · exact q
                  · exact q
                  · rw [q] at r1
                    simp only [Value.slice.injEq] at r1
                    exact r1.2.1
                have hrun := run_slice_row (P := E.P) (w := w) (cap := cc) (ao := some ad) ht hi' h1 h2 ha (by rw [e3] at hc; exact hc) ⟨c0, c1, by omega⟩
                refine good_plain hm (by rw [e1]; exact hrun) ?_
                unfold rel
                have f0 : a.toNat = 0 := by omega
                have f1 : c.toNat - a.toNat = 0 := by omega
                refine ⟨hU, .inr (.inl ⟨ad, cc, r1, ?_, by omega, by omega⟩)⟩
                rw [f1, f0]
                by_cases hcc : cc = 0
                · simp [hcc]
                · simp [hcc, Addr.add]
              · rcases row_reads hm hk hro with ⟨r1, r2⟩ | ⟨r2, ad, cc, r1⟩ | ⟨g, o, cap, r1, r2, r3, r4⟩
                · rw [r1] at e1; cases e1
                · rw [r1] at e1
                  simp only [Value.slice.injEq, Option.some.injEq] at e1
                  have hrun := run_slice_row (P := E.P) (w := w) (cap := cap' - lo0) (ao := some ⟨g', o', none⟩) ht hi' h1 h2 ha hc ⟨c0, c1, by omega⟩
                  have f0 : a.toNat = 0 := by omega
                  have f2 : lo0 = 0 := by omega
                  have f3 : o' = o1 := by
                    rcases e3 with e3 | e3
                    · omega
                    · rw [e3, f2]; simp
                  refine good_plain hm (by rw [e2]; exact hrun) ?_
                  unfold rel
                  refine ⟨hU, .inr (.inl ⟨⟨g', o1, none⟩, cap', by rw [r1, e1.1, e1.2.2], ?_, by omega, by omega⟩)⟩
                  have f1 : c.toNat - a.toNat = 0 := by omega
                  rw [f1, f0, f2, f3]
                  by_cases hcc : cap' = 0
                  · simp [hcc]
                  · simp [hcc, Addr.add]
                · rw [r1] at e1
                  cases e1
                  have hrun := run_slice_row (P := E.P) (w := w) (cap := cap' - lo0) (ao := some ⟨g', o', none⟩) ht hi' h1 h2 ha hc ⟨c0, c1, by omega⟩
                  refine good_plain hm (by rw [e2]; exact hrun) ?_
                  unfold rel
                  refine ⟨hU, .inr (.inr ⟨g', o1, l.length, cap', if cap' - lo0 = a.toNat then o' else o' + a.toNat * sz, r1, ?_, ?_, by omega⟩)⟩
                  · rw [hsz, Nat.sub_sub]
                    split <;> simp [addr_add]
                  · by_cases hz0 : a.toNat = 0
                    · rw [hz0]
                      simp only [Nat.zero_mul, Nat.add_zero, ite_self]
                      exact e3
                    · split
                      · left; omega
                      · rcases e3 with e3 | e3
                        · omega
                        · right
                          rw [e3, Nat.add_mul]
                          omega
            · cases h
        · cases h
      · cases h
    | _ => simp at h
  · rename_i ht
    split at h
    · rename_i s
      split at h
      · rename_i a c ha hc
        simp only [Option.some.injEq] at h
        subst h
        have hcn' : 0 ≤ a ∧ a ≤ c ∧ c ≤ s.size := hcn
        have hb := run_bounds (P := E.P) (w := w) (t := false) h1 h2 ha hc hcn'
        have hmx : (none : Option Value).isSome = false := rfl
        refine good_plain hm ?_ (rel_v.2 rfl)
        rw [rel_v.1 hx]
        simp [Instr.sliceAt, run_underlying ht, Instr.slice, hb]
      · cases h
    · cases h
  · cases h

/-! ### Places -/
def NeedI (z : Int) : Prop := False
def xIndexAddr (b : Tab E) (key : Nat) (t : TypeId) (x ix : SV) (d : List (Dec E)) : Option (Res E) := match intS ix with
  | none => none
  | some z => match E.P.underlying t with
    | some (.slice e) => match E.P.info? e with
      | some i => match x with
        | .o k => match look b k with
          | some x => match rowOf x with
            | some ⟨e', l⟩ => bif Nat.beq i.size (E.fm e').sz then some ⟨.q k (E.fm e').sz z.toNat 0, [], key, [0 ≤ z ∧ z < l.length], d⟩ else none
            | none => none
          | none => none
        | .s k sz lo n => bif Nat.beq i.size sz then some ⟨.q k sz (lo + z.toNat) 0, [], key, [0 ≤ z ∧ z < n], d⟩ else none
        | .sb k lo n cap => some ⟨.p k (lo + z.toNat * i.size), [], key, [0 ≤ z ∧ z < n], d⟩
        | _ => none
      | none => none
    | some (.array n e) => match E.P.info? e with
      | some i => match x with
        | .p k off => match d with
          | .x :: r => bif Nat.beq i.size 1 then some ⟨.q k 1 z.toNat off, [], key, [0 ≤ z ∧ z < n], r⟩ else none
          | .l :: r => some ⟨.p k (off + z.toNat * i.size), [], key, [0 ≤ z ∧ z < n], r⟩
          | [] => some ⟨.p k off, [], key, [NeedI z], []⟩
          | _ => none
        | .v (.pointer (some ⟨g, off, none⟩)) => some ⟨.v (.pointer (some ⟨g, off + z.toNat * i.size, none⟩)), [], key, [0 ≤ z ∧ z < n], d⟩
        | _ => none
      | none => none
    | _ => none
theorem run_indexAt_slice {P : Program} {t e : TypeId} {i : TypeInfo} (ht : P.underlying t = some (.slice e)) (hi : P.info? e = some i) {g o n cap : Nat} {ki : IntKind} {z : Int} (h : 0 ≤ z ∧ z < n) :
    (Instr.indexAt t (.slice (some ⟨g, o, none⟩) n cap) (.int ki z)).run P w = .ok (.pointer (some ⟨g, o + z.toNat * i.size, none⟩)) w := by
  simp [Instr.indexAt, asIntOf, run_underlying ht, sizeOf, typeInfo, hi, h.1, h.2, addr_add]
theorem xIndexAddr_ok {t : TypeId} {x ix : SV} {d : List (Dec E)} {R : Res E} (h : xIndexAddr b key t x ix d = some R) (hcn : Conj R.c) (hm : Mem S w0 U μ b w) {ux ui : Value} (hx : rel U μ x ux) (hix : rel U μ ix ui) :
    Good S w0 U μ b key R ((Instr.indexAt t ux ui).run E.P w) := by
  unfold xIndexAddr at h
  cases hz : intS ix with
  | none => simp [hz] at h
  | some z =>
  obtain ⟨ki, rfl⟩ := intS_rel hix hz
  simp only [hz] at h
  split at h
  · rename_i e ht
    cases hi : E.P.info? e with
    | none => simp [hi] at h
    | some i =>
    simp only [hi] at h
    cases x with
    | o k =>
      simp only at h
      split at h
      · rename_i x hk
        split at h
        · rename_i e' l hro
          cases hb : Nat.beq i.size (E.fm e').sz with
          | false => simp [hb] at h
          | true =>
            have hsz := Nat.eq_of_beq_eq_true hb
            simp only [hb, cond_true, Option.some.injEq] at h
            subst h
            have hcn' : 0 ≤ z ∧ z < l.length := hcn
            unfold rel at hx
            obtain ⟨hU, hx, _⟩ := hx
            rcases row_reads hm hk hro with ⟨r1, r2⟩ | ⟨r2, _⟩ | ⟨g, o, cap, r1, r2, r3, r4⟩
            · omega
            · omega
            · refine good_plain hm (by rw [hx, r1]; exact run_indexAt_slice ht hi hcn') ?_
              unfold rel
              exact ⟨hU, g, o, by rw [r1]; rfl, by rw [hsz, Nat.add_zero]⟩
        · cases h
      · cases h
    | s k sz lo n =>
      simp only at h
      cases hb : Nat.beq i.size sz with
      | false => simp [hb] at h
      | true =>
        have hsz := Nat.eq_of_beq_eq_true hb
        simp only [hb, cond_true, Option.some.injEq] at h
        subst h
        have hcn' : 0 ≤ z ∧ z < n := hcn
        unfold rel at hx
        obtain ⟨hU, hx⟩ := hx
        rcases hx with ⟨_, _, _, e3⟩ | ⟨_, _, _, _, _, e3⟩ | ⟨g, o1, len, cap, o', e1, e2, e3, e4⟩
        · omega
        · omega
        · refine good_plain hm (by rw [e2]; exact run_indexAt_slice ht hi hcn') ?_
          unfold rel
          refine ⟨hU, g, o1, by rw [e1]; rfl, ?_⟩
          have : o' = o1 + lo * sz := by
            rcases e3 with e3 | e3
            · omega
            · exact e3
          rw [this, hsz, Nat.add_mul]
          congr 3
          omega
    | sb k lo n cap =>
      simp only [Option.some.injEq] at h
      subst h
      have hcn' : 0 ≤ z ∧ z < n := hcn
      unfold rel at hx
      obtain ⟨hU, g, h1, hx⟩ := hx
      refine good_plain hm (by rw [hx]; exact run_indexAt_slice ht hi hcn') ?_
      unfold rel
      exact ⟨hU, g, h1, rfl⟩
    | _ => simp at h
  · rename_i n e ht
    cases hi : E.P.info? e with
    | none => simp [hi] at h
    | some i =>
    simp only [hi] at h
    cases x with
    | p k off =>
      have hrun : ∀ g, 0 ≤ z ∧ z < n → (Instr.indexAt t (.pointer (some ⟨g, off, none⟩)) (.int ki z)).run E.P w = .ok (.pointer (some ⟨g, off + z.toNat * i.size, none⟩)) w := by
        intro g hcn'
        simp [Instr.indexAt, asIntOf, run_underlying ht, Instr.sureAddr, sizeOf, typeInfo, hi, hcn'.1, hcn'.2, addr_add]
      unfold rel at hx
      obtain ⟨hU, g, h1, hx⟩ := hx
      simp only at h
      split at h
      · rename_i r
        cases hb : Nat.beq i.size 1 with
        | false => simp [hb] at h
        | true =>
          have hsz := Nat.eq_of_beq_eq_true hb
          simp only [hb, cond_true, Option.some.injEq] at h
          subst h
          have hcn' : 0 ≤ z ∧ z < n := hcn
          refine good_plain hm (by rw [hx]; exact hrun g hcn') ?_
          unfold rel
          refine ⟨hU, g, 0, by rw [h1]; rfl, ?_⟩
          have e4 : off + z.toNat * i.size = 0 + (z.toNat * 1 + off) := by rw [hsz]; omega
          rw [e4]
      · simp only [Option.some.injEq] at h
        subst h
        have hcn' : 0 ≤ z ∧ z < n := hcn
        refine good_plain hm (by rw [hx]; exact hrun g hcn') ?_
        unfold rel
        exact ⟨hU, g, h1, rfl⟩
      · simp only [Option.some.injEq] at h
        subst h
        exact absurd hcn (by simp [Conj, NeedI])
      · cases h
    | v xv =>
      split at h <;> try contradiction
      rename_i g off heq
      cases heq
      simp only [Option.some.injEq] at h
      subst h
      have hcn' : 0 ≤ z ∧ z < n := hcn
      rw [rel_v.1 hx]
      refine good_plain hm (u := .pointer (some ⟨g, off + z.toNat * i.size, none⟩)) ?_ (rel_v.2 rfl)
      simp [Instr.indexAt, asIntOf, run_underlying ht, Instr.sureAddr, sizeOf, typeInfo, hi, hcn'.1, hcn'.2, addr_add]
    | _ => simp at h
  · cases h
/-! ### Lengths -/
def lenS (b : Tab E) : SV → Option Nat
  | .o k => match look b k with
    | some x => match rowOf x with
      | some ⟨e, l⟩ => some l.length
      | none => none
    | none => none
  | .s _ _ _ n => some n
  | .sb _ _ n _ => some n
  | _ => none
theorem lenS_ok {x : SV} {n : Nat} (h : lenS b x = some n) (hm : Mem S w0 U μ b w) {ux : Value} (hx : rel U μ x ux) : ∃ a cap, ux = .slice a n cap := by
  unfold lenS at h
  split at h
  · rename_i k
    split at h
    · rename_i x hk
      split at h
      · rename_i e l hro
        simp only [Option.some.injEq] at h
        subst h
        unfold rel at hx
        rcases row_reads hm hk hro with ⟨r1, r2⟩ | ⟨r2, ad, cc, r1⟩ | ⟨g, o, cap, r1, _⟩
        · exact ⟨none, 0, by rw [hx.2.1, r1, r2]⟩
        · exact ⟨_, _, by rw [hx.2.1, r1, r2]⟩
        · exact ⟨_, _, by rw [hx.2.1, r1]⟩
      · cases h
    · cases h
  · rename_i k sz lo n'
    simp only [Option.some.injEq] at h
    subst h
    unfold rel at hx
    rcases hx.2 with ⟨_, e, _, e'⟩ | ⟨ad, cc, _, e, _, e'⟩ | ⟨g, o, len, cap, o', _, e, _⟩
    · exact ⟨none, 0, by rw [e, e']⟩
    · exact ⟨_, _, by rw [e, e']⟩
    · exact ⟨_, _, e⟩
  · rename_i k lo n' cap
    simp only [Option.some.injEq] at h
    subst h
    unfold rel at hx
    obtain ⟨_, g, _, h1⟩ := hx
    exact ⟨_, _, h1⟩
  · cases h
end
end
end Go.Proofs.YtcneenlcbjicnaaDoorSx
