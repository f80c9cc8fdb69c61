import Derived.Test.YtpfignfgfhbblaaGreatDoorMu01
import Derived.Deep.DeepAppendWide
/- The symbolic machine's single steps: slices of slices, places, lengths, appends, literals, strings of bytes. -/
set_option linter.unusedVariables false
set_option linter.unusedSimpArgs false
namespace Go.Proofs.YtpfignfgfhbblaaGreatDoorSx
open Go.RowKit Go.Proofs.YtpfignfgfhbblaaGreatDoorW.PrintLast Go.Proofs.YtpfignfgfhbblaaGreatDoorW.PrintWords
noncomputable section
section
variable {E : Env} {S : Nat → Prop} {w0 w w' : World} {U : Nat → Prop} {μ : Nat → Value} {b : Tab E} {key : Nat}

/-! ### Slices of slices, strings -/
def intS : SV → Option Int
  | .v (.int _ z) => some z
  | _ => none
/-- A bound that stands there, or the one that Go takes. -/
def bndS (x : Option SV) (z : Int) : Option Int := match x with
  | none => some z
  | some s => intS s
def Bnd (U : Nat → Prop) (μ : Nat → Value) : Option SV → Option Value → Prop
  | none, none => True
  | some s, some u => rel U μ s u
  | _, _ => False
theorem intS_rel {s : SV} {u : Value} {z : Int} (h : rel U μ s u) (hz : intS s = some z) : ∃ k, u = .int k z := by
  unfold intS at hz
  split at hz
  · rename_i k z'
    simp only [Option.some.injEq] at hz
    subst hz
    exact ⟨k, rel_v.1 h⟩
  · cases hz
theorem run_bounds {P : Program} {t : Bool} {lo hi : Option SV} {ulo uhi : Option Value} {n cap : Nat} {a c : Int} (h1 : Bnd U μ lo ulo) (h2 : Bnd U μ hi uhi) (ha : bndS lo 0 = some a) (hc : bndS hi n = some c) (h : 0 ≤ a ∧ a ≤ c ∧ c ≤ cap) :
    (Instr.sliceBounds t n cap ulo uhi none).run P w = .ok (a.toNat, c.toNat, cap) w := by
  obtain ⟨h0, h3, h4⟩ := h
  have ec : (c.toNat : Int) = c := Int.toNat_of_nonneg (by omega)
  cases lo with
  | none =>
    cases ulo with
    | some u => exact h1.elim
    | none =>
      simp only [bndS, Option.some.injEq] at ha
      subst ha
      cases hi with
      | none =>
        cases uhi with
        | some u => exact h2.elim
        | none =>
          simp only [bndS, Option.some.injEq] at hc
          subst hc
          simp [Instr.sliceBounds]
      | some s =>
        cases uhi with
        | none => exact h2.elim
        | some u =>
          obtain ⟨k, rfl⟩ := intS_rel h2 hc
          simp [Instr.sliceBounds, run_sliceBound, h4, (by omega : 0 ≤ c)]
  | some s =>
    cases ulo with
    | none => exact h1.elim
    | some u =>
      obtain ⟨k, rfl⟩ := intS_rel h1 ha
      cases hi with
      | none =>
        cases uhi with
        | some u => exact h2.elim
        | none =>
          simp only [bndS, Option.some.injEq] at hc
          subst hc
          simp [Instr.sliceBounds, run_sliceBound, h0, h3]
      | some s' =>
        cases uhi with
        | none => exact h2.elim
        | some u' =>
          obtain ⟨k', rfl⟩ := intS_rel h2 hc
          simp [Instr.sliceBounds, run_sliceBound, h0, h3, h4, ec, (by omega : 0 ≤ c)]
def xSlice (b : Tab E) (key : Nat) (t : TypeId) (x : SV) (lo hi : Option SV) (d : List (Dec E)) : Option (Res E) := match E.P.underlying t with
  | some (.slice e) => match E.P.info? e with
    | some i => match x with
      | .o k => match look b k with
        | some x => match rowOf x with
          | some ⟨e', l⟩ => bif Nat.beq i.size (E.fm e').sz then (match bndS lo 0, bndS hi l.length with
            | some a, some c => some ⟨.s k (E.fm e').sz a.toNat (c.toNat - a.toNat), [], key, [0 ≤ a ∧ a ≤ c ∧ c ≤ l.length], d⟩
            | _, _ => none) else none
          | none => none
        | none => none
      | .s k sz lo0 n0 => match look b k with
        | some x => match rowOf x with
          | some ⟨e', l⟩ => bif Nat.beq i.size sz then (match bndS lo 0, bndS hi n0 with
            | some a, some c => some ⟨.s k sz (lo0 + a.toNat) (c.toNat - a.toNat), [], key, [0 ≤ a ∧ a ≤ c ∧ lo0 + c ≤ l.length], d⟩
            | _, _ => none) else none
          | none => none
        | none => none
      | _ => none
    | none => none
  | some .string => match x with
    | .v (.string s) => match bndS lo 0, bndS hi s.size with
      | some a, some c => some ⟨.v (.string (s.extract a.toNat c.toNat)), [], key, [0 ≤ a ∧ a ≤ c ∧ c ≤ s.size], d⟩
      | _, _ => none
    | _ => none
  | _ => none
theorem run_bounds3 {P : Program} {lo : Option SV} {ulo : Option Value} {hi mx : SV} {uhi umx : Value} {n cap : Nat} {a c : Int} (h1 : Bnd U μ lo ulo) (h2 : rel U μ hi uhi) (h3 : rel U μ mx umx) (ha : bndS lo 0 = some a) (hc : intS hi = some c) (hx : intS mx = some c) (h : 0 ≤ a ∧ a ≤ c ∧ c ≤ cap) :
    (Instr.sliceBounds true n cap ulo (some uhi) (some umx)).run P w = .ok (a.toNat, c.toNat, c.toNat) w := by
  obtain ⟨g0, g1, g2⟩ := h
  have ec : (c.toNat : Int) = c := Int.toNat_of_nonneg (by omega)
  obtain ⟨k2, rfl⟩ := intS_rel h2 hc
  obtain ⟨k3, rfl⟩ := intS_rel h3 hx
  cases lo with
  | none =>
    cases ulo with
    | some u => exact h1.elim
    | none =>
      simp only [bndS, Option.some.injEq] at ha
      subst ha
      simp [Instr.sliceBounds, run_sliceBound, g2, (by omega : 0 ≤ c), ec]
  | some s =>
    cases ulo with
    | none => exact h1.elim
    | some u =>
      obtain ⟨k, rfl⟩ := intS_rel h1 ha
      simp [Instr.sliceBounds, run_sliceBound, g0, g1, g2, (by omega : 0 ≤ c), ec]
/-- A slice with three bounds, the last two alike. -/
def xSlice3 (b : Tab E) (key : Nat) (t : TypeId) (x : SV) (lo : Option SV) (hi mx : SV) (d : List (Dec E)) : Option (Res E) := match E.P.underlying t with
  | some (.slice e) => match E.P.info? e with
    | some i => match x with
      | .o k => match look b k with
        | some x => match rowOf x with
          | some ⟨e', l⟩ => bif Nat.beq i.size (E.fm e').sz then (match bndS lo 0, intS hi, intS mx with
            | some a, some c, some m => some ⟨.c k (E.fm e').sz a.toNat (c.toNat - a.toNat), [], key, [0 ≤ a ∧ a ≤ c ∧ c ≤ l.length ∧ m = c], d⟩
            | _, _, _ => none) else none
          | none => none
        | none => none
      | _ => none
    | none => none
  | _ => none
theorem xSlice3_ok {t : TypeId} {x : SV} {lo : Option SV} {hi mx : SV} {d : List (Dec E)} {R : Res E} (h : xSlice3 b key t x lo hi mx d = some R) (hcn : Conj R.c) (hm : Mem S w0 U μ b w) {ux uhi umx : Value} {ulo : Option Value}
    (hx : rel U μ x ux) (h1 : Bnd U μ lo ulo) (h2 : rel U μ hi uhi) (h3 : rel U μ mx umx) : Good S w0 U μ b key R ((Instr.sliceAt t ux ulo (some uhi) (some umx)).run E.P w) := by
  unfold xSlice3 at h
  split at h
  · rename_i e ht
    cases hi' : E.P.info? e with
    | none => simp [hi'] at h
    | some i =>
    simp only [hi'] at h
    cases x with
    | o k =>
      simp only at h
      split at h
      · rename_i x hk
        split at h
        · rename_i e' l hro
          cases hz : Nat.beq i.size (E.fm e').sz with
          | false => simp [hz] at h
          | true =>
            have hsz := Nat.eq_of_beq_eq_true hz
            simp only [hz, cond_true] at h
            split at h
            · rename_i a c m ha hc hmx
              simp only [Option.some.injEq] at h
              subst h
              obtain ⟨c0, c1, c2, c3⟩ : 0 ≤ a ∧ a ≤ c ∧ c ≤ l.length ∧ m = c := hcn
              subst c3
              unfold rel at hx
              obtain ⟨hU, hx, _⟩ := hx
              have run : ∀ (ao : Option Addr) (n cap : Nat), m ≤ cap → (Instr.sliceAt t (.slice ao n cap) ulo (some uhi) (some umx)).run E.P w = .ok (.slice (if m.toNat = a.toNat then ao else ao.map (·.add (a.toNat * i.size))) (m.toNat - a.toNat) (m.toNat - a.toNat)) w := by
                intro ao n cap hcap
                simp [Instr.sliceAt, run_underlying ht, Instr.slice, run_bounds3 (P := E.P) (w := w) (n := n) (cap := cap) h1 h2 h3 ha hc hmx ⟨c0, c1, hcap⟩, sizeOf, typeInfo, hi']
              rcases row_reads hm hk hro with ⟨r1, r2⟩ | ⟨r2, ad, cc, r1⟩ | ⟨g, o, cap, r1, r2, r3, r4⟩
              · refine good_plain hm (by rw [hx, r1]; exact run none 0 0 (by omega)) ?_
                unfold rel
                have e1 : m.toNat - a.toNat = 0 := by omega
                refine ⟨hU, .inl ⟨r1, ?_, by omega, e1⟩⟩
                rw [e1]
                simp
              · refine good_plain hm (by rw [hx, r1]; exact run (some ad) 0 cc (by omega)) ?_
                unfold rel
                have e1 : m.toNat - a.toNat = 0 := by omega
                have e0 : m.toNat = a.toNat := by omega
                refine ⟨hU, .inr (.inl ⟨ad, cc, r1, ?_, by omega, e1⟩)⟩
                rw [e1, if_pos e0]
              · refine good_plain hm (by rw [hx, r1]; exact run (some ⟨g, o, none⟩) l.length cap (by omega)) ?_
                unfold rel
                refine ⟨hU, .inr (.inr ⟨g, o, l.length, cap, if m.toNat = a.toNat then o else o + a.toNat * (E.fm e').sz, r1, ?_, ?_⟩)⟩
                · rw [hsz]
                  split <;> simp [addr_add]
                · split
                  · left; omega
                  · right; rfl
            · cases h
        · cases h
      · cases h
    | _ => simp at h
  · cases h
theorem run_slice_row {P : Program} {t e : TypeId} {i : TypeInfo} (ht : P.underlying t = some (.slice e)) (hi : P.info? e = some i) {ao : Option Addr} {n cap : Nat} {lo hi' : Option SV} {ulo uhi : Option Value} {a c : Int}
    (h1 : Bnd U μ lo ulo) (h2 : Bnd U μ hi' uhi) (ha : bndS lo 0 = some a) (hc : bndS hi' n = some c) (h : 0 ≤ a ∧ a ≤ c ∧ c ≤ cap) :
    (Instr.sliceAt t (.slice ao n cap) ulo uhi none).run P w = .ok (.slice (if cap = a.toNat then ao else ao.map (·.add (a.toNat * i.size))) (c.toNat - a.toNat) (cap - a.toNat)) w := by
  simp [Instr.sliceAt, run_underlying ht, Instr.slice, run_bounds h1 h2 ha hc h, sizeOf, typeInfo, hi]
theorem xSlice_ok {t : TypeId} {x : SV} {lo hi : Option SV} {d : List (Dec E)} {R : Res E} (h : xSlice b key t x lo hi d = some R) (hcn : Conj R.c) (hm : Mem S w0 U μ b w) {ux : Value} {ulo uhi : Option Value}
    (hx : rel U μ x ux) (h1 : Bnd U μ lo ulo) (h2 : Bnd U μ hi uhi) : Good S w0 U μ b key R ((Instr.sliceAt t ux ulo uhi none).run E.P w) := by
  unfold xSlice at h
  split at h
  · rename_i e ht
    cases hi' : E.P.info? e with
    | none => simp [hi'] at h
    | some i =>
    simp only [hi'] at h
    cases x with
    | o k =>
      simp only at h
      split at h
      · rename_i x hk
        split at h
        · rename_i e' l hro
          cases hz : Nat.beq i.size (E.fm e').sz with
          | false => simp [hz] at h
          | true =>
            have hsz := Nat.eq_of_beq_eq_true hz
            simp only [hz, cond_true] at h
            split at h
            · rename_i a c ha hc
              simp only [Option.some.injEq] at h
              subst h
              obtain ⟨c0, c1, c2⟩ : 0 ≤ a ∧ a ≤ c ∧ c ≤ l.length := hcn
              unfold rel at hx
              obtain ⟨hU, hx, _⟩ := hx
              rcases row_reads hm hk hro with ⟨r1, r2⟩ | ⟨r2, ad, cc, r1⟩ | ⟨g, o, cap, r1, r2, r3, r4⟩
              · have hrun := run_slice_row (P := E.P) (w := w) (cap := 0) (ao := none) ht hi' h1 h2 ha (by rw [r2] at hc; exact hc) ⟨c0, c1, by omega⟩
                refine good_plain hm (by rw [hx, r1]; exact hrun) ?_
                unfold rel
                refine ⟨hU, .inl ⟨r1, ?_, by omega, by omega⟩⟩
                have e1 : c.toNat - a.toNat = 0 := by omega
                rw [e1]
                simp
              · have hrun := run_slice_row (P := E.P) (w := w) (cap := cc) (ao := some ad) ht hi' h1 h2 ha (by rw [r2] at hc; exact hc) ⟨c0, c1, by omega⟩
                refine good_plain hm (by rw [hx, r1]; exact hrun) ?_
                unfold rel
                have e0 : a.toNat = 0 := by omega
                have e1 : c.toNat - a.toNat = 0 := by omega
                refine ⟨hU, .inr (.inl ⟨ad, cc, r1, ?_, by omega, by omega⟩)⟩
                rw [e1, e0]
                by_cases hcc : cc = 0
                · simp [hcc]
                · simp [hcc, Addr.add]
              · have hrun := run_slice_row (P := E.P) (w := w) (cap := cap) (ao := some ⟨g, o, none⟩) ht hi' h1 h2 ha hc ⟨c0, c1, by omega⟩
                refine good_plain hm (by rw [hx, r1]; exact hrun) ?_
                unfold rel
                refine ⟨hU, .inr (.inr ⟨g, o, l.length, cap, if cap = a.toNat then o else o + a.toNat * (E.fm e').sz, r1, ?_, ?_, by omega⟩)⟩
                · rw [hsz]
                  split <;> simp [addr_add]
                · split
                  · rename_i h0
                    by_cases hz0 : a.toNat = 0
                    · right; rw [hz0]; simp
                    · left; exact ⟨h0, hz0⟩
                  · right; rfl
            · cases h
        · cases h
      · cases h
    | s k sz lo0 n0 =>
      simp only at h
      split at h
      · rename_i x hk
        split at h
        · rename_i e' l hro
          cases hz : Nat.beq i.size sz with
          | false => simp [hz] at h
          | true =>
            have hsz := Nat.eq_of_beq_eq_true hz
            simp only [hz, cond_true] at h
            split at h
            · rename_i a c ha hc
              simp only [Option.some.injEq] at h
              subst h
              obtain ⟨c0, c1, c2⟩ : 0 ≤ a ∧ a ≤ c ∧ lo0 + c ≤ l.length := hcn
              unfold rel at hx
              obtain ⟨hU, hx⟩ := hx
              rcases hx with ⟨r1, e1, e2, e3⟩ | ⟨ad, cc, r1, e1, e2, e3⟩ | ⟨g', o1, len, cap', o', e1, e2, e3, e4⟩
              · have hl0 : l.length = 0 := by
                  rcases row_reads hm hk hro with ⟨_, q⟩ | ⟨q, _⟩ | ⟨g, o, cap, q, _⟩
                  · exact q
                  · exact q
                  · rw [q] at r1; cases r1
                have hrun := run_slice_row (P := E.P) (w := w) (cap := 0) (ao := none) ht hi' h1 h2 ha (by rw [e3] at hc; exact hc) ⟨c0, c1, by omega⟩
                refine good_plain hm (by rw [e1]; exact hrun) ?_
                unfold rel
                refine ⟨hU, .inl ⟨r1, ?_, by omega, by omega⟩⟩
                have e1 : c.toNat - a.toNat = 0 := by omega
                rw [e1]
                simp
              · have hl0 : l.length = 0 := by
                  rcases row_reads hm hk hro with ⟨_, q⟩ | ⟨q, _⟩ | ⟨g, o, cap, q, _⟩
                  · exact q
                  · exact q
                  · rw [q] at r1
                    simp only [Value.slice.injEq] at r1
                    exact r1.2.1
                have hrun := run_slice_row (P := E.P) (w := w) (cap := cc) (ao := some ad) ht hi' h1 h2 ha (by rw [e3] at hc; exact hc) ⟨c0, c1, by omega⟩
                refine good_plain hm (by rw [e1]; exact hrun) ?_
                unfold rel
                have f0 : a.toNat = 0 := by omega
                have f1 : c.toNat - a.toNat = 0 := by omega
                refine ⟨hU, .inr (.inl ⟨ad, cc, r1, ?_, by omega, by omega⟩)⟩
                rw [f1, f0]
                by_cases hcc : cc = 0
                · simp [hcc]
                · simp [hcc, Addr.add]
              · rcases row_reads hm hk hro with ⟨r1, r2⟩ | ⟨r2, ad, cc, r1⟩ | ⟨g, o, cap, r1, r2, r3, r4⟩
                · rw [r1] at e1; cases e1
                · rw [r1] at e1
                  simp only [Value.slice.injEq, Option.some.injEq] at e1
                  have hrun := run_slice_row (P := E.P) (w := w) (cap := cap' - lo0) (ao := some ⟨g', o', none⟩) ht hi' h1 h2 ha hc ⟨c0, c1, by omega⟩
                  have f0 : a.toNat = 0 := by omega
                  have f2 : lo0 = 0 := by omega
                  have f3 : o' = o1 := by
                    rcases e3 with e3 | e3
                    · omega
                    · rw [e3, f2]; simp
                  refine good_plain hm (by rw [e2]; exact hrun) ?_
                  unfold rel
                  refine ⟨hU, .inr (.inl ⟨⟨g', o1, none⟩, cap', by rw [r1, e1.1, e1.2.2], ?_, by omega, by omega⟩)⟩
                  have f1 : c.toNat - a.toNat = 0 := by omega
                  rw [f1, f0, f2, f3]
                  by_cases hcc : cap' = 0
                  · simp [hcc]
                  · simp [hcc, Addr.add]
                · rw [r1] at e1
                  cases e1
                  have hrun := run_slice_row (P := E.P) (w := w) (cap := cap' - lo0) (ao := some ⟨g', o', none⟩) ht hi' h1 h2 ha hc ⟨c0, c1, by omega⟩
                  refine good_plain hm (by rw [e2]; exact hrun) ?_
                  unfold rel
                  refine ⟨hU, .inr (.inr ⟨g', o1, l.length, cap', if cap' - lo0 = a.toNat then o' else o' + a.toNat * sz, r1, ?_, ?_, by omega⟩)⟩
                  · rw [hsz, Nat.sub_sub]
                    split <;> simp [addr_add]
                  · by_cases hz0 : a.toNat = 0
                    · rw [hz0]
                      simp only [Nat.zero_mul, Nat.add_zero, ite_self]
                      exact e3
                    · split
                      · left; omega
                      · rcases e3 with e3 | e3
                        · omega
                        · right
                          rw [e3, Nat.add_mul]
                          omega
            · cases h
        · cases h
      · cases h
    | _ => simp at h
  · rename_i ht
    split at h
    · rename_i s
      split at h
      · rename_i a c ha hc
        simp only [Option.some.injEq] at h
        subst h
        have hcn' : 0 ≤ a ∧ a ≤ c ∧ c ≤ s.size := hcn
        have hb := run_bounds (P := E.P) (w := w) (t := false) h1 h2 ha hc hcn'
        have hmx : (none : Option Value).isSome = false := rfl
        refine good_plain hm ?_ (rel_v.2 rfl)
        rw [rel_v.1 hx]
        simp [Instr.sliceAt, run_underlying ht, Instr.slice, hb]
      · cases h
    · cases h
  · cases h

/-! ### Places -/
def NeedI (z : Int) : Prop := False
def xIndexAddr (b : Tab E) (key : Nat) (t : TypeId) (x ix : SV) (d : List (Dec E)) : Option (Res E) := match intS ix with
  | none => none
  | some z => match E.P.underlying t with
    | some (.slice e) => match E.P.info? e with
      | some i => match x with
        | .o k => match look b k with
          | some x => match rowOf x with
            | some ⟨e', l⟩ => bif Nat.beq i.size (E.fm e').sz then some ⟨.q k (E.fm e').sz z.toNat 0, [], key, [0 ≤ z ∧ z < l.length], d⟩ else none
            | none => none
          | none => none
        | .s k sz lo n => bif Nat.beq i.size sz then some ⟨.q k sz (lo + z.toNat) 0, [], key, [0 ≤ z ∧ z < n], d⟩ else none
        | .sb k lo n cap => some ⟨.p k (lo + z.toNat * i.size), [], key, [0 ≤ z ∧ z < n], d⟩
        | _ => none
      | none => none
    | some (.array n e) => match E.P.info? e with
      | some i => match x with
        | .p k off => match d with
          | .x :: r => bif Nat.beq i.size 1 then some ⟨.q k 1 z.toNat off, [], key, [0 ≤ z ∧ z < n], r⟩ else none
          | .l :: r => some ⟨.p k (off + z.toNat * i.size), [], key, [0 ≤ z ∧ z < n], r⟩
          | [] => some ⟨.p k off, [], key, [NeedI z], []⟩
          | _ => none
        | .v (.pointer (some ⟨g, off, none⟩)) => some ⟨.v (.pointer (some ⟨g, off + z.toNat * i.size, none⟩)), [], key, [0 ≤ z ∧ z < n], d⟩
        | _ => none
      | none => none
    | _ => none
theorem run_indexAt_slice {P : Program} {t e : TypeId} {i : TypeInfo} (ht : P.underlying t = some (.slice e)) (hi : P.info? e = some i) {g o n cap : Nat} {ki : IntKind} {z : Int} (h : 0 ≤ z ∧ z < n) :
    (Instr.indexAt t (.slice (some ⟨g, o, none⟩) n cap) (.int ki z)).run P w = .ok (.pointer (some ⟨g, o + z.toNat * i.size, none⟩)) w := by
  simp [Instr.indexAt, asIntOf, run_underlying ht, sizeOf, typeInfo, hi, h.1, h.2, addr_add]
theorem xIndexAddr_ok {t : TypeId} {x ix : SV} {d : List (Dec E)} {R : Res E} (h : xIndexAddr b key t x ix d = some R) (hcn : Conj R.c) (hm : Mem S w0 U μ b w) {ux ui : Value} (hx : rel U μ x ux) (hix : rel U μ ix ui) :
    Good S w0 U μ b key R ((Instr.indexAt t ux ui).run E.P w) := by
  unfold xIndexAddr at h
  cases hz : intS ix with
  | none => simp [hz] at h
  | some z =>
  obtain ⟨ki, rfl⟩ := intS_rel hix hz
  simp only [hz] at h
  split at h
  · rename_i e ht
    cases hi : E.P.info? e with
    | none => simp [hi] at h
    | some i =>
    simp only [hi] at h
    cases x with
    | o k =>
      simp only at h
      split at h
      · rename_i x hk
        split at h
        · rename_i e' l hro
          cases hb : Nat.beq i.size (E.fm e').sz with
          | false => simp [hb] at h
          | true =>
            have hsz := Nat.eq_of_beq_eq_true hb
            simp only [hb, cond_true, Option.some.injEq] at h
            subst h
            have hcn' : 0 ≤ z ∧ z < l.length := hcn
            unfold rel at hx
            obtain ⟨hU, hx, _⟩ := hx
            rcases row_reads hm hk hro with ⟨r1, r2⟩ | ⟨r2, _⟩ | ⟨g, o, cap, r1, r2, r3, r4⟩
            · omega
            · omega
            · refine good_plain hm (by rw [hx, r1]; exact run_indexAt_slice ht hi hcn') ?_
              unfold rel
              exact ⟨hU, g, o, by rw [r1]; rfl, by rw [hsz, Nat.add_zero]⟩
        · cases h
      · cases h
    | s k sz lo n =>
      simp only at h
      cases hb : Nat.beq i.size sz with
      | false => simp [hb] at h
      | true =>
        have hsz := Nat.eq_of_beq_eq_true hb
        simp only [hb, cond_true, Option.some.injEq] at h
        subst h
        have hcn' : 0 ≤ z ∧ z < n := hcn
        unfold rel at hx
        obtain ⟨hU, hx⟩ := hx
        rcases hx with ⟨_, _, _, e3⟩ | ⟨_, _, _, _, _, e3⟩ | ⟨g, o1, len, cap, o', e1, e2, e3, e4⟩
        · omega
        · omega
        · refine good_plain hm (by rw [e2]; exact run_indexAt_slice ht hi hcn') ?_
          unfold rel
          refine ⟨hU, g, o1, by rw [e1]; rfl, ?_⟩
          have : o' = o1 + lo * sz := by
            rcases e3 with e3 | e3
            · omega
            · exact e3
          rw [this, hsz, Nat.add_mul]
          congr 3
          omega
    | sb k lo n cap =>
      simp only [Option.some.injEq] at h
      subst h
      have hcn' : 0 ≤ z ∧ z < n := hcn
      unfold rel at hx
      obtain ⟨hU, g, h1, hx⟩ := hx
      refine good_plain hm (by rw [hx]; exact run_indexAt_slice ht hi hcn') ?_
      unfold rel
      exact ⟨hU, g, h1, rfl⟩
    | _ => simp at h
  · rename_i n e ht
    cases hi : E.P.info? e with
    | none => simp [hi] at h
    | some i =>
    simp only [hi] at h
    cases x with
    | p k off =>
      have hrun : ∀ g, 0 ≤ z ∧ z < n → (Instr.indexAt t (.pointer (some ⟨g, off, none⟩)) (.int ki z)).run E.P w = .ok (.pointer (some ⟨g, off + z.toNat * i.size, none⟩)) w := by
        intro g hcn'
        simp [Instr.indexAt, asIntOf, run_underlying ht, Instr.sureAddr, sizeOf, typeInfo, hi, hcn'.1, hcn'.2, addr_add]
      unfold rel at hx
      obtain ⟨hU, g, h1, hx⟩ := hx
      simp only at h
      split at h
      · rename_i r
        cases hb : Nat.beq i.size 1 with
        | false => simp [hb] at h
        | true =>
          have hsz := Nat.eq_of_beq_eq_true hb
          simp only [hb, cond_true, Option.some.injEq] at h
          subst h
          have hcn' : 0 ≤ z ∧ z < n := hcn
          refine good_plain hm (by rw [hx]; exact hrun g hcn') ?_
          unfold rel
          refine ⟨hU, g, 0, by rw [h1]; rfl, ?_⟩
          have e4 : off + z.toNat * i.size = 0 + (z.toNat * 1 + off) := by rw [hsz]; omega
          rw [e4]
      · simp only [Option.some.injEq] at h
        subst h
        have hcn' : 0 ≤ z ∧ z < n := hcn
        refine good_plain hm (by rw [hx]; exact hrun g hcn') ?_
        unfold rel
        exact ⟨hU, g, h1, rfl⟩
      · simp only [Option.some.injEq] at h
        subst h
        exact absurd hcn (by simp [Conj, NeedI])
      · cases h
    | v xv =>
      split at h <;> try contradiction
      rename_i g off heq
      cases heq
      simp only [Option.some.injEq] at h
      subst h
      have hcn' : 0 ≤ z ∧ z < n := hcn
      rw [rel_v.1 hx]
      refine good_plain hm (u := .pointer (some ⟨g, off + z.toNat * i.size, none⟩)) ?_ (rel_v.2 rfl)
      simp [Instr.indexAt, asIntOf, run_underlying ht, Instr.sureAddr, sizeOf, typeInfo, hi, hcn'.1, hcn'.2, addr_add]
    | _ => simp at h
  · cases h
/-! ### Lengths -/
def lenS (b : Tab E) : SV → Option Nat
  | .o k => match look b k with
    | some x => match rowOf x with
      | some ⟨e, l⟩ => some l.length
      | none => none
    | none => none
  | .s _ _ _ n => some n
  | .sb _ _ n _ => some n
  | .c _ _ _ n => some n
  | _ => none
theorem lenS_ok {x : SV} {n : Nat} (h : lenS b x = some n) (hm : Mem S w0 U μ b w) {ux : Value} (hx : rel U μ x ux) : ∃ a cap, ux = .slice a n cap := by
  unfold lenS at h
  split at h
  · rename_i k
    split at h
    · rename_i x hk
      split at h
      · rename_i e l hro
        simp only [Option.some.injEq] at h
        subst h
        unfold rel at hx
        rcases row_reads hm hk hro with ⟨r1, r2⟩ | ⟨r2, ad, cc, r1⟩ | ⟨g, o, cap, r1, _⟩
        · exact ⟨none, 0, by rw [hx.2.1, r1, r2]⟩
        · exact ⟨_, _, by rw [hx.2.1, r1, r2]⟩
        · exact ⟨_, _, by rw [hx.2.1, r1]⟩
      · cases h
    · cases h
  · rename_i k sz lo n'
    simp only [Option.some.injEq] at h
    subst h
    unfold rel at hx
    rcases hx.2 with ⟨_, e, _, e'⟩ | ⟨ad, cc, _, e, _, e'⟩ | ⟨g, o, len, cap, o', _, e, _⟩
    · exact ⟨none, 0, by rw [e, e']⟩
    · exact ⟨_, _, by rw [e, e']⟩
    · exact ⟨_, _, e⟩
  · rename_i k lo n' cap
    simp only [Option.some.injEq] at h
    subst h
    unfold rel at hx
    obtain ⟨_, g, _, h1⟩ := hx
    exact ⟨_, _, h1⟩
  · rename_i k sz lo n'
    simp only [Option.some.injEq] at h
    subst h
    unfold rel at hx
    rcases hx.2 with ⟨_, e, _, e'⟩ | ⟨ad, cc, _, e, _, e'⟩ | ⟨g, o, len, cap, o', _, e, _⟩
    · exact ⟨none, 0, by rw [e, e']⟩
    · exact ⟨_, _, by rw [e, e']⟩
    · exact ⟨_, _, e⟩
  · cases h
end
end
end Go.Proofs.YtpfignfgfhbblaaGreatDoorSx
/- The symbolic machine's single steps: appends, rows that are made, literals, strings of bytes. -/
set_option linter.unusedVariables false
set_option linter.unusedSimpArgs false
namespace Go.Proofs.YtpfignfgfhbblaaGreatDoorSx
open Go.RowKit Go.Proofs.YtpfignfgfhbblaaGreatDoorW.PrintLast Go.Proofs.YtpfignfgfhbblaaGreatDoorW.PrintWords
noncomputable section
/-- Room for n elements of b bytes. -/
def Room (n b : Nat) : Prop := n ≤ maxLen ∧ (n + n / 4 + 192) * b ≤ 281474976710656
section
variable {P : Program} (w : World)
theorem run_append_room_row (t tx ty e : TypeId) (i : TypeInfo) (ht : P.underlying t = some (.slice e)) (hi : P.info? e = some i) (g sLen sCap : Nat) (cur : Array Value) (hg : w.heap[g]? = some (.cells cur e (0, 0)))
    (x : Value) (n : Nat) (news : List Value) (hs : Src P i.size tx x n news w) (hroom : sLen + n ≤ sCap) (hfit : sLen * i.size + news.length ≤ cur.size) :
    (Builtin.append_ #[t, tx] ty #[.slice (some ⟨g, 0, none⟩) sLen sCap, x]).run P w =
      .ok (.slice (some ⟨g, 0, none⟩) (sLen + n) sCap) (w.setRow g (cur.toList.take (sLen * i.size) ++ news ++ cur.toList.drop (sLen * i.size + news.length)).toArray) := by
  have hst := run_storeCells_at P g (sLen * i.size) e news 0 cur w hg (by simpa using hfit) hs.one
  simp only [Nat.add_zero] at hst
  rcases hs.kind with ⟨e', hk⟩ | hk <;> simp [Builtin.append_, run_underlying ht, run_underlying hk, sizeOf, typeInfo, hi, hs.len, hroom, hs.cells, Addr.add_lit, hst]
/-- append onto a row of the call's own, of whatever is appended: what comes of it, and where it lies. -/
theorem run_append_src_at (base : Nat) (t tx ty e : TypeId) (i : TypeInfo) (z : Value) (ht : P.underlying t = some (.slice e)) (hi : P.info? e = some i) (hz : i.zero = some z)
    (hzs : z.cells.size = i.size) (hsz : 0 < i.size) (v : Value) (n : Nat) (xs : List Value) (hown : w.ownsRow base e i.size v n xs) (x : Value) (m : Nat) (news : List Value) (hs : Src P i.size tx x m news w)
    (hroom : Room (n + m) i.bytes) (hbase : base ≤ w.heap.size) :
    ∃ v' w', (Builtin.append_ #[t, tx] ty #[v, x]).run P w = .ok v' w' ∧ w'.ownsRow base e i.size v' (n + m) (xs ++ news) ∧ w.grownBy w' (blk v) ∧ (∀ g, blk v' = some g → blk v = some g ∨ w.heap.size ≤ g) := by
  obtain ⟨h63, hbytes⟩ := hroom
  have hsmall : n + m ≤ 9223372036854775807 := by simp only [maxLen] at h63; omega
  have hlen : (xs ++ news).length = (n + m) * i.size := by rw [List.length_append, hown.1, hs.newsLen, Nat.add_mul]
  have grown : ∀ (old : Nat), old < n + m → ∀ (row : Option Nat),
      (w.drew.alloc (.cells ((xs ++ news).toArray ++ Builtin.zeroCells z.cells (grownCap w (n + m) old e - (n + m))) e)).ownsRow base e i.size
        (.slice (some ⟨w.heap.size, 0, none⟩) (n + m) (grownCap w (n + m) old e)) (n + m) (xs ++ news) ∧
      w.grownBy (w.drew.alloc (.cells ((xs ++ news).toArray ++ Builtin.zeroCells z.cells (grownCap w (n + m) old e - (n + m))) e)) row := by
    intro old ho row
    have hge := grownCap_ge w (n + m) old e
    have hcm : grownCap w (n + m) old e ≤ maxLen := grownCap_le_maxLen w (n + m) old e h63
    refine ⟨⟨hlen, .inr ⟨w.heap.size, _, _, rfl, hbase, heap_alloc_new w.drew _, hge, hcm, ?_, ?_⟩⟩, ⟨rfl, rfl, rfl, by simp, fun k hk _ => heap_alloc_old w.drew _ hk⟩⟩
    · rw [Array.size_append, List.size_toArray, size_zeroCells, hzs, hlen, ← Nat.add_mul]
      congr 1
      omega
    · rw [Array.toList_append, ← hlen]
      exact List.take_left
  rcases hown.2 with ⟨rfl, rfl⟩ | ⟨g, cap, cur, rfl, hbg, hg, hnc, hcm, hcs, htake⟩
  · have hx : xs = [] := List.eq_nil_of_length_eq_zero (by simpa using hown.1)
    subst hx
    by_cases hm : m = 0
    · subst hm
      have hn : news = [] := List.eq_nil_of_length_eq_zero (by simpa using hs.newsLen)
      subst hn
      refine ⟨.slice none 0 0, w, ?_, by simpa using World.ownsRow_nil w base e i.size, ⟨rfl, rfl, rfl, Nat.le_refl _, fun _ _ _ => rfl⟩, fun g hg => by simp [blk] at hg⟩
      have hcells : (Builtin.firstCells i.size 0 x).run P w = .ok #[] w := by simpa using hs.cells
      rcases hs.kind with ⟨e', hk⟩ | hk <;> simp [Builtin.append_, run_underlying ht, run_underlying hk, sizeOf, typeInfo, hi, hs.len, hcells]
    · have hold : (Builtin.firstCells i.size 0 (.slice none 0 0)).run P w.drew = .ok ([] : List Value).toArray w.drew := by simpa using run_firstCells_none (P := P) w.drew i.size 0 0 0
      have hr := run_append_grow_src (P := P) w t tx ty e i z ht hi hz none 0 0 [] hold x m news hs (by omega) (by omega) (growslice_fits_wide (by omega) hbytes)
      have hgr := grown 0 (by omega) (blk (.slice none 0 0))
      simp only [List.nil_append] at hgr hr ⊢
      exact ⟨_, _, hr, hgr.1, hgr.2, fun g' hg' => .inr (by simp [blk] at hg'; omega)⟩
  · by_cases hroom : n + m ≤ cap
    · have hfit : n * i.size + news.length ≤ cur.size := by rw [hs.newsLen, hcs, ← Nat.add_mul]; exact Nat.mul_le_mul_right _ hroom
      have hr := run_append_room_row (P := P) w t tx ty e i ht hi g n cap cur hg x m news hs hroom hfit
      refine ⟨_, _, hr, ⟨hlen, .inr ⟨g, cap, _, rfl, hbg, setRow_heap w g cur _ e _ hg, hroom, hcm, ?_, ?_⟩⟩, ⟨rfl, rfl, rfl, by simp, fun k _ hk => setRow_other w g k _ (fun e => hk (by simp [blk, e]))⟩, fun g' hg' => .inl hg'⟩
      · simp only [List.size_toArray, List.length_append, List.length_take, List.length_drop, Array.length_toList]
        omega
      · rw [htake, ← hlen]
        exact List.take_left
    · have holds : ∀ j u, xs[j]? = some u → w.cell? ((⟨g, 0, none⟩ : Addr).add j) = some u := hown.cells (g := g) rfl
      have hold : (Builtin.firstCells i.size n (.slice (some ⟨g, 0, none⟩) n cap)).run P w.drew = .ok xs.toArray w.drew := run_firstCells_some (P := P) w.drew i.size n ⟨g, 0, none⟩ n cap xs hown.1 (by simpa using holds)
      have hr := run_append_grow_src (P := P) w t tx ty e i z ht hi hz (some ⟨g, 0, none⟩) n cap xs hold x m news hs (by omega) (by omega) (growslice_fits_wide (by omega) hbytes)
      have hgr := grown cap (by omega) (blk (.slice (some ⟨g, 0, none⟩) n cap))
      exact ⟨_, _, hr, hgr.1, hgr.2, fun g' hg' => .inr (by simp [blk] at hg'; omega)⟩
end
section
variable {E : Env} {S : Nat → Prop} {w0 w w' : World} {U : Nat → Prop} {μ : Nat → Value} {b : Tab E} {key : Nat}
/-- What is appended. -/
def srcS (b : Tab E) (e : TypeId) (tx : TypeId) (y : SV) : Option (List (E.fm e).α × List Prop) := match E.P.underlying tx with
  | some (.slice e') => bif Nat.beq e' e then (match viewOf b e y with
    | some V => if h : V.e = e then some (h ▸ V.l, V.c) else none
    | none => none) else none
  | some .string => match y, (E.fm e).str with
    | .v (.string s), some f => some (f s, [])
    | _, _ => none
  | _ => none
theorem srcS_ok {e tx : TypeId} {y : SV} {news : List (E.fm e).α} {c : List Prop} {i : TypeInfo} (h : srcS b e tx y = some (news, c)) (hc : Conj c) (hm : Mem S w0 U μ b w) {uy : Value} (hy : rel U μ y uy) (hsz : i.size = (E.fm e).sz) :
    Src E.P i.size tx uy news.length (cellsF (E.fm e) news) w := by
  unfold srcS at h
  split at h
  · rename_i e' ht
    cases hb : Nat.beq e' e with
    | false => simp [hb] at h
    | true =>
      simp only [hb, cond_true] at h
      split at h
      · rename_i V hv
        split at h
        · rename_i hVe
          simp only [Option.some.injEq, Prod.mk.injEq] at h
          obtain ⟨h1, rfl⟩ := h
          obtain ⟨Ve, Vl, Vc⟩ := V
          simp only at hVe
          subst hVe
          simp only at h1
          subst h1
          rcases view_reads hm hy hv hc with ⟨r1, r2⟩ | ⟨r2, ad, cc, r1⟩ | ⟨g, o, cap, r1, r2, r3, r4⟩
          · simp only at r2
            subst r2
            rw [r1]
            exact Src.ofNil w ht 0
          · simp only at r2
            subst r2
            rw [r1]
            exact Src.ofSlice w ht ad 0 cc [] (by simp) (fun j u hu => by simp at hu) (fun u hu => by cases hu)
          · rw [r1]
            refine Src.ofSlice w ht ⟨g, o, none⟩ _ _ _ (by rw [cellsF_length, hsz]) (fun j u hu => ?_) (cellsF_one _ _)
            rw [addr_add]
            exact r4 j u hu
        · cases h
      · cases h
  · rename_i ht
    split at h
    · rename_i s f hf
      simp only [Option.some.injEq, Prod.mk.injEq] at h
      obtain ⟨rfl, rfl⟩ := h
      have hs := (E.fm e).strOk f hf
      obtain ⟨h1, h2⟩ := hs.2 s
      rw [rel_v.1 hy, h2, cellsF, h1, hsz, hs.1]
      exact Src.ofString w ht s
    · cases h
  · cases h
/-- What is appended to. -/
structure Dst (E : Env) (e : TypeId) where
  l : List (E.fm e).α
  k : Option Nat
  c : List Prop
def dstS (b : Tab E) (e : TypeId) (x : SV) : Option (Dst E e) := match x with
  | .v (.slice none n c) => bif Nat.beq n 0 && Nat.beq c 0 then some ⟨[], none, []⟩ else none
  | .o k => match look b k with
    | some (.own e' l) => if h : e' = e then some ⟨h ▸ l, some k, []⟩ else none
    | _ => none
  | .s k sz lo n => match look b k with
    | some (.own e' l) => if h : e' = e then (bif Nat.beq lo 0 && Nat.beq sz (E.fm e).sz then some ⟨h ▸ l.take n, some k, [n ≤ l.length]⟩ else none) else none
    | _ => none
  | .sb k lo n cap => match look b k with
    | some (.box t cs) => if h : t = e then (bif Nat.beq lo 0 && Nat.ble n cap && Nat.ble cap 1000000 && Nat.beq cs.length (cap * (E.fm e).sz) then (match allV (cs.take (n * (E.fm e).sz)) with
      | some vs => match decL (E.fm e) n vs with
        | some l => some ⟨l, some k, []⟩
        | none => none
      | none => none) else none) else none
    | _ => none
  | _ => none
theorem dstS_ok {e : TypeId} {x : SV} {D : Dst E e} (h : dstS b e x = some D) (hc : Conj D.c) (hm : Mem S w0 U μ b w) {ux : Value} (hx : rel U μ x ux) :
    w.ownsRow 0 e (E.fm e).sz ux D.l.length (cellsF (E.fm e) D.l) ∧ ((D.k = none ∧ blk ux = none) ∨ ∃ k x, D.k = some k ∧ look b k = some x ∧ owning x = true ∧ blk ux = blk (μ k)) := by
  unfold dstS at h
  split at h
  · rename_i n c
    cases hz : (Nat.beq n 0 && Nat.beq c 0) with
    | false => simp [hz] at h
    | true =>
      simp only [hz, cond_true, Option.some.injEq] at h
      subst h
      simp only [Bool.and_eq_true] at hz
      rw [rel_v.1 hx, Nat.eq_of_beq_eq_true hz.1, Nat.eq_of_beq_eq_true hz.2]
      exact ⟨World.ownsRow_nil w 0 e _, .inl ⟨rfl, rfl⟩⟩
  · rename_i k
    split at h
    · rename_i e' l hk
      split at h
      · rename_i he
        subst he
        simp only [Option.some.injEq] at h
        subst h
        unfold rel at hx
        rw [hx.2.1]
        exact ⟨(hm.obj k _ hk).2.1, .inr ⟨k, _, rfl, hk, rfl, rfl⟩⟩
      · cases h
    · cases h
  · rename_i k sz lo n
    split at h
    · rename_i e' l hk
      split at h
      · rename_i he
        subst he
        cases hz : (Nat.beq lo 0 && Nat.beq sz (E.fm e').sz) with
        | false => simp [hz] at h
        | true =>
          simp only [hz, cond_true, Option.some.injEq] at h
          subst h
          simp only [Bool.and_eq_true] at hz
          have e1 := Nat.eq_of_beq_eq_true hz.1
          have e2 := Nat.eq_of_beq_eq_true hz.2
          subst e1
          subst e2
          have hle : n ≤ l.length := hc
          have hln : (l.take n).length = n := by simp; omega
          unfold rel at hx
          obtain ⟨hU, hx⟩ := hx
          have ho := (hm.obj k _ hk).2.1
          rcases hx with ⟨a1, a2, _, a3⟩ | ⟨ad, cc, a1, a2, _, a3⟩ | ⟨g, o, len, cap, o', a1, a2, a3, a4⟩
          · subst a3
            rw [a2]
            refine ⟨by simpa [cellsF] using World.ownsRow_nil w 0 e' _, .inr ⟨k, _, rfl, hk, rfl, by rw [a1]⟩⟩
          · have hl0 : l.length = 0 := by
              rcases ho.2 with ⟨b1, _⟩ | ⟨g', cap', cur, b1, _⟩
              · rw [b1] at a1; cases a1
              · rw [b1] at a1
                simp only [Value.slice.injEq] at a1
                exact a1.2.1
            have hle0 : l = [] := List.eq_nil_of_length_eq_zero hl0
            have e1 : ux = μ k := by rw [a1, a2]
            rw [e1]
            refine ⟨?_, .inr ⟨k, _, rfl, hk, rfl, rfl⟩⟩
            simp only
            rw [hle0] at ho ⊢
            rw [List.take_nil]
            exact ho
          · rcases ho.2 with ⟨b1, _⟩ | ⟨g', cap', cur, b1, b2, b3, b4, b5, b6, b7⟩
            · rw [b1] at a1; cases a1
            · rw [b1] at a1
              cases a1
              have e0 : o' = 0 := by
                rcases a3 with a3 | a3
                · exact absurd rfl a3.2
                · rw [a3]; simp
              subst e0
              rw [a2]
              refine ⟨⟨by rw [cellsF_length], .inr ⟨g, cap, cur, by simp only [Nat.sub_zero]; rw [hln], b2, b3, by simp only; rw [hln]; omega, b5, b6, ?_⟩⟩, .inr ⟨k, _, rfl, hk, rfl, by rw [b1]; rfl⟩⟩
              simp only
              rw [hln, cellsF_take, ← b7, List.take_take]
              congr 1
              rw [Nat.min_eq_left]
              exact Nat.mul_le_mul_right _ hle
      · cases h
    · cases h
  · rename_i k lo n cap
    split at h
    · rename_i t cs hk
      split at h
      · rename_i he
        subst he
        cases hz : (Nat.beq lo 0 && Nat.ble n cap && Nat.ble cap 1000000 && Nat.beq cs.length (cap * (E.fm t).sz)) with
        | false => simp [hz] at h
        | true =>
          simp only [hz, cond_true] at h
          simp only [Bool.and_eq_true] at hz
          have e1 := Nat.eq_of_beq_eq_true hz.1.1.1
          have e2 := Nat.le_of_ble_eq_true hz.1.1.2
          have e3 := Nat.le_of_ble_eq_true hz.1.2
          have e4 := Nat.eq_of_beq_eq_true hz.2
          subst e1
          split at h
          · rename_i vs hv
            split at h
            · rename_i l hd
              simp only [Option.some.injEq] at h
              subst h
              obtain ⟨d1, d2⟩ := decL_ok _ _ _ _ hd
              obtain ⟨g, us, h1, h2, h3, h4⟩ := (hm.obj k _ hk).2
              unfold rel at hx
              obtain ⟨hU, g', h1', hx⟩ := hx
              rw [h1] at h1'
              cases h1'
              have hul := h3.length
              rw [hx]
              refine ⟨⟨by rw [cellsF_length], .inr ⟨g, cap, us.toArray, by simp only; rw [d2], Nat.zero_le _, h4, by simp only; rw [d2]; exact e2, by unfold maxLen; omega, by simp; omega, ?_⟩⟩, .inr ⟨k, _, rfl, hk, rfl, by rw [h1]; rfl⟩⟩
              simp only
              rw [d1, d2, ← allV_slots (h3.take (n * (E.fm t).sz)) hv]
            · cases h
          · cases h
      · cases h
    · cases h
  · cases h
def xAppend (b : Tab E) (key : Nat) (t tx : TypeId) (x y : SV) (d : List (Dec E)) : Option (Res E) := match E.P.underlying t with
  | some (.slice e) => match E.P.info? e with
    | some i => match i.zero with
      | some z => bif Nat.beq i.size (E.fm e).sz && Nat.beq z.cells.size (E.fm e).sz then (match dstS b e x, srcS b e tx y with
        | some D, some (news, c) => match D.k with
          | some k => some ⟨.o key, [(key, .own e (D.l ++ news)), (k, .gone)], key + 1, D.c ++ (c ++ [Room (D.l.length + news.length) i.bytes]), d⟩
          | none => some ⟨.o key, [(key, .own e (D.l ++ news))], key + 1, D.c ++ (c ++ [Room (D.l.length + news.length) i.bytes]), d⟩
        | _, _ => none) else none
      | none => none
    | none => none
  | _ => none
theorem own_slice {e : TypeId} {sz n : Nat} {v : Value} {xs : List Value} (h : w.ownsRow 0 e sz v n xs) : ∃ a n c, v = .slice a n c := by
  rcases h.2 with ⟨rfl, _⟩ | ⟨g, cap, cur, rfl, _⟩ <;> exact ⟨_, _, _, rfl⟩
theorem xAppend_ok {t tx ty : TypeId} {x y : SV} {d : List (Dec E)} {R : Res E} (h : xAppend b key t tx x y d = some R) (hcn : Conj R.c) (hf : Free U key R.n) (hm : Mem S w0 U μ b w) {ux uy : Value} (hx : rel U μ x ux) (hy : rel U μ y uy) :
    Good S w0 U μ b key R ((Builtin.append_ #[t, tx] ty #[ux, uy]).run E.P w) := by
  unfold xAppend at h
  split at h
  · rename_i e ht
    split at h
    · rename_i i hi
      split at h
      · rename_i z hz
        cases hcd : (Nat.beq i.size (E.fm e).sz && Nat.beq z.cells.size (E.fm e).sz) with
        | false => simp [hcd] at h
        | true =>
          simp only [hcd, cond_true] at h
          simp only [Bool.and_eq_true] at hcd
          have e1 := Nat.eq_of_beq_eq_true hcd.1
          have e2 := Nat.eq_of_beq_eq_true hcd.2
          split at h
          · rename_i D news c hD hsrc
            have fin : ∀ (u : Tab E) , R = ⟨.o key, u, key + 1, D.c ++ (c ++ [Room (D.l.length + news.length) i.bytes]), d⟩ → (match D.k with | some k => u = [(key, .own e (D.l ++ news)), (k, .gone)] | none => u = [(key, .own e (D.l ++ news))]) →
                Good S w0 U μ b key R ((Builtin.append_ #[t, tx] ty #[ux, uy]).run E.P w) := by
              intro u hR hu
              subst hR
              have c1 := Conj.app hcn
              have c2 := Conj.app c1.2
              have hroom : Room (D.l.length + news.length) i.bytes := c2.2
              have hS := srcS_ok hsrc c2.1 hm hy e1
              obtain ⟨hown, hk⟩ := dstS_ok hD c1.1 hm hx
              rw [← e1] at hown
              obtain ⟨v', w', r1, r2, r3, r4⟩ := run_append_src_at (P := E.P) w 0 t tx ty e i z ht hi hz (by rw [e2, e1]) (by rw [e1]; exact (E.fm e).pos) ux _ _ hown uy _ _ hS hroom (Nat.zero_le _)
              rw [e1, ← List.length_append, ← cellsF_app] at r2
              have hkey : ¬ U key := hf key (Nat.le_refl _) (Nat.lt_succ_self _)
              have hS' : ∀ g, blk v' = some g → ¬ S g := by
                intro g hg hSg
                have hlt := Nat.lt_of_lt_of_le (hm.dom.1 g hSg) hm.kept.size
                rcases r4 g hg with r4 | r4
                · rcases hk with ⟨_, hk⟩ | ⟨k, x, _, hk1, hk2, hk3⟩
                  · rw [hk] at r4; cases r4
                  · exact ((hm.obj k x hk1).2.lt hk2 (by rw [← hk3]; exact r4)).2 hSg
                · omega
              refine ⟨v', w', upd μ key v', r1, upd_old hkey, ?_, ?_⟩
              · unfold rel
                exact ⟨.inr ⟨Nat.le_refl _, Nat.lt_succ_self _⟩, upd_same.symm, by rw [upd_same]; exact own_slice r2⟩
              · have hh : Holds S w0 (Up U key (key + 1)) (upd μ key v') w' key (.own e (D.l ++ news)) := ⟨by rw [upd_same]; exact r2, by rw [upd_same]; exact hS'⟩
                rcases hk with ⟨hk0, hk⟩ | ⟨k, x, hk0, hk1, hk2, hk3⟩
                · rw [hk0] at hu
                  simp only at hu
                  subst hu
                  rw [hk] at r3
                  refine hm.new hf r3 v' _ hh (fun g hg => ?_)
                  rcases r4 g hg with r4 | r4
                  · rw [hk] at r4; cases r4
                  · exact r4
                · rw [hk0] at hu
                  simp only at hu
                  subst hu
                  rw [hk3] at r3
                  exact hm.pass hf hk1 hk2 r3 v' hh (fun g hg => by rw [← hk3]; exact r4 g hg)
            split at h
            · rename_i k hDk
              simp only [Option.some.injEq] at h
              exact fin _ h.symm (by rw [hDk])
            · rename_i hDk
              simp only [Option.some.injEq] at h
              exact fin _ h.symm (by rw [hDk])
          · cases h
      · cases h
    · cases h
  · cases h
/-- append to a view without room: nothing, or a new row. -/
def xAppendC (b : Tab E) (key : Nat) (t tx : TypeId) (x y : SV) (d : List (Dec E)) : Option (Res E) := match x with
  | .c _ _ _ n => match E.P.underlying t with
    | some (.slice e) => match E.P.info? e with
      | some i => match i.zero with
        | some z => bif Nat.beq i.size (E.fm e).sz && Nat.beq z.cells.size (E.fm e).sz then (match viewOf b e x, srcS b e tx y with
          | some V, some (news, c) => if h : V.e = e then (match d with
            | .t :: r => some ⟨x, [], key, V.c ++ (c ++ [Nat.beq news.length 0 = true]), r⟩
            | .f :: r => some ⟨.o key, [(key, .own e ((h ▸ V.l) ++ news))], key + 1, V.c ++ (c ++ [Nat.beq news.length 0 = false, Room (n + news.length) i.bytes]), r⟩
            | .l :: r => bif Nat.beq news.length 0 then some ⟨x, [], key, V.c ++ (c ++ [Nat.beq news.length 0 = true]), r⟩ else some ⟨.o key, [(key, .own e ((h ▸ V.l) ++ news))], key + 1, V.c ++ (c ++ [Nat.beq news.length 0 = false, Room (n + news.length) i.bytes]), r⟩
            | [] => some ⟨x, [], key, V.c ++ (c ++ [Nat.beq news.length 0 = true]), []⟩
            | _ => none) else none
          | _, _ => none) else none
        | none => none
      | none => none
    | _ => none
  | _ => none
theorem bif_or {α : Type} {c : Bool} {a b r : α} (h : (bif c then some a else some b) = some r) : a = r ∨ b = r := by
  cases c with
  | true => exact .inl (Option.some.inj h)
  | false => exact .inr (Option.some.inj h)
theorem append_none {P : Program} (t tx ty e : TypeId) (i : TypeInfo) (ht : P.underlying t = some (.slice e)) (hi : P.info? e = some i) (ao : Option Addr) (n cap : Nat) (hc : n ≤ cap) (x : Value) (news : List Value) (hs : Src P i.size tx x 0 news w) (hn : news = []) :
    (Builtin.append_ #[t, tx] ty #[.slice ao n cap, x]).run P w = .ok (.slice ao n cap) w := by
  subst hn
  have hcells : (Builtin.firstCells i.size 0 x).run P w = .ok #[] w := by simpa using hs.cells
  cases ao <;> rcases hs.kind with ⟨e', hk⟩ | hk <;> simp [Builtin.append_, run_underlying ht, run_underlying hk, sizeOf, typeInfo, hi, hs.len, hcells, hc, storeCells]
theorem xAppendC_ok {t tx ty : TypeId} {x y : SV} {d : List (Dec E)} {R : Res E} (h : xAppendC b key t tx x y d = some R) (hcn : Conj R.c) (hf : Free U key R.n) (hm : Mem S w0 U μ b w) {ux uy : Value} (hx : rel U μ x ux) (hy : rel U μ y uy) :
    Good S w0 U μ b key R ((Builtin.append_ #[t, tx] ty #[ux, uy]).run E.P w) := by
  unfold xAppendC at h
  split at h
  · rename_i k sz lo n
    split at h
    · rename_i e ht
      split at h
      · rename_i i hi
        split at h
        · rename_i z hz
          cases hcd : (Nat.beq i.size (E.fm e).sz && Nat.beq z.cells.size (E.fm e).sz) with
          | false => simp [hcd] at h
          | true =>
            simp only [hcd, cond_true] at h
            simp only [Bool.and_eq_true] at hcd
            have e1 := Nat.eq_of_beq_eq_true hcd.1
            have e2 := Nat.eq_of_beq_eq_true hcd.2
            split at h
            · rename_i V news c hV hsrc
              split at h
              · rename_i hVe
                have hu : ∃ ao, ux = .slice ao n n := by
                  have hx' := hx
                  unfold rel at hx'
                  rcases hx'.2 with ⟨_, q, _, q'⟩ | ⟨a, c, _, q, _, q'⟩ | ⟨g, o, len, cap, o', _, q, _⟩
                  · exact ⟨none, by rw [q, q']⟩
                  · exact ⟨_, by rw [q, q']⟩
                  · exact ⟨_, q⟩
                obtain ⟨ao, hu⟩ := hu
                have caseT : ∀ r, R = ⟨.c k sz lo n, [], key, V.c ++ (c ++ [Nat.beq news.length 0 = true]), r⟩ → Good S w0 U μ b key R ((Builtin.append_ #[t, tx] ty #[ux, uy]).run E.P w) := by
                  intro r hR
                  subst hR
                  have c1 := Conj.app hcn
                  have c2 := Conj.app c1.2
                  have hz0 : news.length = 0 := Nat.eq_of_beq_eq_true c2.2
                  have hS := srcS_ok hsrc c2.1 hm hy e1
                  have hn0 : news = [] := List.eq_nil_of_length_eq_zero hz0
                  subst hn0
                  refine good_plain hm ?_ hx
                  rw [hu]
                  exact append_none t tx ty e i ht hi ao n n (Nat.le_refl _) uy _ hS (by simp [cellsF])
                have caseF : ∀ r, R = ⟨.o key, [(key, .own e ((hVe ▸ V.l) ++ news))], key + 1, V.c ++ (c ++ [Nat.beq news.length 0 = false, Room (n + news.length) i.bytes]), r⟩ → Good S w0 U μ b key R ((Builtin.append_ #[t, tx] ty #[ux, uy]).run E.P w) := by
                  intro r hR
                  subst hR
                  have c1 := Conj.app hcn
                  have c2 := Conj.app c1.2
                  have c3 : Nat.beq news.length 0 = false ∧ Room (n + news.length) i.bytes := Conj.cons c2.2
                  have hpos : 0 < news.length := by
                    cases hl : news.length with
                    | zero => rw [hl] at c3; exact absurd c3.1 (by decide)
                    | succ q => omega
                  obtain ⟨h63, hbytes⟩ := c3.2
                  have hsmall : n + news.length ≤ 9223372036854775807 := by simp only [maxLen] at h63; omega
                  have hS := srcS_ok hsrc c2.1 hm hy e1
                  have hview := view_reads hm hx hV c1.1
                  obtain ⟨Ve, Vl, Vc⟩ := V
                  simp only at hVe hview
                  subst hVe
                  simp only at hview ⊢
                  have hlen : Vl.length = n ∧ (Builtin.firstCells i.size n (.slice ao n n)).run E.P w.drew = .ok (cellsF (E.fm Ve) Vl).toArray w.drew := by
                    rcases hview with ⟨q, q'⟩ | ⟨q, a, cc, q'⟩ | ⟨g, o, cap, q, q1, q2, q3⟩
                    · rw [hu] at q
                      simp only [Value.slice.injEq] at q
                      obtain ⟨qa, qb, _⟩ := q
                      subst q'
                      subst qb
                      subst qa
                      exact ⟨rfl, by simpa [cellsF] using run_firstCells_none (P := E.P) w.drew i.size 0 0 0⟩
                    · rw [hu] at q'
                      simp only [Value.slice.injEq] at q'
                      obtain ⟨qa, qb, _⟩ := q'
                      subst q
                      subst qb
                      subst qa
                      refine ⟨rfl, ?_⟩
                      exact run_firstCells_some (P := E.P) w.drew i.size 0 a 0 0 [] (by simp) (by simp)
                    · rw [hu] at q
                      simp only [Value.slice.injEq] at q
                      obtain ⟨qa, qb, qc⟩ := q
                      subst qa
                      refine ⟨qb.symm, ?_⟩
                      refine run_firstCells_some (P := E.P) w.drew i.size n ⟨g, o, none⟩ n n _ (by rw [cellsF_length, ← qb, e1]) (fun j u hj => ?_)
                      have := q3 j u hj
                      rw [addr_add]
                      simpa using this
                  have hr := run_append_grow_src (P := E.P) w t tx ty Ve i z ht hi hz ao n n _ hlen.2 uy news.length _ hS (by omega) (by omega) (growslice_fits_wide (by omega) hbytes)
                  have hkey : ¬ U key := hf key (Nat.le_refl _) (Nat.lt_succ_self _)
                  have hge := grownCap_ge w (n + news.length) n Ve
                  have hcm : grownCap w (n + news.length) n Ve ≤ maxLen := grownCap_le_maxLen w (n + news.length) n Ve h63
                  have hl2 : (cellsF (E.fm Ve) Vl ++ cellsF (E.fm Ve) news).length = (n + news.length) * i.size := by
                    rw [List.length_append, cellsF_length, cellsF_length, hlen.1, e1, Nat.add_mul]
                  have hown : (w.drew.alloc (.cells ((cellsF (E.fm Ve) Vl ++ cellsF (E.fm Ve) news).toArray ++ Builtin.zeroCells z.cells (grownCap w (n + news.length) n Ve - (n + news.length))) Ve)).ownsRow 0 Ve i.size
                      (.slice (some ⟨w.heap.size, 0, none⟩) (n + news.length) (grownCap w (n + news.length) n Ve)) (n + news.length) (cellsF (E.fm Ve) Vl ++ cellsF (E.fm Ve) news) := by
                    refine ⟨hl2, .inr ⟨w.heap.size, _, _, rfl, Nat.zero_le _, heap_alloc_new w.drew _, hge, hcm, ?_, ?_⟩⟩
                    · rw [Array.size_append, List.size_toArray, size_zeroCells, e2, ← e1, hl2, ← Nat.add_mul]
                      congr 1
                      omega
                    · rw [Array.toList_append, ← hl2]
                      exact List.take_left
                  have hgrow : w.grownBy (w.drew.alloc (.cells ((cellsF (E.fm Ve) Vl ++ cellsF (E.fm Ve) news).toArray ++ Builtin.zeroCells z.cells (grownCap w (n + news.length) n Ve - (n + news.length))) Ve)) none :=
                    ⟨rfl, rfl, rfl, by simp, fun k hk _ => heap_alloc_old w.drew _ hk⟩
                  have hl3 : n + news.length = (Vl ++ news).length := by rw [List.length_append, hlen.1]
                  rw [e1, ← cellsF_app, hl3] at hown
                  refine ⟨.slice (some ⟨w.heap.size, 0, none⟩) (n + news.length) (grownCap w (n + news.length) n Ve), _, upd μ key (.slice (some ⟨w.heap.size, 0, none⟩) (n + news.length) (grownCap w (n + news.length) n Ve)), by rw [hu]; exact hr, upd_old hkey, ?_, ?_⟩
                  · unfold rel
                    exact ⟨.inr ⟨Nat.le_refl _, Nat.lt_succ_self _⟩, upd_same.symm, by rw [upd_same]; exact ⟨_, _, _, rfl⟩⟩
                  · refine hm.new hf hgrow _ _ ⟨by rw [upd_same, hl3, ← cellsF_app]; exact hown, fun g hg => ?_⟩ (fun g hg => ?_)
                    · rw [upd_same] at hg
                      simp only [blk, Option.some.injEq] at hg
                      subst hg
                      intro hSg
                      have := Nat.lt_of_lt_of_le (hm.dom.1 _ hSg) hm.kept.size
                      omega
                    · simp only [blk, Option.some.injEq] at hg
                      omega
                split at h
                · simp only [Option.some.injEq] at h; exact caseT _ h.symm
                · simp only [Option.some.injEq] at h; exact caseF _ h.symm
                · rename_i r
                  rcases bif_or h with e | e
                  · exact caseT _ e.symm
                  · exact caseF _ e.symm
                · simp only [Option.some.injEq] at h; exact caseT _ h.symm
                · cases h
              · cases h
            · cases h
        · cases h
      · cases h
    · cases h
  · cases h
end
end
end Go.Proofs.YtpfignfgfhbblaaGreatDoorSx
/- The symbolic machine's single steps: rows that are made, literals, strings of bytes, parts of structs. -/
set_option linter.unusedVariables false
set_option linter.unusedSimpArgs false
namespace Go.Proofs.YtpfignfgfhbblaaGreatDoorSx
open Go.RowKit Go.Proofs.YtpfignfgfhbblaaGreatDoorW.PrintLast Go.Proofs.YtpfignfgfhbblaaGreatDoorW.PrintWords
noncomputable section
section
variable {E : Env} {S : Nat → Prop} {w0 w w' : World} {U : Nat → Prop} {μ : Nat → Value} {b : Tab E} {key : Nat}
/-! ### Rows of zeros -/
theorem zeros_cells (F : Fmt) (z : Array Value) (a : F.α) (n : Nat) (hz : F.enc a = z.toList) : ((Array.range (n * z.size)).map fun i => z[i % z.size]!).toList = cellsF F (List.replicate n a) := by
  have hs : z.size = F.sz := by
    have h1 := F.len a
    rw [hz] at h1
    simpa using h1
  have hpos := F.pos
  refine List.ext_getElem? (fun j => ?_)
  by_cases hj : j < n * F.sz
  · have hr : j % F.sz < F.sz := Nat.mod_lt _ hpos
    have hq : j / F.sz < n := Nat.div_lt_of_lt_mul (by rw [Nat.mul_comm]; exact hj)
    have hjd : j = (j / F.sz) * F.sz + j % F.sz := by rw [Nat.mul_comm]; exact (Nat.div_add_mod j F.sz).symm
    have e := cellsF_get F (List.replicate n a) (j / F.sz) (j % F.sz) a (by simp [hq]) hr
    rw [← hjd, hz] at e
    rw [e, hs]
    have hlt : j % F.sz < z.size := by omega
    simp [hj, hlt]
  · rw [List.getElem?_eq_none (by simp [hs]; omega), List.getElem?_eq_none (by rw [cellsF_length]; simp; omega)]
def xMake (b : Tab E) (key : Nat) (t : TypeId) (x y : SV) (d : List (Dec E)) : Option (Res E) := match E.P.underlying t with
  | some (.slice e) => match E.P.info? e, intS x, intS y with
    | some i, some l, some c => match i.zero with
      | some z => match (E.fm e).dec z.cells.toList with
        | some a => bif Nat.beq i.size (E.fm e).sz && Nat.beq z.cells.size (E.fm e).sz then some ⟨.o key, [(key, .own e (List.replicate l.toNat a))], key + 1, [0 ≤ l ∧ l ≤ c ∧ c ≤ maxLen ∧ (i.bytes : Int) * c ≤ 281474976710656], d⟩ else none
        | none => none
      | none => none
    | _, _, _ => none
  | _ => none
theorem xMake_ok {t : TypeId} {x y : SV} {d : List (Dec E)} {R : Res E} (h : xMake b key t x y d = some R) (hcn : Conj R.c) (hf : Free U key R.n) (hm : Mem S w0 U μ b w) {ux uy : Value} (hx : rel U μ x ux) (hy : rel U μ y uy) :
    Good S w0 U μ b key R ((Instr.makeSlice t ux uy).run E.P w) := by
  unfold xMake at h
  split at h
  · rename_i e ht
    split at h
    · rename_i i l c hi hl hc
      split at h
      · rename_i z hz
        split at h
        · rename_i a ha
          cases hcd : (Nat.beq i.size (E.fm e).sz && Nat.beq z.cells.size (E.fm e).sz) with
          | false => simp [hcd] at h
          | true =>
            simp only [hcd, cond_true, Option.some.injEq] at h
            subst h
            simp only [Bool.and_eq_true] at hcd
            have e1 := Nat.eq_of_beq_eq_true hcd.1
            have e2 := Nat.eq_of_beq_eq_true hcd.2
            obtain ⟨kl, rfl⟩ := intS_rel hx hl
            obtain ⟨kc, rfl⟩ := intS_rel hy hc
            obtain ⟨c0, c1, c2, c3⟩ : 0 ≤ l ∧ l ≤ c ∧ c ≤ maxLen ∧ (i.bytes : Int) * c ≤ 281474976710656 := hcn
            have hmx : c ≤ 9223372036854775807 := by simp only [maxLen] at c2; omega
            have hr := run_make (P := E.P) w t e i z ht hi hz kl kc l c c0 c1 c3 hmx
            have hkey : ¬ U key := hf key (Nat.le_refl _) (Nat.lt_succ_self _)
            have henc := (E.fm e).inv _ _ ha
            have hrow : (w.alloc (.cells (madeCells z.cells (c.toNat * i.size)) e)).ownsRow 0 e (E.fm e).sz (.slice (some ⟨w.heap.size, 0, none⟩) l.toNat c.toNat) (List.replicate l.toNat a).length (cellsF (E.fm e) (List.replicate l.toNat a)) := by
              refine ⟨by rw [cellsF_length], .inr ⟨w.heap.size, c.toNat, _, by simp, Nat.zero_le _, heap_alloc_new w _, by simp; omega, by simp only [maxLen] at c2 ⊢; omega, by rw [size_madeCells, e1], ?_⟩⟩
              have hz2 := zeros_cells (E.fm e) z.cells a c.toNat henc
              rw [e2, ← e1] at hz2
              have hm2 : (madeCells z.cells (c.toNat * i.size)).toList = cellsF (E.fm e) (List.replicate c.toNat a) := by
                rw [← hz2]
                unfold madeCells
                rw [e2, e1]
              rw [hm2, List.length_replicate, ← cellsF_take, List.take_replicate, Nat.min_eq_left (by omega)]
            refine ⟨_, _, upd μ key (.slice (some ⟨w.heap.size, 0, none⟩) l.toNat c.toNat), hr, upd_old hkey, ?_, ?_⟩
            · unfold rel
              exact ⟨.inr ⟨Nat.le_refl _, Nat.lt_succ_self _⟩, upd_same.symm, by rw [upd_same]; exact ⟨_, _, _, rfl⟩⟩
            · refine hm.new hf (World.grownBy_alloc w _ none) _ _ ⟨by rw [upd_same]; exact hrow, fun g hg hS => ?_⟩ (fun g hg => by simp [blk] at hg; omega)
              rw [upd_same] at hg
              simp [blk] at hg
              have := Nat.lt_of_lt_of_le (hm.dom.1 g hS) hm.kept.size
              omega
        · cases h
      · cases h
    · cases h
  · cases h
theorem Mem.dup (hm : Mem S w0 U μ b w) {k : Nat} {x : SObj E} (hk : look b k = some x) : Mem S w0 U μ ((k, x) :: b) w := by
  have hl : ∀ j y, look ((k, x) :: b) j = some y → look b j = some y := by
    intro j y hy
    rw [look_cons] at hy
    by_cases e : j = k
    · rw [if_pos e] at hy
      rw [e, hk]
      exact hy
    · rw [if_neg e] at hy
      exact hy
  exact ⟨fun j y hy => hm.obj j y (hl j y hy), fun k1 k2 x1 x2 g h1 h2 => hm.sep k1 k2 x1 x2 g (hl _ _ h1) (hl _ _ h2), hm.kept, hm.dom⟩
theorem take_splice {cur Z : List Value} {p L : Nat} (h : p + Z.length ≤ L) (hL : L ≤ cur.length) : (splice cur p Z).take L = (cur.take L).take p ++ (Z ++ (cur.take L).drop (p + Z.length)) := by
  unfold splice
  rw [List.append_assoc, List.take_append, List.take_append, List.take_take, List.take_take, List.drop_take, List.length_take, Nat.min_eq_left (by omega : p ≤ cur.length), Nat.min_eq_right (by omega : p ≤ L), Nat.min_eq_left (by omega : p ≤ L), List.take_of_length_le (by omega : Z.length ≤ L - p)]
  congr 3
  omega
theorem own_clear (hm : Mem S w0 U μ b w) {k : Nat} {e : TypeId} {l : List (E.fm e).α} (hk : look b k = some (.own e l)) {g o len cap : Nat} (hμ : μ k = .slice (some ⟨g, o, none⟩) len cap) {lo n : Nat} (hi : lo + n ≤ l.length) (a : (E.fm e).α) :
    o = 0 ∧ ∃ cur : Array Value, w.heap[g]? = some (.cells cur e (0, 0)) ∧ lo * (E.fm e).sz + (cellsF (E.fm e) (List.replicate n a)).length ≤ cur.size ∧
      Mem S w0 U μ ((k, .own e (l.take lo ++ (List.replicate n a ++ l.drop (lo + n)))) :: b) (w.setRow g (splice cur.toList (lo * (E.fm e).sz) (cellsF (E.fm e) (List.replicate n a))).toArray) := by
  have h := (hm.obj k _ hk).2
  have ho := h.1
  rcases ho.2 with ⟨h1, h2⟩ | ⟨g', cap', cur, h1, h0, h2, h3, h4, h5, h6⟩
  · rw [h1] at hμ; cases hμ
  · rw [h1] at hμ
    cases hμ
    have hb : lo * (E.fm e).sz + n * (E.fm e).sz ≤ l.length * (E.fm e).sz := by
      rw [← Nat.add_mul]
      exact Nat.mul_le_mul_right _ hi
    have hcur : l.length * (E.fm e).sz ≤ cur.size := by
      rw [h5]
      exact Nat.mul_le_mul_right _ h3
    have hvl : (cellsF (E.fm e) (List.replicate n a)).length = n * (E.fm e).sz := by rw [cellsF_length, List.length_replicate]
    have hle : lo * (E.fm e).sz + (cellsF (E.fm e) (List.replicate n a)).length ≤ cur.toList.length := by
      rw [hvl, Array.length_toList]
      omega
    have hlen : (l.take lo ++ (List.replicate n a ++ l.drop (lo + n))).length = l.length := by
      simp only [List.length_append, List.length_take, List.length_replicate, List.length_drop]
      omega
    refine ⟨rfl, cur, h2, by rw [Array.length_toList] at hle; exact hle, ?_⟩
    refine hm.turn hk rfl (by rw [h1]; exact setRow_grown w g _) ⟨⟨?_, .inr ⟨g, cap, _, by rw [h1, hlen], h0, setRow_heap w g cur _ e (0, 0) h2, by rw [hlen]; exact h3, h4, ?_, ?_⟩⟩, h.2⟩
    · rw [cellsF_length]
    · rw [← h5]; simp [splice_length hle]
    · rw [hlen, cellsF_app, cellsF_app, cellsF_take, cellsF_drop, ← h6]
      simp only [List.toList_toArray]
      rw [take_splice (by omega) (by rw [Array.length_toList]; omega), hvl, Nat.add_mul]
/-- 'clear' of a view of a row of the call's own. -/
def xClear (b : Tab E) (key : Nat) (t : TypeId) (x : SV) (d : List (Dec E)) : Option (Res E) := match E.P.underlying t, x with
  | some (.slice e), .s k sz lo n => match look b k, E.P.info? e with
    | some (.own e' l), some i => match i.zero with
      | some z => match (E.fm e').dec z.cells.toList with
        | some a => bif Nat.beq e' e && (Nat.beq sz (E.fm e').sz && Nat.beq z.cells.size (E.fm e').sz) then some ⟨.v (.tuple #[]), [(k, .own e' (l.take lo ++ (List.replicate n a ++ l.drop (lo + n))))], key, [lo + n ≤ l.length], d⟩ else none
        | none => none
      | none => none
    | _, _ => none
  | _, _ => none
theorem xClear_ok {t ty : TypeId} {x : SV} {d : List (Dec E)} {R : Res E} (h : xClear b key t x d = some R) (hcn : Conj R.c) (hm : Mem S w0 U μ b w) {ux : Value} (hx : rel U μ x ux) : Good S w0 U μ b key R ((Builtin.clear_ #[t] ty #[ux]).run E.P w) := by
  unfold xClear at h
  split at h
  · rename_i e k sz lo n ht
    split at h
    · rename_i e' l i hk hi
      split at h
      · rename_i z hz
        split at h
        · rename_i a ha
          cases hcd : (Nat.beq e' e && (Nat.beq sz (E.fm e').sz && Nat.beq z.cells.size (E.fm e').sz)) with
          | false => simp [hcd] at h
          | true =>
            simp only [hcd, cond_true, Option.some.injEq] at h
            subst h
            simp only [Bool.and_eq_true] at hcd
            have e1 := Nat.eq_of_beq_eq_true hcd.1
            have e2 := Nat.eq_of_beq_eq_true hcd.2.1
            have e3 := Nat.eq_of_beq_eq_true hcd.2.2
            subst e1
            have hlen : lo + n ≤ l.length := hcn
            unfold rel at hx
            obtain ⟨hU, hs⟩ := hx
            have hsame : n = 0 → Mem S w0 U μ ((k, .own e' (l.take lo ++ (List.replicate n a ++ l.drop (lo + n)))) :: b) w := by
              intro e0
              subst e0
              have : l.take lo ++ (List.replicate 0 a ++ l.drop (lo + 0)) = l := by simp
              rw [this]
              exact hm.dup hk
            rcases hs with ⟨m1, m2, m3, m4⟩ | ⟨a', c', m1, m2, m3, m4⟩ | ⟨g, o, len, cap, o', m1, m2, m3, m4⟩
            · refine ⟨.tuple #[], w, μ, ?_, fun _ _ => rfl, rel_up (rel_v.2 rfl), (hsame m4).up key⟩
              rw [m2]
              simp [Builtin.clear_, run_underlying ht]
            · refine ⟨.tuple #[], w, μ, ?_, fun _ _ => rfl, rel_up (rel_v.2 rfl), (hsame m4).up key⟩
              rw [m2]
              simp [Builtin.clear_, run_underlying ht]
            · cases n with
              | zero =>
                refine ⟨.tuple #[], w, μ, ?_, fun _ _ => rfl, rel_up (rel_v.2 rfl), (hsame rfl).up key⟩
                rw [m2]
                simp [Builtin.clear_, run_underlying ht]
              | succ n =>
                have ho' : o' = o + lo * sz := by
                  rcases m3 with m3 | m3
                  · omega
                  · exact m3
                obtain ⟨h0, cur, q1, q2, q3⟩ := own_clear hm hk m1 hlen a
                subst h0
                rw [Nat.zero_add, e2] at ho'
                have henc := (E.fm e').inv _ _ ha
                have hzc := zeros_cells (E.fm e') z.cells a (n + 1) henc
                have hst := run_storeCells_at (P := E.P) g (lo * (E.fm e').sz) e' (cellsF (E.fm e') (List.replicate (n + 1) a)) 0 cur w q1 (by simpa using q2) (cellsF_one _ _)
                rw [Nat.add_zero] at hst
                have hzv : (zeroValue e').run E.P w = .ok z w := by simp [zeroValue, typeInfo, hi, hz]
                refine ⟨.tuple #[], _, μ, ?_, fun _ _ => rfl, rel_up (rel_v.2 rfl), q3.up key⟩
                rw [m2, ho']
                have hz2 : (Builtin.zeroCells z.cells (n + 1)).toList = cellsF (E.fm e') (List.replicate (n + 1) a) := hzc
                simp [Builtin.clear_, run_underlying ht, hzv, hz2, hst, splice]
        · cases h
      · cases h
    · cases h
  · cases h
def xAppendZ (b : Tab E) (key : Nat) (t tx : TypeId) (x y : SV) (d : List (Dec E)) : Option (Res E) := match E.P.underlying t, E.P.underlying tx with
  | some (.slice e), some (.int _) => match E.P.info? e, x, intS y with
    | some i, .v (.slice none n c), some l => match i.zero with
      | some z => match (E.fm e).dec z.cells.toList with
        | some a => bif Nat.beq n 0 && Nat.beq c 0 && Nat.beq i.size (E.fm e).sz && Nat.beq z.cells.size (E.fm e).sz then some ⟨.o key, [(key, .own e (List.replicate l.toNat a))], key + 1, [0 < l ∧ Room (2 * l.toNat) i.bytes], d⟩ else none
        | none => none
      | none => none
    | _, _, _ => none
  | _, _ => none
theorem xAppendZ_ok {t tx ty : TypeId} {x y : SV} {d : List (Dec E)} {R : Res E} (h : xAppendZ b key t tx x y d = some R) (hcn : Conj R.c) (hf : Free U key R.n) (hm : Mem S w0 U μ b w) {ux uy : Value} (hx : rel U μ x ux) (hy : rel U μ y uy) :
    Good S w0 U μ b key R ((Builtin.append_ #[t, tx] ty #[ux, uy]).run E.P w) := by
  unfold xAppendZ at h
  split at h
  · rename_i e kt ht htn
    split at h
    · rename_i i n c l hi hl
      split at h
      · rename_i z hz
        split at h
        · rename_i a ha
          cases hcd : (Nat.beq n 0 && Nat.beq c 0 && Nat.beq i.size (E.fm e).sz && Nat.beq z.cells.size (E.fm e).sz) with
          | false => simp [hcd] at h
          | true =>
            simp only [hcd, cond_true, Option.some.injEq] at h
            subst h
            simp only [Bool.and_eq_true] at hcd
            have en := Nat.eq_of_beq_eq_true hcd.1.1.1
            have ec := Nat.eq_of_beq_eq_true hcd.1.1.2
            have e1 := Nat.eq_of_beq_eq_true hcd.1.2
            have e2 := Nat.eq_of_beq_eq_true hcd.2
            subst en
            subst ec
            obtain ⟨kl, rfl⟩ := intS_rel hy hl
            obtain ⟨c0, c3, c4⟩ : 0 < l ∧ Room (2 * l.toNat) i.bytes := hcn
            have c1 : l.toNat ≤ maxLen := by omega
            have c2 : l.toNat * i.bytes ≤ 140737488355328 := by
              have h5 : 2 * l.toNat * i.bytes ≤ (2 * l.toNat + 2 * l.toNat / 4 + 192) * i.bytes := Nat.mul_le_mul_right _ (by omega)
              rw [Nat.mul_assoc] at h5
              omega
            have hl2 : l = (l.toNat : Int) := by omega
            have hr := Lib.run_append_nil_zeros (P := E.P) w t tx ty e i z kl kt ht htn hi hz l.toNat (by omega) (by rw [e1]; exact (E.fm e).pos) (by simp only [maxLen] at c1; omega) (by omega)
            rw [← hl2] at hr
            have hkey : ¬ U key := hf key (Nat.le_refl _) (Nat.lt_succ_self _)
            have henc := (E.fm e).inv _ _ ha
            have hge := grownCap_ge w l.toNat 0 e
            have hcm := grownCap_le_maxLen w l.toNat 0 e c1
            have hrow : (w.drew.alloc (.cells (Builtin.zeroCells z.cells l.toNat ++ Builtin.zeroCells z.cells (grownCap w l.toNat 0 e - l.toNat)) e)).ownsRow 0 e (E.fm e).sz (.slice (some ⟨w.heap.size, 0, none⟩) l.toNat (grownCap w l.toNat 0 e)) (List.replicate l.toNat a).length (cellsF (E.fm e) (List.replicate l.toNat a)) := by
              refine ⟨by rw [cellsF_length], .inr ⟨w.heap.size, _, _, by simp, Nat.zero_le _, heap_alloc_new w.drew _, by rw [List.length_replicate]; exact hge, hcm, ?_, ?_⟩⟩
              · rw [Array.size_append, size_zeroCells, size_zeroCells, e2, ← Nat.add_mul]
                congr 1
                omega
              · have hz2 := zeros_cells (E.fm e) z.cells a l.toNat henc
                have hm2 : (Builtin.zeroCells z.cells l.toNat).toList = cellsF (E.fm e) (List.replicate l.toNat a) := by
                  rw [← hz2]
                  rfl
                have hlen : (cellsF (E.fm e) (List.replicate l.toNat a)).length = (List.replicate l.toNat a).length * (E.fm e).sz := cellsF_length _ _
                rw [Array.toList_append, hm2, ← hlen]
                exact List.take_left
            refine ⟨_, _, upd μ key (.slice (some ⟨w.heap.size, 0, none⟩) l.toNat (grownCap w l.toNat 0 e)), by rw [rel_v.1 hx]; exact hr, upd_old hkey, ?_, ?_⟩
            · unfold rel
              exact ⟨.inr ⟨Nat.le_refl _, Nat.lt_succ_self _⟩, upd_same.symm, by rw [upd_same]; exact ⟨_, _, _, rfl⟩⟩
            · refine hm.new (x := .own e (List.replicate l.toNat a)) (w' := w.drew.alloc (.cells (Builtin.zeroCells z.cells l.toNat ++ Builtin.zeroCells z.cells (grownCap w l.toNat 0 e - l.toNat)) e)) hf ⟨rfl, rfl, rfl, by simp, fun k hk _ => heap_alloc_old w.drew _ hk⟩ (.slice (some ⟨w.heap.size, 0, none⟩) l.toNat (grownCap w l.toNat 0 e)) ⟨by rw [upd_same]; exact hrow, fun g hg hS => ?_⟩ (fun g hg => by simp [blk] at hg; omega)
              rw [upd_same] at hg
              simp [blk] at hg
              have := Nat.lt_of_lt_of_le (hm.dom.1 g hS) hm.kept.size
              omega
        · cases h
      · cases h
    · cases h
  · cases h
/-! ### Literals -/
def fillS (place : Nat → Option (Nat × Nat)) (cs : List SV) : List (Nat × List SV) → Option (List SV)
  | [] => some cs
  | (i, vs) :: rest => match place i with
    | some (off, size) => bif Nat.beq vs.length size && Nat.ble (off + vs.length) cs.length then fillS place (splice cs off vs) rest else none
    | none => none
theorem fold_splice : ∀ (l : List Value) (k off : Nat) (cells : Array Value), off + k + l.length ≤ cells.size →
    ((l.zipIdx k).foldl (fun cs p => cs.setIfInBounds (off + p.2) p.1) cells).toList = splice cells.toList (off + k) l
  | [], k, off, cells, h => by simp [splice]
  | v :: l, k, off, cells, h => by
    have ih := fold_splice l (k + 1) off (cells.setIfInBounds (off + k) v) (by simp at h ⊢; omega)
    simp only [List.zipIdx_cons, List.foldl_cons]
    rw [ih, Array.toList_setIfInBounds]
    simp only [List.length_cons] at h
    refine List.ext_getElem? (fun j => ?_)
    rw [splice_get (by simp; omega), splice_get (by simp; omega)]
    by_cases c1 : j < off + k
    · rw [if_pos (by omega), if_pos c1, List.getElem?_set_ne (by omega)]
    · rw [if_neg c1]
      by_cases c2 : j = off + k
      · subst c2
        rw [if_pos (by omega), List.getElem?_set_self (by simp; omega), if_pos (by simp)]
        simp
      · rw [if_neg (by omega)]
        by_cases c3 : j < off + k + (v :: l).length
        · simp only [List.length_cons] at c3
          rw [if_pos (by omega), if_pos (by simp; omega)]
          have : j - (off + k) = (j - (off + (k + 1))) + 1 := by omega
          rw [this, List.getElem?_cons_succ]
        · simp only [List.length_cons] at c3
          rw [if_neg (by omega), if_neg (by simp; omega), List.getElem?_set_ne (by omega)]
theorem fill_step (off : Nat) (xs cells : Array Value) (h : off + xs.size ≤ cells.size) : (xs.zipIdx.foldl (fun cs (c, j) => cs.setIfInBounds (off + j) c) cells).toList = splice cells.toList off xs.toList := by
  have := fold_splice xs.toList 0 off cells (by simpa using h)
  rw [Nat.add_zero] at this
  rw [← this, ← Array.foldl_toList, Array.toList_zipIdx]
/-- Each part's cells. -/
def partsS (s : Operand → SV) : List (Nat × Operand) → Option (List (Nat × List SV))
  | [] => some []
  | (i, x) :: r => match cellsS (s x), partsS s r with
    | some vs, some l => some ((i, vs) :: l)
    | _, _ => none
theorem fill_ok {place : Nat → Option (Nat × Nat)} {s : Operand → SV} {ev : Operand → Value} (hs : ∀ x, rel U μ (s x) (ev x)) : ∀ {ps : List (Nat × Operand)} {pl : List (Nat × List SV)} {cs cs' : List SV} {arr : Array Value}, partsS s ps = some pl → Slots U μ cs arr.toList → fillS place cs pl = some cs' →
    ∃ arr', Instr.fill place arr (ps.map fun p => (p.1, ev p.2)) = some arr' ∧ Slots U μ cs' arr'.toList
  | [], pl, cs, cs', arr, hp, hc, hf => by
    simp only [partsS, Option.some.injEq] at hp
    subst hp
    simp only [fillS, Option.some.injEq] at hf
    subst hf
    exact ⟨arr, rfl, hc⟩
  | (i, x) :: ps, pl, cs, cs', arr, hp, hc, hf => by
    unfold partsS at hp
    split at hp
    · rename_i vs l hv hl
      simp only [Option.some.injEq] at hp
      subst hp
      unfold fillS at hf
      split at hf
      · rename_i off size hpl
        cases hcd : (Nat.beq vs.length size && Nat.ble (off + vs.length) cs.length) with
        | false => simp [hcd] at hf
        | true =>
          simp only [hcd, cond_true] at hf
          simp only [Bool.and_eq_true] at hcd
          have e1 := Nat.eq_of_beq_eq_true hcd.1
          have e2 := Nat.le_of_ble_eq_true hcd.2
          have hsl := cellsS_rel (hs x) hv
          have hlen := hsl.length
          have hcl := hc.length
          have hsz : (ev x).cells.size = vs.length := by rw [hlen]; simp
          have hst := fill_step off (ev x).cells arr (by rw [hsz]; simp at hcl; omega)
          obtain ⟨arr', h1, h2⟩ := fill_ok (arr := (ev x).cells.zipIdx.foldl (fun cs (c, j) => cs.setIfInBounds (off + j) c) arr) hs hl (by rw [hst]; exact hc.spl hsl off) hf
          refine ⟨arr', ?_, h2⟩
          simp only [List.map_cons, Instr.fill, hpl]
          rw [if_neg]
          · exact h1
          · simp only [Bool.or_eq_true, decide_eq_true_eq, ne_eq, Bool.not_eq_true, not_or]
            simp at hcl
            constructor
            · simpa using by omega
            · omega
      · cases hf
    · cases hp
def xBuild (s : Operand → SV) (key : Nat) (t : TypeId) (ps : List (Nat × Operand)) (d : List (Dec E)) : Option (Res E) := match E.P.info? t with
  | some i => match i.zero, partsS s ps with
    | some z, some pl => match E.P.underlying t with
      | some (.struct fields) => match pureRun E.P (fields.mapM fun f => do pure (f.offset, ← sizeOf f.type)) with
        | some places => match fillS (fun j => places[j]?) (z.cells.toList.map .v) pl with
          | some cs => some ⟨aggS cs, [], key, [], d⟩
          | none => none
        | none => none
      | some (.array _ e) => match E.P.info? e with
        | some i => match fillS (fun j => some (j * i.size, i.size)) (z.cells.toList.map .v) pl with
          | some cs => some ⟨aggS cs, [], key, [], d⟩
          | none => none
        | none => none
      | _ => none
    | _, _ => none
  | none => none
theorem xBuild_ok {s : Operand → SV} {ev : Operand → Value} (hs : ∀ x, rel U μ (s x) (ev x)) {t : TypeId} {ps : Array (Nat × Operand)} {d : List (Dec E)} {R : Res E} (h : xBuild s key t ps.toList d = some R) (hm : Mem S w0 U μ b w) :
    Good S w0 U μ b key R ((Instr.build t (ps.map fun (i, x) => (i, ev x))).run E.P w) := by
  unfold xBuild at h
  split at h
  · rename_i i hi
    split at h
    · rename_i z pl hz hp
      have hzr : (zeroValue t).run E.P w = .ok z w := by simp [zeroValue, typeInfo, hi, hz]
      have hmap : (ps.map fun (p : Nat × Operand) => (p.1, ev p.2)).toList = ps.toList.map fun p => (p.1, ev p.2) := by simp
      split at h
      · rename_i fields hu
        split at h
        · rename_i places hpl
          split at h
          · rename_i cs hf
            simp only [Option.some.injEq] at h
            subst h
            have hr := pureRun_run hpl w
            obtain ⟨arr', h1, h2⟩ := fill_ok hs hp (arr := z.cells) (slots_vals U μ _) hf
            refine good_plain hm (u := .agg arr'.toList.toArray) ?_ (aggS_rel h2)
            unfold Instr.build
            simp only [Sem.run_bind, hzr, Result.andThen_ok, run_underlying hu, hr]
            have h1' : Instr.fill (fun x => places[x]?) z.cells (ps.map fun (p : Nat × Operand) => (p.1, ev p.2)).toList = some arr' := by rw [hmap]; exact h1
            simp [h1]
          · cases h
        · cases h
      · rename_i n e hu
        split at h
        · rename_i i' hi'
          split at h
          · rename_i cs hf
            simp only [Option.some.injEq] at h
            subst h
            obtain ⟨arr', h1, h2⟩ := fill_ok hs hp (arr := z.cells) (slots_vals U μ _) hf
            refine good_plain hm (u := .agg arr'.toList.toArray) ?_ (aggS_rel h2)
            unfold Instr.build
            have h1' : Instr.fill (fun j => some (j * i'.size, i'.size)) z.cells (ps.map fun (p : Nat × Operand) => (p.1, ev p.2)).toList = some arr' := by rw [hmap]; exact h1
            simp [hzr, run_underlying hu, sizeOf, typeInfo, hi', h1]
          · cases h
        · cases h
      · cases h
    · cases h
  · cases h
def xBuildSlice (s : Operand → SV) (key : Nat) (t : TypeId) (n : Nat) (ps : List (Nat × Operand)) (d : List (Dec E)) : Option (Res E) := match E.P.underlying t with
  | some (.slice e) => match E.P.info? e with
    | some i => match i.zero, partsS s ps with
      | some z, some pl => bif Nat.ble (n * i.size) 1000000 then (match fillS (fun j => some (j * i.size, i.size)) (((Array.range (n * i.size)).map (z.cells[· % z.cells.size]!)).toList.map .v) pl with
        | some cs => some ⟨.sb key 0 n n, [(key, .box e cs)], key + 1, [], d⟩
        | none => none) else none
      | _, _ => none
    | none => none
  | _ => none
theorem mem_alloc_box (hm : Mem S w0 U μ b w) (hf : Free U key (key + 1)) (t : TypeId) {cs : List SV} {us : Array Value} (h : Slots U μ cs us.toList) :
    Mem S w0 (Up U key (key + 1)) (upd μ key (.pointer (some ⟨w.heap.size, 0, none⟩))) ((key, .box t cs) :: b) (w.alloc (.cells us t)) := by
  have hkey : ¬ U key := hf key (Nat.le_refl _) (Nat.lt_succ_self _)
  refine hm.new hf (World.grownBy_alloc w _ none) _ _ ⟨w.heap.size, us.toList, by rw [upd_same], fun hS => ?_, slots_mono (fun k hk => .inl hk) (upd_old hkey) _ _ h, by simpa using heap_alloc_new w _⟩ (fun g hg => by simp [blk] at hg; omega)
  have := Nat.lt_of_lt_of_le (hm.dom.1 _ hS) hm.kept.size
  omega
theorem xBuildSlice_ok {s : Operand → SV} {ev : Operand → Value} (hs : ∀ x, rel U μ (s x) (ev x)) {t : TypeId} {n : Nat} {ps : Array (Nat × Operand)} {d : List (Dec E)} {R : Res E} (h : xBuildSlice s key t n ps.toList d = some R) (hf : Free U key R.n) (hm : Mem S w0 U μ b w) :
    Good S w0 U μ b key R ((Instr.buildSlice t n (ps.map fun (i, x) => (i, ev x))).run E.P w) := by
  unfold xBuildSlice at h
  split at h
  · rename_i e hu
    split at h
    · rename_i i hi
      split at h
      · rename_i z pl hz hp
        cases hb : Nat.ble (n * i.size) 1000000 with
        | false => simp [hb] at h
        | true =>
          simp only [hb, cond_true] at h
          have hle := Nat.le_of_ble_eq_true hb
          split at h
          · rename_i cs hfi
            simp only [Option.some.injEq] at h
            subst h
            have hzr : (zeroValue e).run E.P w = .ok z w := by simp [zeroValue, typeInfo, hi, hz]
            have hmap : (ps.map fun (p : Nat × Operand) => (p.1, ev p.2)).toList = ps.toList.map fun p => (p.1, ev p.2) := by simp
            obtain ⟨arr', h1, h2⟩ := fill_ok hs hp (arr := (Array.range (n * i.size)).map (z.cells[· % z.cells.size]!)) (slots_vals U μ _) hfi
            have h1' : Instr.fill (fun j => some (j * i.size, i.size)) ((Array.range (n * i.size)).map (z.cells[· % z.cells.size]!)) (ps.map fun (p : Nat × Operand) => (p.1, ev p.2)).toList = some arr' := by rw [hmap]; exact h1
            have hkey : ¬ U key := hf key (Nat.le_refl _) (Nat.lt_succ_self _)
            have hng : ¬ (n * i.size > 2 ^ 24) := by omega
            refine ⟨.slice (some ⟨w.heap.size, 0, none⟩) n n, w.alloc (.cells arr' e), upd μ key (.pointer (some ⟨w.heap.size, 0, none⟩)), ?_, upd_old hkey, ?_, mem_alloc_box hm hf e h2⟩
            · unfold Instr.buildSlice
              have hrow : (newRow e arr').run E.P w = .ok ⟨w.heap.size, 0, none⟩ (w.alloc (.cells arr' e)) := by simp [newRow, newObj, Sem.run]
              have hgt : ¬ (16777216 < n * i.size) := by omega
              by_cases h0 : n * i.size = 0
              · rw [h0] at h1
                simp only [Array.range_zero', Array.map_empty] at h1
                simp [run_underlying hu, sizeOf, typeInfo, hi, h0, h1, hrow, Array.range_zero']
              · simp [run_underlying hu, sizeOf, typeInfo, hi, h0, hgt, hzr, h1, hrow]
            · unfold rel
              exact ⟨.inr ⟨Nat.le_refl _, Nat.lt_succ_self _⟩, w.heap.size, upd_same, rfl⟩
          · cases h
      · cases h
    · cases h
  · cases h
end
end
end Go.Proofs.YtpfignfgfhbblaaGreatDoorSx
