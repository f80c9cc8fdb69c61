/- The symbolic machine's single steps that touch memory: loads, stores, slices, appends, literals: what each comes to in a world of which the machine's state speaks. -/
import Derived.Test.YtcneenlcbjicnaaDoorSxa
set_option linter.unusedVariables false
set_option linter.unusedSimpArgs false
namespace Go.Proofs.YtcneenlcbjicnaaDoorSx
open Go.RowKit Go.Proofs.YtcneenlcbjicnaaDoorW.PrintLast Go.Proofs.YtcneenlcbjicnaaDoorW.PrintWords
noncomputable section

/-! ### Operands, values -/
def opd (s : List SV) : Operand → SV
  | .tmp t => s.getD t .na
  | .const v => .v v
  | .global g => .v (.pointer (some ⟨g, 0, none⟩))
  | .func f => .v (.func (.func f) #[] #[])
theorem rel_v {U : Nat → Prop} {μ : Nat → Value} {x u : Value} : rel U μ (.v x) u ↔ u = x := by unfold rel; exact Iff.rfl
theorem rel_x {U : Nat → Prop} {μ : Nat → Value} {u : Value} : rel U μ .na u := by unfold rel; trivial
theorem opd_rel {U : Nat → Prop} {μ : Nat → Value} {s : List SV} {a : Act} (h : Slots U μ s a.tmps.toList) (o : Operand) : rel U μ (opd s o) (a.eval o) := by
  cases o with
  | tmp t =>
    simp only [opd, Act.eval, List.getD_eq_getElem?_getD]
    cases hs : s[t]? with
    | none => exact rel_x
    | some sv =>
      obtain ⟨u, hu, hr⟩ := h.get t sv hs
      have : a.tmps[t]? = some u := by simpa using hu
      simpa [Array.getD_eq_getD_getElem?, this] using hr
  | const v => exact rel_v.2 rfl
  | global g => exact rel_v.2 rfl
  | func f => exact rel_v.2 rfl
def allV : List SV → Option (List Value)
  | [] => some []
  | .v x :: r => match allV r with
    | some l => some (x :: l)
    | none => none
  | _ :: _ => none
theorem allV_slots {U : Nat → Prop} {μ : Nat → Value} : ∀ {cs : List SV} {us l : List Value}, Slots U μ cs us → allV cs = some l → us = l
  | [], us, l, h, e => by simp only [allV, Option.some.injEq] at e; rw [← e, h.nilr]
  | s :: cs, us, l, h, e => by
    obtain ⟨u, r, h1, h2, h3⟩ := h.consr
    cases s with
    | v x =>
      simp only [allV] at e
      cases hr : allV cs with
      | none => simp [hr] at e
      | some l' =>
        simp only [hr, Option.some.injEq] at e
        rw [h1, ← e, allV_slots h3 hr, rel_v.1 h2]
    | _ => simp [allV] at e
def aggS (l : List SV) : SV := match allV l with
  | some vs => .v (.agg vs.toArray)
  | none => .g l
theorem aggS_rel {U : Nat → Prop} {μ : Nat → Value} {cs : List SV} {us : List Value} (h : Slots U μ cs us) : rel U μ (aggS cs) (.agg us.toArray) := by
  unfold aggS
  cases hv : allV cs with
  | some vs => rw [allV_slots h hv]; exact rel_v.2 rfl
  | none => simp only; unfold rel; exact ⟨us, rfl, h⟩
def cellsS : SV → Option (List SV)
  | .v u => some (u.cells.toList.map .v)
  | .g cs => some cs
  | .t _ => none
  | .na => none
  | s => some [s]
theorem cells_slice (a : Option Addr) (n c : Nat) : (Value.slice a n c).cells = #[.slice a n c] := rfl
theorem cellsS_rel {U : Nat → Prop} {μ : Nat → Value} {s : SV} {u : Value} {cs : List SV} (h : rel U μ s u) (hc : cellsS s = some cs) : Slots U μ cs u.cells.toList := by
  cases s with
  | v x =>
    simp only [cellsS, Option.some.injEq] at hc
    rw [← hc, rel_v.1 h]
    exact slots_vals U μ _
  | g l =>
    simp only [cellsS, Option.some.injEq] at hc
    unfold rel at h
    obtain ⟨us, h1, h2⟩ := h
    rw [← hc, h1]
    exact h2
  | t l => simp [cellsS] at hc
  | na => simp [cellsS] at hc
  | p k o =>
    simp only [cellsS, Option.some.injEq] at hc
    have h' := h
    unfold rel at h'
    obtain ⟨_, g, _, h1⟩ := h'
    rw [← hc]
    have : u.cells.toList = [u] := by rw [h1]; rfl
    rw [this]
    exact slots_cons.2 ⟨h, slots_nil⟩
  | sb k lo n cap =>
    simp only [cellsS, Option.some.injEq] at hc
    have h' := h
    unfold rel at h'
    obtain ⟨_, g, _, h1⟩ := h'
    rw [← hc]
    have : u.cells.toList = [u] := by rw [h1]; rfl
    rw [this]
    exact slots_cons.2 ⟨h, slots_nil⟩
  | o k =>
    simp only [cellsS, Option.some.injEq] at hc
    have h' := h
    unfold rel at h'
    obtain ⟨_, h1, a, n, c, h2⟩ := h'
    rw [← hc]
    have : u.cells.toList = [u] := by rw [h1, h2]; rfl
    rw [this]
    exact slots_cons.2 ⟨h, slots_nil⟩
  | s k sz lo n =>
    simp only [cellsS, Option.some.injEq] at hc
    have h' := h
    unfold rel at h'
    rw [← hc]
    have : u.cells.toList = [u] := by
      rcases h'.2 with ⟨_, e, _⟩ | ⟨a, c, _, e, _⟩ | ⟨g, o, len, cap, o', _, e, _⟩ <;> rw [e] <;> rfl
    rw [this]
    exact slots_cons.2 ⟨h, slots_nil⟩
  | q k sz i fo =>
    simp only [cellsS, Option.some.injEq] at hc
    have h' := h
    unfold rel at h'
    obtain ⟨_, g, o, _, h1⟩ := h'
    rw [← hc]
    have : u.cells.toList = [u] := by rw [h1]; rfl
    rw [this]
    exact slots_cons.2 ⟨h, slots_nil⟩
/-- A cell that a store may lay. -/
def oneS : SV → Bool
  | .v z => z.oneCell'
  | .p _ _ | .sb _ _ _ _ | .o _ | .s _ _ _ _ | .q _ _ _ _ => true
  | _ => false
theorem oneS_rel {U : Nat → Prop} {μ : Nat → Value} {s : SV} {u : Value} (h : rel U μ s u) (ho : oneS s = true) : u.oneCell' = true := by
  cases s with
  | v x => rw [rel_v.1 h]; exact ho
  | p k o => unfold rel at h; obtain ⟨_, g, _, h1⟩ := h; rw [h1]; rfl
  | sb k lo n cap => unfold rel at h; obtain ⟨_, g, _, h1⟩ := h; rw [h1]; rfl
  | o k => unfold rel at h; obtain ⟨_, h1, a, n, c, h2⟩ := h; rw [h1, h2]; rfl
  | s k sz lo n =>
    unfold rel at h
    rcases h.2 with ⟨_, e, _⟩ | ⟨a, c, _, e, _⟩ | ⟨g, o, len, cap, o', _, e, _⟩ <;> rw [e] <;> rfl
  | q k sz i fo => unfold rel at h; obtain ⟨_, g, o, _, h1⟩ := h; rw [h1]; rfl
  | g l => simp [oneS] at ho
  | t l => simp [oneS] at ho
  | na => simp [oneS] at ho
theorem allOne {U : Nat → Prop} {μ : Nat → Value} : ∀ {cs : List SV} {us : List Value}, Slots U μ cs us → cs.all oneS = true → ∀ u ∈ us, u.oneCell' = true
  | [], us, h, _ => by rw [h.nilr]; intro u hu; cases hu
  | s :: cs, us, h, ho => by
    obtain ⟨u, r, h1, h2, h3⟩ := h.consr
    simp only [List.all_cons, Bool.and_eq_true] at ho
    rw [h1]
    intro v hv
    rcases List.mem_cons.1 hv with rfl | hv
    · exact oneS_rel h2 ho.1
    · exact allOne h3 ho.2 v hv

/-! ### Loads and stores -/
def isAggT (P : Program) (t : TypeId) : Bool := match P.underlying t with
  | some (.struct _) | some (.array ..) => true
  | _ => false
def loadOf (P : Program) (t : TypeId) (cs : List Value) (off : Nat) : Option Value :=
  match P.underlying t, P.info? t with
  | some _, some i => bif isAggT P t then (bif Nat.ble (off + i.size) cs.length then some (.agg ((cs.drop off).take i.size).toArray) else none) else cs[off]?
  | _, _ => none
def loadS (P : Program) (t : TypeId) (cs : List SV) (off : Nat) : Option SV :=
  match P.underlying t, P.info? t with
  | some _, some i => bif isAggT P t then (bif Nat.ble (off + i.size) cs.length then some (aggS ((cs.drop off).take i.size)) else none) else cs[off]?
  | _, _ => none
theorem loadS_rel {P : Program} {U : Nat → Prop} {μ : Nat → Value} {t : TypeId} {cs : List SV} {us : List Value} {off : Nat} {s : SV} (h : Slots U μ cs us) (hl : loadS P t cs off = some s) : ∃ u, loadOf P t us off = some u ∧ rel U μ s u := by
  unfold loadS at hl
  unfold loadOf
  have hlen := h.length
  cases hu : P.underlying t with
  | none => simp [hu] at hl
  | some d =>
  cases hi : P.info? t with
  | none => simp [hu, hi] at hl
  | some i =>
  simp only [hu, hi] at hl ⊢
  cases ha : isAggT P t with
  | true =>
    simp only [ha, cond_true] at hl ⊢
    cases hle : Nat.ble (off + i.size) cs.length with
    | false => simp [hle] at hl
    | true =>
      rw [hlen] at hle
      rw [← hlen] at hle
      simp only [hle, cond_true, Option.some.injEq] at hl
      rw [hlen] at hle
      simp only [hle, cond_true, Option.some.injEq]
      refine ⟨_, rfl, ?_⟩
      rw [← hl]
      exact aggS_rel ((h.drop off).take i.size)
  | false =>
    simp only [ha, cond_false] at hl ⊢
    obtain ⟨u, h1, h2⟩ := h.get off s hl
    exact ⟨u, h1, h2⟩
theorem addr_add (g o j : Nat) : (⟨g, o, none⟩ : Addr).add j = ⟨g, o + j, none⟩ := by unfold Addr.add; split <;> simp_all
theorem run_loadAt {P : Program} {w : World} {t : TypeId} {g base off : Nat} {cs : List Value} {u : Value} (hcell : ∀ j v, cs[j]? = some v → w.cell? ⟨g, base + j, none⟩ = some v) (h : loadOf P t cs off = some u) :
    (Instr.loadAt t (.pointer (some ⟨g, base + off, none⟩))).run P w = .ok u w := by
  unfold loadOf at h
  cases hu : P.underlying t with
  | none => simp [hu] at h
  | some d =>
  cases hi : P.info? t with
  | none => simp [hu, hi] at h
  | some i =>
  simp only [hu, hi] at h
  cases ha : isAggT P t with
  | true =>
    simp only [ha, cond_true] at h
    cases hle : Nat.ble (off + i.size) cs.length with
    | false => simp [hle] at h
    | true =>
      simp only [hle, cond_true, Option.some.injEq] at h
      subst h
      have hle' := Nat.le_of_ble_eq_true hle
      have hl : ((cs.drop off).take i.size).length = i.size := by simp; omega
      have hc := run_loadCells_list (P := P) w ⟨g, base + off, none⟩ ((cs.drop off).take i.size) (fun j v hv => by
        rw [addr_add, Nat.add_assoc]
        refine hcell _ _ ?_
        have hj : j < i.size := by
          have := (List.getElem?_eq_some_iff.1 hv).1
          omega
        rw [List.getElem?_take_of_lt hj, List.getElem?_drop] at hv
        exact hv)
      rw [hl] at hc
      unfold isAggT at ha
      simp only [hu] at ha
      unfold Instr.loadAt loadVar isAgg sizeOf typeInfo
      cases d <;> simp at ha <;> simp [Instr.sureAddr, run_underlying hu, hi, hc]
  | false =>
    simp only [ha, cond_false] at h
    have hc := hcell off u h
    unfold isAggT at ha
    simp only [hu] at ha
    unfold Instr.loadAt loadVar isAgg
    cases d <;> simp at ha <;> simp [Instr.sureAddr, run_underlying hu, load, Sem.run, hc]
theorem run_loadVar {P : Program} {w : World} {t : TypeId} {g base off : Nat} {cs : List Value} {u : Value} (hcell : ∀ j v, cs[j]? = some v → w.cell? ⟨g, base + j, none⟩ = some v) (h : loadOf P t cs off = some u) :
    (loadVar t ⟨g, base + off, none⟩).run P w = .ok u w := by
  have h1 := run_loadAt (P := P) hcell h
  unfold Instr.loadAt at h1
  simpa [Instr.sureAddr] using h1
def splice {α : Type} (cs : List α) (off : Nat) (vs : List α) : List α := cs.take off ++ vs ++ cs.drop (off + vs.length)
theorem splice_length {α : Type} {cs : List α} {off : Nat} {vs : List α} (h : off + vs.length ≤ cs.length) : (splice cs off vs).length = cs.length := by
  simp [splice]; omega
theorem run_storeAt {P : Program} {w : World} {t : TypeId} {i : TypeInfo} {g off : Nat} {cs : List Value} {tt : TypeId} {u : Value} (hg : w.heap[g]? = some (.cells cs.toArray tt (0, 0))) (hi : P.info? t = some i)
    (h1 : u.cells.size = i.size) (h2 : off + i.size ≤ cs.length) (h3 : ∀ v ∈ u.cells.toList, v.oneCell' = true) :
    (Instr.storeAt t (.pointer (some ⟨g, off, none⟩)) u).run P w = .ok () (w.setRow g (splice cs off u.cells.toList).toArray) := by
  have hs := run_storeCells_at (P := P) g off tt u.cells.toList 0 cs.toArray w hg (by simp; omega) h3
  unfold Instr.storeAt storeVar sizeOf typeInfo
  simp only [Nat.add_zero] at hs
  simp [Instr.sureAddr, hi, h1, hs, splice]
theorem Slots.spl {U : Nat → Prop} {μ : Nat → Value} {cs vs : List SV} {us xs : List Value} (h : Slots U μ cs us) (h' : Slots U μ vs xs) (off : Nat) : Slots U μ (splice cs off vs) (splice us off xs) := by
  unfold splice
  rw [h'.length]
  exact ((h.take off).append h').append (h.drop _)

/-! ### Rows -/
section
variable {E : Env} {S : Nat → Prop} {w0 w w' : World} {U : Nat → Prop} {μ : Nat → Value} {b : Tab E}
def rowOf : SObj E → Option ((e : TypeId) × List (E.fm e).α)
  | .own e l => some ⟨e, l⟩
  | .ro e l _ => some ⟨e, l⟩
  | _ => none
theorem Mem.kept_cell (hm : Mem S w0 U μ b w) {g j : Nat} (hS : S g) {u : Value} (h : w0.cell? ⟨g, j, none⟩ = some u) : w.cell? ⟨g, j, none⟩ = some u := by
  rw [← h]
  exact World.cell?_of_block (hm.kept.block g hS)
theorem row_reads (hm : Mem S w0 U μ b w) {k : Nat} {x : SObj E} (hk : look b k = some x) {e : TypeId} {l : List (E.fm e).α} (hr : rowOf x = some ⟨e, l⟩) :
    (μ k = .slice none 0 0 ∧ l.length = 0) ∨ (l.length = 0 ∧ ∃ a c, μ k = .slice (some a) 0 c) ∨ ∃ g o cap, μ k = .slice (some ⟨g, o, none⟩) l.length cap ∧ l.length ≤ cap ∧ g < w.heap.size ∧ ∀ j u, (cellsF (E.fm e) l)[j]? = some u → w.cell? ⟨g, o + j, none⟩ = some u := by
  have h := (hm.obj k x hk).2
  cases x with
  | own e' l' =>
    simp only [rowOf, Option.some.injEq, Sigma.mk.injEq] at hr
    obtain ⟨rfl, hr⟩ := hr
    cases hr
    have ho := h.1
    rcases ho.2 with ⟨h1, h2⟩ | ⟨g, cap, cur, h1, _, h2, h3, h4, h5, h6⟩
    · exact .inl ⟨h1, h2⟩
    · refine .inr (.inr ⟨g, 0, cap, h1, h3, (Array.getElem?_eq_some_iff.1 h2).1, fun j u hu => ?_⟩)
      have := ho.cells (g := g) (by rw [h1]; rfl) j u hu
      rwa [addr_add] at this
  | ro e' l' nn =>
    simp only [rowOf, Option.some.injEq, Sigma.mk.injEq] at hr
    obtain ⟨rfl, hr⟩ := hr
    cases hr
    rcases h.2 with ⟨h1, h2, _⟩ | h | ⟨g, off, cap, h1, h2, h3, h4⟩
    · exact .inl ⟨h1, h2⟩
    · exact .inr (.inl h)
    · exact .inr (.inr ⟨g, off, cap, h1, h2, Nat.lt_of_lt_of_le (hm.dom.1 g h3) hm.kept.size, fun j u hu => hm.kept_cell h3 (h4 j u hu)⟩)
  | _ => simp [rowOf] at hr
theorem box_reads (hm : Mem S w0 U μ b w) {k : Nat} {x : SObj E} (hk : look b k = some x) {t : TypeId} {cs : List SV} (hx : x = .box t cs ∨ x = .rob t cs) :
    ∃ g us, μ k = .pointer (some ⟨g, 0, none⟩) ∧ g < w.heap.size ∧ Slots U μ cs us ∧ w.heap[g]? = some (.cells us.toArray t (0, 0)) ∧ ∀ j u, us[j]? = some u → w.cell? ⟨g, 0 + j, none⟩ = some u := by
  have h := (hm.obj k x hk).2
  have key : ∃ g us, μ k = .pointer (some ⟨g, 0, none⟩) ∧ Slots U μ cs us ∧ w.heap[g]? = some (.cells us.toArray t (0, 0)) := by
    rcases hx with rfl | rfl
    · obtain ⟨g, us, h1, h2, h3, h4⟩ := h
      exact ⟨g, us, h1, h3, h4⟩
    · obtain ⟨g, us, h1, h2, h3, h4⟩ := h
      exact ⟨g, us, h1, h3, (hm.kept.block g h2).trans h4⟩
  obtain ⟨g, us, h1, h3, h4⟩ := key
  refine ⟨g, us, h1, (Array.getElem?_eq_some_iff.1 h4).1, h3, h4, fun j u hu => ?_⟩
  rw [Nat.zero_add, cell_of_row w g j us.toArray t (0, 0) h4]
  simpa using hu
def decL (F : Fmt) : Nat → List Value → Option (List F.α)
  | 0, [] => some []
  | 0, _ :: _ => none
  | n + 1, vs => match F.dec (vs.take F.sz), decL F n (vs.drop F.sz) with
    | some a, some l => some (a :: l)
    | _, _ => none
theorem decL_ok (F : Fmt) : ∀ (n : Nat) (vs : List Value) (l : List F.α), decL F n vs = some l → cellsF F l = vs ∧ l.length = n
  | 0, [], l, h => by simp only [decL, Option.some.injEq] at h; subst h; exact ⟨rfl, rfl⟩
  | 0, _ :: _, l, h => by simp [decL] at h
  | n + 1, vs, l, h => by
    simp only [decL] at h
    cases h1 : F.dec (vs.take F.sz) with
    | none => simp [h1] at h
    | some a =>
      cases h2 : decL F n (vs.drop F.sz) with
      | none => simp [h1, h2] at h
      | some l' =>
        simp only [h1, h2, Option.some.injEq] at h
        subst h
        have ih := decL_ok F n _ l' h2
        have hi := F.inv _ _ h1
        refine ⟨?_, by simp [ih.2]⟩
        simp only [cellsF, List.flatMap_cons] at ih ⊢
        rw [ih.1, hi]
        exact List.take_append_drop _ _
/-- What a slice holds, as elements. -/
structure View (E : Env) where
  e : TypeId
  l : List (E.fm e).α
  c : List Prop
def viewOf (b : Tab E) (e0 : TypeId) : SV → Option (View E)
  | .v (.slice none n c) => bif Nat.beq n 0 && Nat.beq c 0 then some ⟨e0, [], []⟩ else none
  | .o k => match look b k with
    | some x => match rowOf x with
      | some ⟨e, l⟩ => some ⟨e, l, []⟩
      | none => none
    | none => none
  | .s k sz lo n => match look b k with
    | some x => match rowOf x with
      | some ⟨e, l⟩ => bif Nat.beq sz (E.fm e).sz then some ⟨e, (l.drop lo).take n, [lo + n ≤ l.length]⟩ else none
      | none => none
    | none => none
  | .sb k lo n cap => match look b k with
    | some (.box t cs) | some (.rob t cs) => bif Nat.ble n cap && Nat.ble (lo + n * (E.fm t).sz) cs.length then (match allV ((cs.drop lo).take (n * (E.fm t).sz)) with
      | some vs => match decL (E.fm t) n vs with
        | some l => some ⟨t, l, []⟩
        | none => none
      | none => none) else none
    | _ => none
  | _ => none
theorem view_box (hm : Mem S w0 U μ b w) {k : Nat} {x : SObj E} (hk : look b k = some x) {t : TypeId} {cs : List SV} (hx : x = .box t cs ∨ x = .rob t cs) {lo n cap : Nat} {u : Value} {V : View E} (hr : rel U μ (.sb k lo n cap) u)
    (hv : (bif Nat.ble n cap && Nat.ble (lo + n * (E.fm t).sz) cs.length then (match allV ((cs.drop lo).take (n * (E.fm t).sz)) with
      | some vs => match decL (E.fm t) n vs with
        | some l => some ⟨t, l, []⟩
        | none => none
      | none => none) else none) = some V) :
    ∃ g o cap, u = .slice (some ⟨g, o, none⟩) V.l.length cap ∧ V.l.length ≤ cap ∧ g < w.heap.size ∧ ∀ j u, (cellsF (E.fm V.e) V.l)[j]? = some u → w.cell? ⟨g, o + j, none⟩ = some u := by
  cases hc : (Nat.ble n cap && Nat.ble (lo + n * (E.fm t).sz) cs.length) with
  | false => simp [hc] at hv
  | true =>
    simp only [hc, cond_true] at hv
    simp only [Bool.and_eq_true] at hc
    cases ha : allV ((cs.drop lo).take (n * (E.fm t).sz)) with
    | none => simp [ha] at hv
    | some vs =>
      cases hd : decL (E.fm t) n vs with
      | none => simp [ha, hd] at hv
      | some l =>
        simp only [ha, hd, Option.some.injEq] at hv
        subst hv
        obtain ⟨g, us, h1, h2, h3, h4, h5⟩ := box_reads hm hk hx
        unfold rel at hr
        obtain ⟨_, g', h1', hr⟩ := hr
        rw [h1] at h1'
        cases h1'
        obtain ⟨d1, d2⟩ := decL_ok _ _ _ _ hd
        refine ⟨g, lo, cap, by rw [hr, d2], by rw [d2]; exact Nat.le_of_ble_eq_true hc.1, h2, fun j v hj => ?_⟩
        rw [d1, ← allV_slots ((h3.drop lo).take (n * (E.fm t).sz)) ha] at hj
        have := h5 (lo + j) v (by
          have hlt : j < n * (E.fm t).sz := by
            have := (List.getElem?_eq_some_iff.1 hj).1
            simp at this
            omega
          rw [List.getElem?_take_of_lt hlt, List.getElem?_drop] at hj
          exact hj)
        rwa [Nat.zero_add] at this
theorem view_reads (hm : Mem S w0 U μ b w) {e0 : TypeId} {sv : SV} {u : Value} {V : View E} (hr : rel U μ sv u) (hv : viewOf b e0 sv = some V) (hc : Conj V.c) :
    (u = .slice none 0 0 ∧ V.l = []) ∨ (V.l = [] ∧ ∃ a c, u = .slice (some a) 0 c) ∨ ∃ g o cap, u = .slice (some ⟨g, o, none⟩) V.l.length cap ∧ V.l.length ≤ cap ∧ g < w.heap.size ∧ ∀ j u, (cellsF (E.fm V.e) V.l)[j]? = some u → w.cell? ⟨g, o + j, none⟩ = some u := by
  unfold viewOf at hv
  split at hv
  · rename_i n c
    cases hz : (Nat.beq n 0 && Nat.beq c 0) with
    | false => simp [hz] at hv
    | true =>
      simp only [hz, cond_true, Option.some.injEq] at hv
      simp only [Bool.and_eq_true] at hz
      have e1 := Nat.eq_of_beq_eq_true hz.1
      have e2 := Nat.eq_of_beq_eq_true hz.2
      subst hv
      exact .inl ⟨by rw [rel_v.1 hr, e1, e2], rfl⟩
  · rename_i k
    split at hv
    · rename_i x hk
      split at hv
      · rename_i e l hro
        simp only [Option.some.injEq] at hv
        subst hv
        unfold rel at hr
        rcases row_reads hm hk hro with ⟨h1, h2⟩ | ⟨h1, h2⟩ | h
        · exact .inl ⟨by rw [hr.2.1, h1], List.eq_nil_of_length_eq_zero h2⟩
        · rw [hr.2.1]; exact .inr (.inl ⟨List.eq_nil_of_length_eq_zero h1, h2⟩)
        · rw [hr.2.1]; exact .inr (.inr h)
      · cases hv
    · cases hv
  · rename_i k sz lo n
    split at hv
    · rename_i x hk
      split at hv
      · rename_i e l hro
        cases hz : Nat.beq sz (E.fm e).sz with
        | false => simp [hz] at hv
        | true =>
          have hsz : sz = (E.fm e).sz := Nat.eq_of_beq_eq_true hz
          subst hsz
          simp only [hz, cond_true, Option.some.injEq] at hv
          subst hv
          have hle : lo + n ≤ l.length := hc
          have hlen : ((l.drop lo).take n).length = n := by simp; omega
          unfold rel at hr
          have hnil : n = 0 → (⟨e, (l.drop lo).take n, [lo + n ≤ l.length]⟩ : View E).l = [] := fun e3 => List.eq_nil_of_length_eq_zero (by simp only; rw [hlen]; exact e3)
          rcases hr.2 with ⟨_, e1, e2, e3⟩ | ⟨a, c, _, e1, e2, e3⟩ | ⟨g', o1, len, cap', o', e1, e2, e3, e4⟩
          · exact .inl ⟨e1, hnil e3⟩
          · exact .inr (.inl ⟨hnil e3, a, c, by rw [e1]⟩)
          · rcases row_reads hm hk hro with ⟨h1, h2⟩ | ⟨h1, a, c, h2⟩ | ⟨g, o, cap, h1, h2, h3, h4⟩
            · rw [h1] at e1; cases e1
            · have hn0 : n = 0 := by omega
              exact .inr (.inl ⟨hnil hn0, ⟨g', o', none⟩, cap' - lo, by rw [e2, hn0]⟩)
            · rw [h1] at e1
              cases e1
              refine .inr (.inr ⟨g', o', cap' - lo, by simp only; rw [hlen]; exact e2, by simp only; rw [hlen]; omega, h3, fun j v hj => ?_⟩)
              simp only at hj
              rw [cellsF_take, cellsF_drop] at hj
              have hlt : j < n * (E.fm e).sz := by
                have := (List.getElem?_eq_some_iff.1 hj).1
                simp at this
                omega
              rw [List.getElem?_take_of_lt hlt, List.getElem?_drop] at hj
              have := h4 _ _ hj
              have hn : n ≠ 0 := by intro h0; rw [h0] at hlt; omega
              have ho : o' = o1 + lo * (E.fm e).sz := by
                rcases e3 with e3 | e3
                · omega
                · exact e3
              rw [ho, Nat.add_assoc]
              exact this
      · cases hv
    · cases hv
  · rename_i k lo n cap
    split at hv
    · rename_i t cs hk
      exact .inr (.inr (view_box hm hk (.inl rfl) hr hv))
    · rename_i t cs hk
      exact .inr (.inr (view_box hm hk (.inr rfl) hr hv))
    · cases hv
  · cases hv
end
end
end Go.Proofs.YtcneenlcbjicnaaDoorSx
