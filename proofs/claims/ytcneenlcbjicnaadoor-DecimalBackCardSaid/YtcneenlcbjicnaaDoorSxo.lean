/- A slice among a law's arguments, of any elements: opened as one list of them, read only. -/
import Derived.Test.YtcneenlcbjicnaaDoorSxm
import Derived.SizedLaws
import Derived.ChangeSlices
namespace Go.Proofs.YtcneenlcbjicnaaDoorSx
open Go.RowKit Go.ChangeShapes Go.WideShapes
set_option linter.unusedVariables false
section
variable {H : Type} {enc : TypeId × Value → H} {P : Program} {w : World} {base : Nat} {spare : Nat → Bool} {held : Bool}
theorem cells_at {a : Addr} {n : Nat} {vs : List Value} (h : w.cells? base a n = some vs) : vs.length = n ∧ ∀ j u, vs[j]? = some u → w.cell? (a.add j) = some u := by
  unfold World.cells? at h
  split at h
  · have hl := mapM_some_length h
    simp at hl
    refine ⟨hl, fun j u hu => ?_⟩
    have hj : j < n := by
      have := (List.getElem?_eq_some_iff.1 hu).1
      omega
    have := mapM_some_get h j j (by simp [hj])
    rw [this, hu]
  · cases h
/-- One element's data, told by what it is. -/
def Reads (enc : TypeId × Value → H) (P : Program) (w : World) (base : Nat) (spare : Nat → Bool) (held : Bool) (e : TypeId) (F : Fmt) (G : F.α → Prop) : Prop :=
  ∀ n cs x, cs.length = F.sz → DataW.trod enc P w base spare held n e cs = some x → ∃ a, F.enc a = cs ∧ G a
def Opened (w : World) (F : Fmt) (a : Option Addr) (len cap : Nat) (l : List F.α) : Prop :=
  (a = none ∧ len = 0 ∧ cap = 0 ∧ l = []) ∨ ∃ x, a = some x ∧ len ≤ cap ∧ l.length = len ∧ ∀ j u, (cellsF F l)[j]? = some u → w.cell? (x.add j) = some u
theorem addr_add2 (x : Addr) (i j : Nat) : (x.add i).add j = x.add (i + j) := by
  unfold Addr.add
  split <;> (simp_all <;> split <;> simp_all [Nat.add_assoc])
theorem open_row {t e : TypeId} {F : Fmt} {G : F.α → Prop} {a : Option Addr} {len cap : Nat} {d : DataW H} {ps : List MemPlace} (ht : P.underlying t = some (.slice e)) (hsz : P.cellsOf e = F.sz)
    (hone : Reads enc P w base spare held e F G) (h : DataW.Trod enc P w base spare held t (.slice a len cap) d ps) :
    ∃ l : List F.α, l.length = len ∧ (∀ x ∈ l, G x) ∧ Opened w F a len cap l ∧ ((d = .nil ∧ len = 0) ∨ ∃ es rs, d = .slice es rs ∧ es.length = len) := by
  obtain ⟨fuel, hf⟩ := h
  rcases DataW.trod_slice ht hf with ⟨hcs, hx⟩ | ⟨x, l, c, elems, rest, n, _, hcs, hx, _, hl, hm, hlen, hel, _, _⟩
  · simp [Value.cells] at hcs
    obtain ⟨rfl, rfl, rfl⟩ := hcs
    exact ⟨[], rfl, fun x hx => by simp at hx, .inl ⟨rfl, rfl, rfl, rfl⟩, .inl ⟨(Prod.mk.inj hx).1, rfl⟩⟩
  · simp [Value.cells] at hcs
    obtain ⟨rfl, rfl, rfl⟩ := hcs
    rw [hsz] at hel
    have key : ∀ k, k ≤ len → ∃ L : List F.α, L.length = k ∧ (∀ y ∈ L, G y) ∧ ∀ j u, (cellsF F L)[j]? = some u → w.cell? (x.add j) = some u := by
      intro k
      induction k with
      | zero => exact fun _ => ⟨[], rfl, fun y hy => by simp at hy, fun j u hu => by simp [cellsF] at hu⟩
      | succ k ih =>
        intro hk
        obtain ⟨L, i1, i2, i3⟩ := ih (by omega)
        have he := hel k (by omega)
        cases hc : w.cells? base (x.add (k * F.sz)) F.sz with
        | none =>
          rw [hc] at he
          simp only [Option.bind_none] at he
          have : k < elems.length := by omega
          simp [List.getElem?_eq_getElem this] at he
        | some cs =>
          rw [hc] at he
          simp only [Option.bind_some] at he
          obtain ⟨c1, c2⟩ := cells_at hc
          obtain ⟨b, hb1, hb2⟩ := hone n cs elems[k] c1 (by rw [he]; exact List.getElem?_eq_getElem (by omega))
          refine ⟨L ++ [b], by simp [i1], fun y hy => ?_, fun j u hu => ?_⟩
          · rcases List.mem_append.1 hy with hy | hy
            · exact i2 y hy
            · simp at hy
              subst hy
              exact hb2
          · rw [cellsF_app] at hu
            have hcl := cellsF_length F L
            have hb3 : cellsF F [b] = cs := by simp [cellsF, hb1]
            rw [hb3] at hu
            by_cases hj : j < (cellsF F L).length
            · rw [List.getElem?_append_left hj] at hu
              exact i3 j u hu
            · rw [List.getElem?_append_right (by omega), hcl, i1] at hu
              have := c2 _ u hu
              rw [addr_add2] at this
              rw [← this]
              congr 2
              rw [hcl, i1] at hj
              omega
    obtain ⟨L, i1, i2, i3⟩ := key len (Nat.le_refl _)
    refine ⟨L, i1, i2, .inr ⟨x, rfl, hl, i1, i3⟩, .inr ⟨_, _, (Prod.mk.inj hx).1, by simpa using hlen⟩⟩
theorem reads_num {e : TypeId} {k : IntKind} (he : P.underlying e = some (.int k)) : Reads enc P w base spare held e (numF k) (fun n => (Lit.int k n).wf = true) := by
  intro n cs x _ h
  obtain ⟨z, rfl, _, hw⟩ := DataW.trod_int he h
  exact ⟨z, rfl, hw⟩
theorem reads_u8 {e : TypeId} (he : P.underlying e = some (.int .u8)) : Reads enc P w base spare held e u8F (fun n => (Lit.int .u8 n).wf = true) := by
  intro n cs x _ h
  obtain ⟨z, rfl, _, hw⟩ := DataW.trod_int he h
  exact ⟨z, rfl, hw⟩
theorem reads_str {e : TypeId} (he : P.underlying e = some .string) : Reads enc P w base spare held e strF (fun s => s.size ≤ maxLen) := by
  intro n cs x _ h
  obtain ⟨z, rfl, _, hw⟩ := DataW.trod_string he h
  exact ⟨z, rfl, hw⟩
theorem sized_row {ts : List TypeId} {ds : List (DataW H)} {t e : TypeId} {d : DataW H} {j len B : Nat} (hsz : (DataW.weightsEach P ts ds).all (· ≤ reachBytes) = true) (ht : ts[j]? = some t) (hd : ds[j]? = some d) (hu : P.underlying t = some (.slice e)) (hB : P.bytesOf e = B)
    (h : (d = .nil ∧ len = 0) ∨ ∃ es rs, d = .slice es rs ∧ es.length = len) : len * B ≤ 140737488351232 := by
  rcases h with ⟨_, rfl⟩ | ⟨es, rs, rfl, rfl⟩
  · simp
  · have z := sized_slice hsz ht hd hu
    rw [hB] at z
    exact Nat.le_trans (Nat.mul_le_mul_right _ (Nat.le_add_right _ _)) z
theorem ro_of_opened {F : Fmt} {a : Option Addr} {len cap : Nat} {l : List F.α} (h : Opened w F a len cap l) :
    Ro (fun g => g < w.heap.size) w (.slice a len cap) F.sz l.length (cellsF F l) false := by
  refine ⟨cellsF_length _ _, ?_⟩
  rcases h with ⟨rfl, rfl, rfl, rfl⟩ | ⟨x, rfl, h1, h2, h3⟩
  · exact .inl ⟨rfl, rfl, rfl⟩
  · by_cases h0 : len = 0
    · exact .inr (.inl ⟨by omega, x, cap, by rw [h0]⟩)
    · have hpos := F.pos
      have hlen := cellsF_length F l
      have hlt : 0 < (cellsF F l).length := by rw [hlen]; exact Nat.mul_pos (by omega) hpos
      have hc := h3 0 _ (List.getElem?_eq_getElem hlt)
      rw [show x.add 0 = x by unfold Addr.add; simp] at hc
      have hsp := World.cell?_spot hc
      have hb := World.block_lt_of_cell? w x hc
      obtain ⟨g, off, spot⟩ := x
      simp only at hsp hb
      subst hsp
      refine .inr (.inr ⟨g, off, cap, by rw [h2], by omega, hb, fun j u hu => ?_⟩)
      have := h3 j u hu
      rwa [addr_add] at this
end
section
variable {E : Env}
inductive ArgR (E : Env) where
  | val (v : Value)
  | row (e : TypeId) (v : Value) (l : List (E.fm e).α)
def argSR : Nat → List (ArgR E) → List SV
  | _, [] => []
  | j, .val v :: r => .v v :: argSR j r
  | j, .row _ _ _ :: r => .o j :: argSR (j + 1) r
def argTR : Nat → List (ArgR E) → Tab E
  | _, [] => []
  | j, .val _ :: r => argTR j r
  | j, .row e _ l :: r => (j, .ro e l false) :: argTR (j + 1) r
def argVR : List (ArgR E) → List Value
  | [] => []
  | .val v :: r => v :: argVR r
  | .row _ v _ :: r => v :: argVR r
def rowsR : List (ArgR E) → List Value
  | [] => []
  | .val _ :: r => rowsR r
  | .row _ v _ :: r => v :: rowsR r
def rosR (w : World) : List (ArgR E) → Prop
  | [] => True
  | .val _ :: r => rosR w r
  | .row e v l :: r => Ro (fun g => g < w.heap.size) w v (E.fm e).sz l.length (cellsF (E.fm e) l) false ∧ rosR w r
theorem argsR_ok {w : World} {μ : Nat → Value} {N : Nat} : ∀ (ds : List (ArgR E)) (j : Nat), rosR w ds → j + (rowsR ds).length ≤ N → (∀ i u, (rowsR ds)[i]? = some u → μ (j + i) = u) →
    Slots (fun k => k < N) μ (argSR j ds) (argVR ds) ∧ ∀ k x, YtcneenlcbjicnaaDoorSx.look (argTR j ds) k = some x → j ≤ k ∧ k < N ∧ Holds (fun g => g < w.heap.size) w (fun k => k < N) μ w k x ∧ owning x = false
  | [], j, _, _, _ => ⟨slots_nil, fun k x h => by simp [argTR, look] at h⟩
  | .val v :: r, j, hw, hN, hμ => by
    have ih := argsR_ok r j hw hN hμ
    exact ⟨slots_cons.2 ⟨rel_v.2 rfl, ih.1⟩, ih.2⟩
  | .row e v l :: r, j, hw, hN, hμ => by
    simp only [rowsR, List.length_cons] at hN
    obtain ⟨hro, hw⟩ := hw
    have ih := argsR_ok r (j + 1) hw (N := N) (μ := μ) (by omega) (fun i u hi => by
      have := hμ (i + 1) u (by simpa [rowsR] using hi)
      rw [← this]
      congr 1
      omega)
    have h0 := hμ 0 _ rfl
    rw [Nat.add_zero] at h0
    refine ⟨slots_cons.2 ⟨?_, ih.1⟩, fun k x hk => ?_⟩
    · unfold rel
      refine ⟨by omega, h0.symm, ?_⟩
      rw [h0]
      rcases hro.2 with ⟨h1, _⟩ | ⟨_, a, c, h1⟩ | ⟨g, off, cap, h1, _⟩ <;> exact ⟨_, _, _, h1⟩
    · unfold argTR at hk
      rw [look_cons] at hk
      by_cases hkj : k = j
      · rw [if_pos hkj] at hk
        cases hk
        subst hkj
        refine ⟨Nat.le_refl _, by omega, ?_, rfl⟩
        show Ro _ w (μ k) (E.fm e).sz l.length (cellsF (E.fm e) l) false
        rw [h0]
        exact hro
      · rw [if_neg hkj] at hk
        obtain ⟨a1, a2, a3⟩ := ih.2 k x hk
        exact ⟨by omega, a2, a3⟩
/-- From a law's contract to its call, where arguments are slices that are only read. -/
theorem law_ros {g n' : Nat} {T' : Tab E} {v : Value} (ds : List (ArgR E)) (he : Enters E g) (h : Does E g (argTR 0 ds) (rowsR ds).length (argSR 0 ds) (.v v) T' n') (w : World) (hgl : GlobIn E w) (hw : rosR w ds) :
    Calls E.P g (argVR ds).toArray w fun e w' => e = .returned v ∧ Below w.heap.size w w' := by
  have hok := argsR_ok (w := w) (μ := fun i => (rowsR ds).getD i undef) (N := (rowsR ds).length) ds 0 hw (by omega) (fun i u hi => by simp [List.getD, hi])
  have hm : Mem (fun g => g < w.heap.size) w (fun k => k < (rowsR ds).length) (fun i => (rowsR ds).getD i undef) (argTR 0 ds) w := by
    refine ⟨fun k x hk => ?_, fun k k' x x' g hk hk' ho _ _ _ => ?_, Kept.refl _ _, fun g hg => hg, hgl.ok⟩
    · obtain ⟨_, a2, a3, _⟩ := hok.2 k x hk
      exact ⟨a2, a3⟩
    · have := (hok.2 k x hk).2.2.2
      rw [ho] at this
      cases this
  refine (h.calls he hm hok.1).mono fun e w' hh => ?_
  obtain ⟨u, μ', e1, e2, e3, e4⟩ := hh
  rw [rel_v.1 e3] at e1
  exact ⟨e1, e4.kept.below (fun g hg => hg)⟩
end
end Go.Proofs.YtcneenlcbjicnaaDoorSx
