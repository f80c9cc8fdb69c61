/- From a law's contract to its call, where arguments are slices of bytes. -/
import Derived.Test.YtomgifkpnfgimaaPA
import Derived.Test.YtomgifkpnfgimaaSxm
namespace Go.Proofs.YtomgifkpnfgimaaC
open Go.Proofs Go.Proofs.YtomgifkpnfgimaaSx Go.RowKit
set_option maxRecDepth 100000
set_option linter.unusedVariables false
/-- A slice of numbers that came in: all its places up to the capacity. -/
def IsRow (k : IntKind) (w : World) (a : Option Addr) (len cap : Nat) (zs : List Int) : Prop :=
  (a = none ∧ len = 0 ∧ cap = 0 ∧ zs = []) ∨
  ∃ x, a = some x ∧ len ≤ cap ∧ cap ≤ maxLen ∧ zs.length = cap ∧ (∀ i, i < zs.length → w.cell? (x.add i) = some (.int k (zs.getD i 0))) ∧ ∀ n ∈ zs, (Lit.int k n).wf = true
theorem cells_u8 (l : List Int) : cellsF u8F l = l.map (Value.int .u8) := by
  induction l with
  | nil => rfl
  | cons b l ih =>
    show [Value.int .u8 b] ++ cellsF u8F l = _
    rw [ih]
    rfl
theorem ro_of_row {w : World} {a : Option Addr} {len cap : Nat} {zs : List Int} (h : IsRow .u8 w a len cap zs) : Ro (fun g => g < w.heap.size) w (.slice a len cap) u8F.sz (zs.take len).length (cellsF u8F (zs.take len)) false := by
  refine ⟨cellsF_length _ _, ?_⟩
  rcases h with ⟨rfl, rfl, rfl, rfl⟩ | ⟨x, rfl, h1, h2, h3, h4, h5⟩
  · exact .inl ⟨rfl, rfl, rfl⟩
  · have hlen : (zs.take len).length = len := by simp; omega
    rw [hlen]
    by_cases h0 : len = 0
    · exact .inr (.inl ⟨h0, x, cap, by rw [h0]⟩)
    · have hc := h4 0 (by omega)
      rw [show x.add 0 = x by unfold Addr.add; simp] at hc
      have hsp := World.cell?_spot hc
      have hb := World.block_lt_of_cell? w x hc
      obtain ⟨g, off, spot⟩ := x
      simp only at hsp hb
      subst hsp
      refine .inr (.inr ⟨g, off, cap, rfl, h1, hb, fun j u hu => ?_⟩)
      have hu' : ((zs.take len).map (Value.int .u8))[j]? = some u := by rw [← cells_u8]; exact hu
      clear hu
      have hu := hu'
      simp only [List.getElem?_map, List.getElem?_take] at hu
      by_cases hj : j < len
      · rw [if_pos hj] at hu
        have hjl : j < zs.length := by omega
        rw [List.getElem?_eq_getElem hjl] at hu
        simp only [Option.map_some, Option.some.injEq] at hu
        have := h4 j hjl
        rw [addr_add] at this
        rw [this, ← hu]
        simp [List.getD, hjl]
      · rw [if_neg hj] at hu
        simp at hu
theorem row_bytes {w : World} {a : Option Addr} {len cap : Nat} {zs : List Int} (h : IsRow .u8 w a len cap zs) : (zs.take len).length = len ∧ ∀ x ∈ zs.take len, 0 ≤ x ∧ x < 256 := by
  rcases h with ⟨rfl, rfl, rfl, rfl⟩ | ⟨x, rfl, h1, h2, h3, h4, h5⟩
  · exact ⟨rfl, fun x hx => by simp at hx⟩
  · refine ⟨by simp; omega, fun x hx => ?_⟩
    have := h5 x (List.mem_of_mem_take hx)
    simp [Lit.wf, IntKind.min, IntKind.max, IntKind.signed, IntKind.bits] at this
    omega
inductive ArgD where
  | val (v : Value)
  | row (a : Option Addr) (len cap : Nat) (z : List Int)
def argSV : Nat → List ArgD → List SV
  | _, [] => []
  | j, .val v :: r => .v v :: argSV j r
  | j, .row _ _ _ _ :: r => .o j :: argSV (j + 1) r
def argT : Nat → List ArgD → Tab cE
  | _, [] => []
  | j, .val _ :: r => argT j r
  | j, .row _ len _ z :: r => (j, .ro 5 (z.take len) false) :: argT (j + 1) r
def argV : List ArgD → List Value
  | [] => []
  | .val v :: r => v :: argV r
  | .row a len cap _ :: r => .slice a len cap :: argV r
def rowsV : List ArgD → List Value
  | [] => []
  | .val _ :: r => rowsV r
  | .row a len cap _ :: r => .slice a len cap :: rowsV r
theorem args_ok {w : World} {μ : Nat → Value} {N : Nat} : ∀ (ds : List ArgD) (j : Nat), (∀ a len cap z, .row a len cap z ∈ ds → IsRow .u8 w a len cap z) → j + (rowsV ds).length ≤ N → (∀ i u, (rowsV ds)[i]? = some u → μ (j + i) = u) →
    Slots (fun k => k < N) μ (argSV j ds) (argV ds) ∧ ∀ k x, YtomgifkpnfgimaaSx.look (argT j ds) k = some x → j ≤ k ∧ k < N ∧ Holds (fun g => g < w.heap.size) w (fun k => k < N) μ w k x ∧ owning x = false
  | [], j, _, _, _ => ⟨slots_nil, fun k x h => by simp [argT, Go.Proofs.YtomgifkpnfgimaaSx.look] at h⟩
  | .val v :: r, j, hw, hN, hμ => by
    have ih := args_ok r j (fun a len cap z h => hw a len cap z (List.mem_cons_of_mem _ h)) hN hμ
    exact ⟨slots_cons.2 ⟨rel_v.2 rfl, ih.1⟩, ih.2⟩
  | .row a len cap z :: r, j, hw, hN, hμ => by
    simp only [rowsV, List.length_cons] at hN
    have ih := args_ok r (j + 1) (fun a len cap z h => hw a len cap z (List.mem_cons_of_mem _ h)) (N := N) (μ := μ) (by omega) (fun i u hi => by
      have := hμ (i + 1) u (by simpa [rowsV] using hi)
      rw [← this]
      congr 1
      omega) 
    have h0 := hμ 0 _ rfl
    rw [Nat.add_zero] at h0
    refine ⟨slots_cons.2 ⟨?_, ih.1⟩, fun k x hk => ?_⟩
    · unfold rel
      exact ⟨by omega, h0.symm, _, _, _, h0⟩
    · unfold argT at hk
      rw [look_cons] at hk
      by_cases hkj : k = j
      · rw [if_pos hkj] at hk
        cases hk
        subst hkj
        refine ⟨Nat.le_refl _, by omega, ?_, rfl⟩
        show Ro _ w (μ k) u8F.sz (z.take len).length (cellsF u8F (z.take len)) false
        rw [h0]
        exact ro_of_row (hw a len cap z List.mem_cons_self)
      · rw [if_neg hkj] at hk
        obtain ⟨a1, a2, a3⟩ := ih.2 k x hk
        exact ⟨by omega, a2, a3⟩
theorem law_rows {g n' : Nat} {T' : Tab cE} {v : Value} (ds : List ArgD) (he : Enters cE g) (h : Does cE g (argT 0 ds) (rowsV ds).length (argSV 0 ds) (.v v) T' n') (w : World) (hw : ∀ a len cap z, .row a len cap z ∈ ds → IsRow .u8 w a len cap z) :
    Calls Try.prog g (argV ds).toArray w fun e w' => e = .returned v ∧ Below w.heap.size w w' := by
  have hok := args_ok (w := w) (μ := fun i => (rowsV ds).getD i undef) (N := (rowsV ds).length) ds 0 hw (by omega) (fun i u hi => by simp [List.getD, hi])
  have hm : Mem (fun g => g < w.heap.size) w (fun k => k < (rowsV ds).length) (fun i => (rowsV ds).getD i undef) (argT 0 ds) w := by
    refine ⟨fun k x hk => ?_, fun k k' x x' g hk hk' ho _ _ _ => ?_, Kept.refl _ _, fun g hg => hg⟩
    · obtain ⟨_, a2, a3, _⟩ := hok.2 k x hk
      exact ⟨a2, a3⟩
    · have := (hok.2 k x hk).2.2.2
      rw [ho] at this
      cases this
  refine (h.calls he hm hok.1).mono fun e w' hh => ?_
  obtain ⟨u, μ', e1, e2, e3, e4⟩ := hh
  rw [rel_v.1 e3] at e1
  exact ⟨e1, e4.kept.below (fun g hg => hg)⟩
end Go.Proofs.YtomgifkpnfgimaaC
