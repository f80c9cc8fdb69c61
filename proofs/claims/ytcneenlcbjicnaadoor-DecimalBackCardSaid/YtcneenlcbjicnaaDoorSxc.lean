/- The symbolic machine's single steps on rows: stores, slices, places in rows, appends, literals, and what each comes to. -/
import Derived.Test.YtcneenlcbjicnaaDoorSxb
set_option linter.unusedVariables false
set_option linter.unusedSimpArgs false
namespace Go.Proofs.YtcneenlcbjicnaaDoorSx
open Go.RowKit Go.Proofs.YtcneenlcbjicnaaDoorW.PrintLast Go.Proofs.YtcneenlcbjicnaaDoorW.PrintWords
noncomputable section

structure Res (E : Env) where
  v : SV
  u : Tab E
  n : Nat
  c : List Prop
  d : List (Dec E)
/-- What a step must come to. -/
def Good {E : Env} (S : Nat → Prop) (w0 : World) (U : Nat → Prop) (μ : Nat → Value) (b : Tab E) (key : Nat) (R : Res E) (r : Result Value) : Prop :=
  ∃ u w' μ', r = .ok u w' ∧ (∀ k, U k → μ' k = μ k) ∧ rel (Up U key R.n) μ' R.v u ∧ Mem S w0 (Up U key R.n) μ' (R.u ++ b) w'
section
variable {E : Env} {S : Nat → Prop} {w0 w w' : World} {U : Nat → Prop} {μ : Nat → Value} {b : Tab E} {key : Nat}
theorem rel_up {a c : Nat} {s : SV} {u : Value} (h : rel U μ s u) : rel (Up U a c) μ s u := rel_mono (fun k hk => .inl hk) (fun _ _ => rfl) s u h
theorem good_plain {v : SV} {c : List Prop} {d : List (Dec E)} {u : Value} {r : Result Value} (hm : Mem S w0 U μ b w) (hr : r = .ok u w) (h : rel U μ v u) : Good S w0 U μ b key ⟨v, [], key, c, d⟩ r :=
  ⟨u, w, μ, hr, fun _ _ => rfl, rel_up h, hm.up key⟩

/-! ### Stores into rows -/
theorem splice_get {α : Type} {cs vs : List α} {off : Nat} (h : off + vs.length ≤ cs.length) (j : Nat) :
    (splice cs off vs)[j]? = if j < off then cs[j]? else if j < off + vs.length then vs[j - off]? else cs[j]? := by
  unfold splice
  have hl : (cs.take off).length = off := by simp; omega
  by_cases h1 : j < off
  · rw [if_pos h1, List.append_assoc, List.getElem?_append_left (by omega), List.getElem?_take_of_lt h1]
  · rw [if_neg h1]
    by_cases h2 : j < off + vs.length
    · rw [if_pos h2, List.append_assoc, List.getElem?_append_right (by omega), hl, List.getElem?_append_left (by omega)]
    · rw [if_neg h2, List.getElem?_append_right (by simp; omega), List.getElem?_drop]
      congr 1
      simp
      omega
theorem setRow_grown (w : World) (g : Nat) (row : Array Value) : w.grownBy (w.setRow g row) (some g) :=
  ⟨rfl, rfl, rfl, by simp, fun k _ hk => setRow_other w g k _ (fun e => hk (by rw [e]))⟩
theorem cellsF_set_get (F : Fmt) {l : List F.α} {i fo : Nat} {vs : List Value} {a : F.α} (hi : i < l.length) (hf : fo + vs.length ≤ F.sz) (ha : F.dec (splice (F.enc (l.getD i F.d)) fo vs) = some a) :
    cellsF F (l.set i a) = splice (cellsF F l) (i * F.sz + fo) vs := by
  have hlen : (i * F.sz + fo) + vs.length ≤ (cellsF F l).length := by
    rw [cellsF_length]
    have : (i + 1) * F.sz ≤ l.length * F.sz := Nat.mul_le_mul_right _ hi
    rw [Nat.add_mul] at this
    omega
  have hinv := F.inv _ _ ha
  have hget : l[i]? = some (l.getD i F.d) := by simp [List.getD, hi]
  refine List.ext_getElem? (fun j => ?_)
  rw [splice_get hlen]
  by_cases hj : j < l.length * F.sz
  · have hpos := F.pos
    have hq : j / F.sz < l.length := Nat.div_lt_of_lt_mul (by rw [Nat.mul_comm]; exact hj)
    have hr : j % F.sz < F.sz := Nat.mod_lt _ hpos
    have hjd : j = (j / F.sz) * F.sz + j % F.sz := by rw [Nat.mul_comm]; exact (Nat.div_add_mod j F.sz).symm
    by_cases hqi : j / F.sz = i
    · have e1 : (cellsF F (l.set i a))[j]? = (F.enc a)[j % F.sz]? := by
        rw [hjd, hqi]
        have := cellsF_get F (l.set i a) i (j % F.sz) a (by simp [hi]) hr
        rw [this]
        congr 1
        rw [← hqi, ← hjd]
      have e2 : (cellsF F l)[j]? = (F.enc (l.getD i F.d))[j % F.sz]? := by
        rw [hjd, hqi]
        have := cellsF_get F l i (j % F.sz) _ hget hr
        rw [this]
        congr 1
        rw [← hqi, ← hjd]
      rw [e1, hinv, splice_get (by rw [F.len]; exact hf), e2]
      have hj2 : j = i * F.sz + j % F.sz := by rw [← hqi]; exact hjd
      by_cases c1 : j % F.sz < fo
      · rw [if_pos c1, if_pos (by omega)]
      · by_cases c2 : j % F.sz < fo + vs.length
        · rw [if_neg c1, if_pos c2, if_neg (by omega), if_pos (by omega)]
          congr 1
          omega
        · rw [if_neg c1, if_neg c2, if_neg (by omega), if_neg (by omega)]
    · have hn : (l.set i a)[j / F.sz]? = l[j / F.sz]? := List.getElem?_set_ne (fun e => hqi e.symm)
      obtain ⟨x, hx⟩ : ∃ x, l[j / F.sz]? = some x := ⟨l[j / F.sz], by simp [hq]⟩
      have e1 := cellsF_get F (l.set i a) (j / F.sz) (j % F.sz) x (by rw [hn]; exact hx) hr
      have e2 := cellsF_get F l (j / F.sz) (j % F.sz) x hx hr
      rw [← hjd] at e1 e2
      rw [e1, ← e2]
      by_cases c1 : j < i * F.sz + fo
      · rw [if_pos c1]
      · rw [if_neg c1, if_neg]
        intro c2
        have h1 : i ≤ j / F.sz := (Nat.le_div_iff_mul_le hpos).2 (by omega)
        have h2 : j / F.sz < i + 1 := Nat.div_lt_of_lt_mul (by rw [Nat.mul_comm, Nat.add_mul]; omega)
        omega
  · have e1 : (cellsF F (l.set i a))[j]? = none := List.getElem?_eq_none (by rw [cellsF_length, List.length_set]; omega)
    have e2 : (cellsF F l)[j]? = none := List.getElem?_eq_none (by rw [cellsF_length]; omega)
    rw [e1, e2]
    rw [cellsF_length] at hlen
    rw [if_neg (by omega), if_neg (by omega)]
theorem own_store (hm : Mem S w0 U μ b w) {k : Nat} {e : TypeId} {l : List (E.fm e).α} (hk : look b k = some (.own e l)) {g o len cap : Nat} (hμ : μ k = .slice (some ⟨g, o, none⟩) len cap) {i fo : Nat} (hi : i < l.length)
    {vs : List Value} (hf : fo + vs.length ≤ (E.fm e).sz) {a : (E.fm e).α} (ha : (E.fm e).dec (splice ((E.fm e).enc (l.getD i (E.fm e).d)) fo vs) = some a) :
    o = 0 ∧ ∃ cur : Array Value, w.heap[g]? = some (.cells cur.toList.toArray e (0, 0)) ∧ (i * (E.fm e).sz + fo) + vs.length ≤ cur.toList.length ∧
      Mem S w0 U μ ((k, .own e (l.set i a)) :: b) (w.setRow g (splice cur.toList (i * (E.fm e).sz + fo) vs).toArray) := by
  have h := (hm.obj k _ hk).2
  have ho := h.1
  rcases ho.2 with ⟨h1, h2⟩ | ⟨g', cap', cur, h1, h0, h2, h3, h4, h5, h6⟩
  · rw [h1] at hμ; cases hμ
  · rw [h1] at hμ
    cases hμ
    have hb : (i * (E.fm e).sz + fo) + vs.length ≤ l.length * (E.fm e).sz := by
      have : (i + 1) * (E.fm e).sz ≤ l.length * (E.fm e).sz := Nat.mul_le_mul_right _ hi
      rw [Nat.add_mul] at this
      omega
    have hcur : l.length * (E.fm e).sz ≤ cur.toList.length := by
      have hcl : cur.toList.length = cur.size := by simp
      rw [hcl, h5]
      exact Nat.mul_le_mul_right _ h3
    have hle : (i * (E.fm e).sz + fo) + vs.length ≤ cur.toList.length := Nat.le_trans hb hcur
    refine ⟨rfl, cur, by simpa using h2, hle, ?_⟩
    refine hm.turn hk rfl (by rw [h1]; exact setRow_grown w g _) ⟨⟨?_, .inr ⟨g, cap, _, by rw [h1, List.length_set], h0, setRow_heap w g cur _ e (0, 0) h2, by rw [List.length_set]; exact h3, h4, ?_, ?_⟩⟩, h.2⟩
    · rw [cellsF_length]
    · rw [← h5]; simp [splice_length hle]
    · rw [cellsF_set_get _ hi hf ha, List.length_set, ← h6]
      simp only [List.toList_toArray]
      refine List.ext_getElem? (fun j => ?_)
      rw [splice_get (by rw [List.length_take]; omega)]
      by_cases hj : j < l.length * (E.fm e).sz
      · rw [List.getElem?_take_of_lt hj, splice_get hle, List.getElem?_take_of_lt hj]
      · rw [List.getElem?_eq_none (by simp; omega), if_neg (by omega), if_neg (by omega), List.getElem?_eq_none (by simp; omega)]
/-- The integers of a kind that cells begin with. -/
def intPre (kd : IntKind) : List SV → List Int
  | .v (.int k z) :: r => if k = kd then z :: intPre kd r else []
  | _ => []
def cellsI (kd : IntKind) (n : Nat) (l : List Int) : List SV := (List.range n).map fun j => .v (.int kd (l.getD j 0))
theorem intPre_get {kd : IntKind} : ∀ (cs : List SV) (i : Nat), i < (intPre kd cs).length → cs[i]? = some (.v (.int kd ((intPre kd cs).getD i 0)))
  | [], i, h => by simp [intPre] at h
  | s :: r, i, h => by
    unfold intPre at h ⊢
    split at h
    · rename_i k z r' heq
      simp only [List.cons.injEq] at heq
      obtain ⟨rfl, rfl⟩ := heq
      by_cases hk : k = kd
      · subst hk
        rw [if_pos rfl] at h ⊢
        cases i with
        | zero => simp
        | succ i =>
          have := intPre_get r i (by simpa using h)
          simpa using this
      · rw [if_neg hk] at h
        simp at h
    · simp at h
theorem intPre_le {kd : IntKind} : ∀ (cs : List SV), (intPre kd cs).length ≤ cs.length
  | [] => by simp [intPre]
  | s :: r => by
    have ih := intPre_le (kd := kd) r
    unfold intPre
    split
    · rename_i k z r' heq
      cases heq
      split
      · exact Nat.succ_le_succ ih
      · exact Nat.zero_le _
    · exact Nat.zero_le _
theorem slots_ext {U : Nat → Prop} {μ : Nat → Value} : ∀ {ss : List SV} {us : List Value}, ss.length = us.length → (∀ (i : Nat) s u, ss[i]? = some s → us[i]? = some u → rel U μ s u) → Slots U μ ss us
  | [], [], _, _ => slots_nil
  | [], _ :: _, h, _ => by simp at h
  | _ :: _, [], h, _ => by simp at h
  | s :: ss, u :: us, h, hr => slots_cons.2 ⟨hr 0 s u rfl rfl, slots_ext (by simpa using h) fun i s' u' h1 h2 => hr (i + 1) s' u' (by simpa using h1) (by simpa using h2)⟩
theorem cellsI_get {kd : IntKind} {n : Nat} {l : List Int} {j : Nat} (h : j < n) : (cellsI kd n l)[j]? = some (.v (.int kd (l.getD j 0))) := by
  simp [cellsI, h]
theorem cellsI_len {kd : IntKind} {n : Nat} {l : List Int} : (cellsI kd n l).length = n := by simp [cellsI]
/-- A store at any place of integers in a row. -/
theorem slots_put {U : Nat → Prop} {μ : Nat → Value} {cs : List SV} {us : List Value} {kd : IntKind} {fo ix : Nat} {z : Int} (h : Slots U μ cs us) (hi : ix < (intPre kd (cs.drop fo)).length) :
    fo + ix < us.length ∧ Slots U μ (splice cs fo (cellsI kd (intPre kd (cs.drop fo)).length ((intPre kd (cs.drop fo)).set ix z))) (splice us (fo + ix) [.int kd z]) := by
  have hl := h.length
  have hle := intPre_le (kd := kd) (cs.drop fo)
  rw [List.length_drop] at hle
  refine ⟨by omega, ?_⟩
  have e1 : fo + (cellsI kd (intPre kd (cs.drop fo)).length ((intPre kd (cs.drop fo)).set ix z)).length ≤ cs.length := by rw [cellsI_len]; omega
  have e2 : (fo + ix) + [Value.int kd z].length ≤ us.length := by simp; omega
  refine slots_ext (by rw [splice_length e1, splice_length e2, hl]) fun j s u hs hu => ?_
  rw [splice_get e1, cellsI_len] at hs
  rw [splice_get e2] at hu
  simp only [List.length_singleton] at hu
  have old : ∀ s u, cs[j]? = some s → us[j]? = some u → rel U μ s u := by
    intro s u h1 h2
    obtain ⟨u', h3, h4⟩ := h.get j s h1
    rw [h2] at h3
    cases h3
    exact h4
  by_cases c1 : j < fo
  · rw [if_pos c1] at hs
    rw [if_pos (by omega)] at hu
    exact old s u hs hu
  · rw [if_neg c1] at hs
    by_cases c2 : j < fo + (intPre kd (cs.drop fo)).length
    · rw [if_pos c2, cellsI_get (by omega)] at hs
      cases hs
      by_cases c3 : j = fo + ix
      · subst c3
        rw [if_neg (by omega), if_pos (by omega)] at hu
        simp at hu
        subst hu
        refine rel_v.2 ?_
        have e3 : fo + ix - fo = ix := by omega
        rw [e3]
        simp [List.getD, hi]
      · have hu2 : us[j]? = some u := by
          by_cases c4 : j < fo + ix
          · rw [if_pos c4] at hu; exact hu
          · rw [if_neg c4, if_neg (by omega)] at hu; exact hu
        have hc := intPre_get (kd := kd) (cs.drop fo) (j - fo) (by omega)
        rw [List.getElem?_drop] at hc
        have e3 : fo + (j - fo) = j := by omega
        rw [e3] at hc
        have := rel_v.1 (old _ u hc hu2)
        rw [this]
        refine rel_v.2 ?_
        simp only [List.getD_eq_getElem?_getD]
        rw [List.getElem?_set_ne (by omega)]
    · rw [if_neg c2] at hs
      rw [if_neg (by omega), if_neg (by omega)] at hu
      exact old s u hs hu
def xStore (b : Tab E) (key : Nat) (t : TypeId) (x y : SV) (d : List (Dec E)) : Option (Res E) := match cellsS y, E.P.info? t with
  | some vs, some i => match x with
    | .p k off => match look b k with
      | some (.box bt cs) => bif Nat.beq vs.length i.size && Nat.ble (off + vs.length) cs.length && vs.all oneS then some ⟨.v undef, [(k, .box bt (splice cs off vs))], key, [], d⟩ else none
      | _ => none
    | .q k sz ix fo => match look b k with
      | some (.own e l) => bif Nat.beq vs.length i.size && Nat.ble (fo + vs.length) sz && Nat.beq sz (E.fm e).sz && vs.all oneS then (match allV vs with
        | some us => match (E.fm e).dec (splice ((E.fm e).enc (l.getD ix (E.fm e).d)) fo us) with
          | some a => some ⟨.v undef, [(k, .own e (l.set ix a))], key, [ix < l.length], d⟩
          | none => none
        | none => none) else none
      | some (.box bt cs) => (match y, E.P.underlying t with
        | .v (.int kd z), some (.int kd') => if kd = kd' then (bif Nat.beq sz 1 && Nat.beq i.size 1 then some ⟨.v undef, [(k, .box bt (splice cs fo (cellsI kd (intPre kd (cs.drop fo)).length ((intPre kd (cs.drop fo)).set ix z))))], key, [ix < (intPre kd (cs.drop fo)).length], d⟩ else none) else none
        | _, _ => none)
      | _ => none
    | _ => none
  | _, _ => none
theorem xStore_ok {t : TypeId} {x y : SV} {d : List (Dec E)} {R : Res E} (h : xStore b key t x y d = some R) (hc : Conj R.c) (hm : Mem S w0 U μ b w) {ux uy : Value} (hx : rel U μ x ux) (hy : rel U μ y uy) :
    ∃ w', (Instr.storeAt t ux uy).run E.P w = .ok () w' ∧ Mem S w0 (Up U key R.n) μ (R.u ++ b) w' ∧ R.v = .v undef := by
  unfold xStore at h
  cases hcs : cellsS y with
  | none => simp [hcs] at h
  | some vs =>
  cases hi : E.P.info? t with
  | none => simp [hcs, hi] at h
  | some i =>
  simp only [hcs, hi] at h
  have hsl := cellsS_rel hy hcs
  have hlen := hsl.length
  cases x with
  | p k off =>
    simp only at h
    split at h
    · rename_i bt cs hk
      cases hcd : (Nat.beq vs.length i.size && Nat.ble (off + vs.length) cs.length && vs.all oneS) with
      | false => simp [hcd] at h
      | true =>
        simp only [hcd, cond_true, Option.some.injEq] at h
        subst h
        simp only [Bool.and_eq_true] at hcd
        have e1 := Nat.eq_of_beq_eq_true hcd.1.1
        have e2 := Nat.le_of_ble_eq_true hcd.1.2
        obtain ⟨g, us, h1, h2, h3, h4⟩ := (hm.obj k _ hk).2
        unfold rel at hx
        obtain ⟨_, g', h1', hx⟩ := hx
        rw [h1] at h1'
        cases h1'
        have hul := h3.length
        have hs : uy.cells.size = vs.length := by rw [hlen]; simp
        have hrun := run_storeAt (P := E.P) (t := t) (off := off) (u := uy) h4 hi (by rw [hs, e1]) (by omega) (allOne hsl hcd.2)
        refine ⟨_, by rw [hx]; exact hrun, ?_, rfl⟩
        exact Mem.up (hm.turn (x' := .box bt (splice cs off vs)) hk rfl (by rw [h1]; exact setRow_grown w g _) ⟨g, _, h1, h2, h3.spl hsl off, setRow_heap w g us.toArray _ bt (0, 0) h4⟩) key
    · cases h
  | q k sz ix fo =>
    simp only at h
    split at h
    · rename_i e l hk
      cases hcd : (Nat.beq vs.length i.size && Nat.ble (fo + vs.length) sz && Nat.beq sz (E.fm e).sz && vs.all oneS) with
      | false => simp [hcd] at h
      | true =>
        simp only [hcd, cond_true] at h
        simp only [Bool.and_eq_true] at hcd
        have e1 := Nat.eq_of_beq_eq_true hcd.1.1.1
        have e2 := Nat.le_of_ble_eq_true hcd.1.1.2
        have e3 := Nat.eq_of_beq_eq_true hcd.1.2
        subst e3
        cases ha : allV vs with
        | none => simp [ha] at h
        | some us =>
          cases hde : (E.fm e).dec (splice ((E.fm e).enc (l.getD ix (E.fm e).d)) fo us) with
          | none => simp only [ha, hde] at h; cases h
          | some a =>
            simp only [ha, hde, Option.some.injEq] at h
            subst h
            have hlt : ix < l.length := hc
            have hus : uy.cells.toList = us := allV_slots hsl ha
            have hul : us.length = vs.length := by rw [← hus]; exact hlen.symm
            unfold rel at hx
            obtain ⟨_, g, o, hb0, hx⟩ := hx
            obtain ⟨len, cap, h1⟩ : ∃ len cap, μ k = .slice (some ⟨g, o, none⟩) len cap := by
              rcases (hm.obj k _ hk).2.1.2 with ⟨c1, _⟩ | ⟨g', cap', cur, c1, _⟩
              · rw [c1] at hb0; cases hb0
              · rw [c1] at hb0
                simp only [baseOf, Option.some.injEq, Prod.mk.injEq] at hb0
                obtain ⟨rfl, rfl⟩ := hb0
                exact ⟨_, _, c1⟩
            obtain ⟨rfl, cur, hg, hle, hmem⟩ := own_store hm hk h1 hlt (vs := us) (by rw [hul]; exact e2) hde
            have hs : uy.cells.size = vs.length := by rw [hlen]; simp
            have hrun := run_storeAt (P := E.P) (t := t) (off := ix * (E.fm e).sz + fo) (u := uy) hg hi (by rw [hs, e1]) (by omega) (allOne hsl hcd.2)
            refine ⟨_, by rw [hx, Nat.zero_add]; exact hrun, ?_, rfl⟩
            rw [hus]
            exact hmem.up key
    · rename_i bt cs hk
      split at h
      · rename_i kd z kd' ht
        by_cases hkd : kd = kd'
        · subst hkd
          rw [if_pos rfl] at h
          cases hcd : (Nat.beq sz 1 && Nat.beq i.size 1) with
          | false => simp [hcd] at h
          | true =>
            simp only [hcd, cond_true, Option.some.injEq] at h
            subst h
            simp only [Bool.and_eq_true] at hcd
            have e1 := Nat.eq_of_beq_eq_true hcd.1
            have e2 := Nat.eq_of_beq_eq_true hcd.2
            subst e1
            have hix : ix < (intPre kd (cs.drop fo)).length := hc
            obtain ⟨g, us, h1, h2, h3, h4⟩ := (hm.obj k _ hk).2
            unfold rel at hx
            obtain ⟨_, g', o', hb0, hx⟩ := hx
            rw [h1] at hb0
            simp only [baseOf, Option.some.injEq, Prod.mk.injEq] at hb0
            obtain ⟨rfl, rfl⟩ := hb0
            obtain ⟨p1, p2⟩ := slots_put (z := z) h3 hix
            have huy := rel_v.1 hy
            subst huy
            have hrun := run_storeAt (P := E.P) (t := t) (off := fo + ix) (u := .int kd z) h4 hi (by rw [e2]; rfl) (by omega) (by intro v hv; simp [Value.cells] at hv; subst hv; rfl)
            have e3 : 0 + (ix * 1 + fo) = fo + ix := by omega
            refine ⟨_, by rw [hx, e3]; exact hrun, ?_, rfl⟩
            exact Mem.up (hm.turn (x' := .box bt (splice cs fo (cellsI kd (intPre kd (cs.drop fo)).length ((intPre kd (cs.drop fo)).set ix z)))) hk rfl (by rw [h1]; exact setRow_grown w g _) ⟨g, _, h1, h2, p2, setRow_heap w g us.toArray _ bt (0, 0) h4⟩) key
        · rw [if_neg hkd] at h
          cases h
      · cases h
    · cases h
  | _ => simp at h
def boxOf : SObj E → Option (List SV)
  | .box _ cs => some cs
  | .rob _ cs => some cs
  | _ => none
def glLoad (t : Option TypeDesc) (off : Nat) : Gl → Option (Value × Prop)
  | .ints kd l => match t with
    | some (.int kd') => if kd = kd' then some (.int kd (l.getD off 0), off < l.length) else none
    | _ => none
  | .strs l => match t with
    | some .string => some (.string (l.getD off ByteArray.empty), off < l.length)
    | _ => none
  | .no => none
def xLoad (b : Tab E) (key : Nat) (t : TypeId) (x : SV) (d : List (Dec E)) : Option (Res E) := match x with
  | .p k off => match look b k with
    | some (.box _ cs) | some (.rob _ cs) => match loadS E.P t cs off with
      | some v => some ⟨v, [], key, [], d⟩
      | none => none
    | _ => none
  | .q k sz ix fo => match look b k with
    | some x => match rowOf x with
      | some ⟨e, l⟩ => bif Nat.beq sz (E.fm e).sz then (match loadOf E.P t ((E.fm e).enc (l.getD ix (E.fm e).d)) fo with
        | some v => some ⟨.v v, [], key, [ix < l.length], d⟩
        | none => none) else none
      | none => match boxOf x with
        | some cs => match E.P.underlying t with
          | some (.int kd) => bif Nat.beq sz 1 then some ⟨.v (.int kd ((intPre kd (cs.drop fo)).getD ix 0)), [], key, [ix < (intPre kd (cs.drop fo)).length], d⟩ else none
          | _ => none
        | none => none
    | none => none
  | .v (.pointer (some ⟨g, off, none⟩)) => match glLoad (E.P.underlying t) off (E.gl g) with
    | some (v, c) => some ⟨.v v, [], key, [c], d⟩
    | none => none
  | _ => none
theorem run_load_scalar {P : Program} {w : World} {t : TypeId} {g o : Nat} {u : Value} (ht : (∃ k, P.underlying t = some (.int k)) ∨ P.underlying t = some .string) (hc : w.cell? ⟨g, o, none⟩ = some u) :
    (Instr.loadAt t (.pointer (some ⟨g, o, none⟩))).run P w = .ok u w := by
  unfold Instr.loadAt loadVar isAgg
  rcases ht with ⟨k, ht⟩ | ht <;> simp [Instr.sureAddr, run_underlying ht, load, Sem.run, hc]
theorem row_cells_at (F : Fmt) {l : List F.α} {i j : Nat} {v : Value} (hi : i < l.length) (h : (F.enc (l.getD i F.d))[j]? = some v) : (cellsF F l)[i * F.sz + j]? = some v := by
  have hj : j < F.sz := by
    have := (List.getElem?_eq_some_iff.1 h).1
    rwa [F.len] at this
  rw [cellsF_get F l i j (l.getD i F.d) (by simp [List.getD, hi]) hj, h]
theorem xLoad_ok {t : TypeId} {x : SV} {d : List (Dec E)} {R : Res E} (h : xLoad b key t x d = some R) (hc : Conj R.c) (hm : Mem S w0 U μ b w) {ux : Value} (hx : rel U μ x ux) : Good S w0 U μ b key R ((Instr.loadAt t ux).run E.P w) := by
  unfold xLoad at h
  cases x with
  | p k off =>
    simp only at h
    have key : ∀ (x : SObj E) (bt : TypeId) (cs : List SV), look b k = some x → (x = .box bt cs ∨ x = .rob bt cs) → (match loadS E.P t cs off with
      | some v => some (⟨v, [], key, [], d⟩ : Res E)
      | none => none) = some R → Good S w0 U μ b key R ((Instr.loadAt t ux).run E.P w) := by
      intro x bt cs hk hxx h
      obtain ⟨g, us, h1, h2, h3, h4, h5⟩ := box_reads hm hk hxx
      cases hl : loadS E.P t cs off with
      | none => simp [hl] at h
      | some v =>
        simp only [hl, Option.some.injEq] at h
        subst h
        obtain ⟨u, hu1, hu2⟩ := loadS_rel h3 hl
        unfold rel at hx
        obtain ⟨_, g', h1', hx⟩ := hx
        rw [h1] at h1'
        cases h1'
        have := run_loadAt (P := E.P) h5 hu1
        rw [Nat.zero_add] at this
        exact good_plain hm (by rw [hx]; exact this) hu2
    split at h
    · rename_i bt cs hk
      exact key _ bt cs hk (.inl rfl) h
    · rename_i bt cs hk
      exact key _ bt cs hk (.inr rfl) h
    · cases h
  | q k sz ix fo =>
    simp only at h
    split at h
    · rename_i x hk
      split at h
      · rename_i e l hro
        cases hz : Nat.beq sz (E.fm e).sz with
        | false => simp [hz] at h
        | true =>
          have e3 := Nat.eq_of_beq_eq_true hz
          subst e3
          simp only [hz, cond_true] at h
          cases hl : loadOf E.P t ((E.fm e).enc (l.getD ix (E.fm e).d)) fo with
          | none => simp only [hl] at h; cases h
          | some v =>
            simp only [hl, Option.some.injEq] at h
            subst h
            have hlt : ix < l.length := hc
            unfold rel at hx
            obtain ⟨_, g, o, h1, hx⟩ := hx
            rcases row_reads hm hk hro with ⟨h1', _⟩ | ⟨h1', _⟩ | ⟨g', o', cap', h1', h2, h3, h4⟩
            · rw [h1'] at h1; cases h1
            · omega
            · rw [h1'] at h1
              simp only [baseOf, Option.some.injEq, Prod.mk.injEq] at h1
              obtain ⟨rfl, rfl⟩ := h1
              have hrun := run_loadAt (P := E.P) (w := w) (t := t) (g := g') (base := o' + ix * (E.fm e).sz) (off := fo) (cs := (E.fm e).enc (l.getD ix (E.fm e).d)) (fun j v hv => by
                have := h4 _ _ (row_cells_at (E.fm e) hlt hv)
                rwa [← Nat.add_assoc] at this) hl
              exact good_plain hm (by rw [hx, ← Nat.add_assoc]; exact hrun) (rel_v.2 rfl)
      · rename_i hro
        split at h
        · rename_i cs hbo
          split at h
          · rename_i kd ht
            cases hz : Nat.beq sz 1 with
            | false => simp [hz] at h
            | true =>
              have e3 := Nat.eq_of_beq_eq_true hz
              subst e3
              simp only [hz, cond_true, Option.some.injEq] at h
              subst h
              have hix : ix < (intPre kd (cs.drop fo)).length := hc
              have key : ∀ bt, (x = .box bt cs ∨ x = .rob bt cs) → Good S w0 U μ b key ⟨.v (.int kd ((intPre kd (cs.drop fo)).getD ix 0)), [], key, [ix < (intPre kd (cs.drop fo)).length], d⟩ ((Instr.loadAt t ux).run E.P w) := by
                intro bt hxx
                obtain ⟨g, us, h1, h2, h3, h4, h5⟩ := box_reads hm hk hxx
                unfold rel at hx
                obtain ⟨_, g', o', hb0, hx⟩ := hx
                rw [h1] at hb0
                simp only [baseOf, Option.some.injEq, Prod.mk.injEq] at hb0
                obtain ⟨rfl, rfl⟩ := hb0
                have hg := intPre_get (kd := kd) (cs.drop fo) ix hix
                rw [List.getElem?_drop] at hg
                obtain ⟨u, hu1, hu2⟩ := h3.get _ _ hg
                have hcell := h5 _ _ hu1
                have e4 : 0 + (ix * 1 + fo) = 0 + (fo + ix) := by omega
                refine good_plain hm (by rw [hx, e4]; exact run_load_scalar (.inl ⟨kd, ht⟩) hcell) ?_
                exact hu2
              cases x with
              | box bt cs' => simp only [boxOf, Option.some.injEq] at hbo; subst hbo; exact key bt (.inl rfl)
              | rob bt cs' => simp only [boxOf, Option.some.injEq] at hbo; subst hbo; exact key bt (.inr rfl)
              | _ => simp [boxOf] at hbo
          · cases h
        · cases h
    · cases h
  | v xv =>
    simp only at h
    split at h <;> try contradiction
    rename_i g off heq
    cases heq
    split at h
    · rename_i v c hgl
      simp only [Option.some.injEq] at h
      subst h
      have hux := rel_v.1 hx
      subst hux
      have hc' : c := hc
      have fin : glCell (E.gl g) off = some v ∧ ((∃ k, E.P.underlying t = some (.int k)) ∨ E.P.underlying t = some .string) := by
        unfold glLoad at hgl
        split at hgl
        · rename_i kd l hge
          split at hgl
          · rename_i kd' ht
            by_cases hk : kd = kd'
            · rw [if_pos hk] at hgl
              simp only [Option.some.injEq, Prod.mk.injEq] at hgl
              obtain ⟨rfl, rfl⟩ := hgl
              have hlt : off < l.length := hc'
              exact ⟨by rw [hge]; simp [glCell, List.getD, hlt], .inl ⟨_, ht⟩⟩
            · rw [if_neg hk] at hgl; cases hgl
          · cases hgl
        · rename_i l hge
          split at hgl
          · rename_i ht
            simp only [Option.some.injEq, Prod.mk.injEq] at hgl
            obtain ⟨rfl, rfl⟩ := hgl
            have hlt : off < l.length := hc'
            exact ⟨by rw [hge]; simp [glCell, List.getD, hlt], .inr ht⟩
          · cases hgl
        · cases hgl
      obtain ⟨gS, gc⟩ := hm.dom.2.cell g off v fin.1
      exact good_plain hm (run_load_scalar fin.2 (hm.kept_cell gS gc)) (rel_v.2 rfl)
    · cases h
  | _ => simp at h
end
end
end Go.Proofs.YtcneenlcbjicnaaDoorSx
