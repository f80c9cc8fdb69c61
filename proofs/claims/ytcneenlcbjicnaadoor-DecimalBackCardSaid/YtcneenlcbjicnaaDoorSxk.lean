/- The symbolic machine's calls: a called function entered, or told by what it comes to; a state told anew by fewer keys; pieces of a body. -/
import Derived.Test.YtcneenlcbjicnaaDoorSxj
set_option linter.unusedVariables false
set_option linter.unusedSimpArgs false
namespace Go.Proofs.YtcneenlcbjicnaaDoorSx
open Go.RowKit Go.Proofs.YtcneenlcbjicnaaDoorW.PrintLast Go.Proofs.YtcneenlcbjicnaaDoorW.PrintWords
noncomputable section
section
variable {E : Env}
/-! ### A state told anew: the keys in use, in order -/
mutual
def keysV : SV → List Nat
  | .p k _ => [k]
  | .sb k _ _ _ => [k]
  | .o k => [k]
  | .s k _ _ _ => [k]
  | .q k _ _ _ => [k]
  | .g cs => keysL cs
  | .t cs => keysL cs
  | .v _ => []
  | .na => []
def keysL : List SV → List Nat
  | [] => []
  | s :: ss => keysV s ++ keysL ss
end
def keysO : SObj E → List Nat
  | .box _ cs => keysL cs
  | .rob _ cs => keysL cs
  | _ => []
def addK (L : List Nat) (k : Nat) : List Nat := bif L.any (Nat.beq k) then L else L ++ [k]
def closeK (b : Tab E) : Nat → List Nat → List Nat
  | 0, L => L
  | n + 1, L => closeK b n ((L.flatMap fun k => match look b k with | some x => keysO x | none => []).foldl addK L)
def idxK : List Nat → Nat → Option Nat
  | [], _ => none
  | j :: L, k => bif Nat.beq j k then some 0 else match idxK L k with
    | some i => some (i + 1)
    | none => none
mutual
def renV (f : Nat → Option Nat) : SV → SV
  | .v x => .v x
  | .p k o => match f k with | some j => .p j o | none => .na
  | .sb k lo n c => match f k with | some j => .sb j lo n c | none => .na
  | .o k => match f k with | some j => .o j | none => .na
  | .s k sz lo n => match f k with | some j => .s j sz lo n | none => .na
  | .q k sz i fo => match f k with | some j => .q j sz i fo | none => .na
  | .g cs => .g (renL f cs)
  | .t cs => .t (renL f cs)
  | .na => .na
def renL (f : Nat → Option Nat) : List SV → List SV
  | [] => []
  | s :: ss => renV f s :: renL f ss
end
def renO (f : Nat → Option Nat) : SObj E → SObj E
  | .box t cs => .box t (renL f cs)
  | .rob t cs => .rob t (renL f cs)
  | y => y
theorem renL_length (f : Nat → Option Nat) : ∀ cs, (renL f cs).length = cs.length
  | [] => rfl
  | s :: ss => by unfold renL; simp [renL_length f ss]
section
variable {U U' : Nat → Prop} {μ μ' : Nat → Value} {f : Nat → Option Nat}
mutual
theorem renV_rel (hf : ∀ k j, U k → f k = some j → U' j ∧ μ' j = μ k) : ∀ (s : SV) (u : Value), rel U μ s u → rel U' μ' (renV f s) u
  | .v x, u, h => by unfold renV; exact rel_v.2 (rel_v.1 h)
  | .p k o, u, h => by
    unfold renV
    cases hk : f k with
    | none => exact rel_x
    | some j =>
      unfold rel at h
      simp only
      unfold rel
      rw [(hf k j h.1 hk).2]
      exact ⟨(hf k j h.1 hk).1, h.2⟩
  | .sb k lo n c, u, h => by
    unfold renV
    cases hk : f k with
    | none => exact rel_x
    | some j =>
      unfold rel at h
      simp only
      unfold rel
      rw [(hf k j h.1 hk).2]
      exact ⟨(hf k j h.1 hk).1, h.2⟩
  | .o k, u, h => by
    unfold renV
    cases hk : f k with
    | none => exact rel_x
    | some j =>
      unfold rel at h
      simp only
      unfold rel
      rw [(hf k j h.1 hk).2]
      exact ⟨(hf k j h.1 hk).1, h.2⟩
  | .s k sz lo n, u, h => by
    unfold renV
    cases hk : f k with
    | none => exact rel_x
    | some j =>
      unfold rel at h
      simp only
      unfold rel
      rw [(hf k j h.1 hk).2]
      exact ⟨(hf k j h.1 hk).1, h.2⟩
  | .q k sz i fo, u, h => by
    unfold renV
    cases hk : f k with
    | none => exact rel_x
    | some j =>
      unfold rel at h
      simp only
      unfold rel
      rw [(hf k j h.1 hk).2]
      exact ⟨(hf k j h.1 hk).1, h.2⟩
  | .g cs, u, h => by
    unfold renV
    unfold rel at h ⊢
    obtain ⟨us, h1, h2⟩ := h
    exact ⟨us, h1, renL_slots hf cs us h2⟩
  | .t cs, u, h => by
    unfold renV
    unfold rel at h ⊢
    obtain ⟨us, h1, h2⟩ := h
    exact ⟨us, h1, renL_slots hf cs us h2⟩
  | .na, u, h => by unfold renV; exact rel_x
theorem renL_slots (hf : ∀ k j, U k → f k = some j → U' j ∧ μ' j = μ k) : ∀ (ss : List SV) (us : List Value), Slots U μ ss us → Slots U' μ' (renL f ss) us
  | [], us, h => by unfold renL; rw [h.nilr]; exact slots_nil
  | s :: ss, us, h => by
    unfold renL
    obtain ⟨u, r, h1, h2, h3⟩ := h.consr
    rw [h1]
    exact slots_cons.2 ⟨renV_rel hf s u h2, renL_slots hf ss r h3⟩
end
end
def nodupB : List Nat → Bool
  | [] => true
  | k :: L => !L.any (Nat.beq k) && nodupB L
theorem idxK_get : ∀ {L : List Nat} {k i : Nat}, idxK L k = some i → L[i]? = some k
  | [], k, i, h => by simp [idxK] at h
  | j :: L, k, i, h => by
    unfold idxK at h
    cases hj : Nat.beq j k with
    | true =>
      simp only [hj, cond_true, Option.some.injEq] at h
      subst h
      have : j = k := Nat.eq_of_beq_eq_true hj
      simp [this]
    | false =>
      simp only [hj, cond_false] at h
      cases hi : idxK L k with
      | none => simp [hi] at h
      | some i' =>
        simp only [hi, Option.some.injEq] at h
        subst h
        simpa using idxK_get hi
theorem nodup_inj : ∀ {L : List Nat} {i j k : Nat}, nodupB L = true → L[i]? = some k → L[j]? = some k → i = j
  | [], i, j, k, h, hi, hj => by simp at hi
  | x :: L, i, j, k, h, hi, hj => by
    simp only [nodupB, Bool.and_eq_true, Bool.not_eq_true'] at h
    have hx : ∀ m : Nat, L[m]? = some x → False := by
      intro m hm
      have hmem : x ∈ L := List.mem_of_getElem? hm
      have := List.any_eq_false.1 h.1 x hmem
      simp at this
    cases i with
    | zero =>
      simp at hi
      subst hi
      cases j with
      | zero => rfl
      | succ j => simp at hj; exact (hx j (by simpa using hj)).elim
    | succ i =>
      cases j with
      | zero =>
        simp at hj
        subst hj
        simp at hi
        exact (hx i (by simpa using hi)).elim
      | succ j =>
        simp at hi hj
        have := nodup_inj (i := i) (j := j) (k := k) h.2 (by simpa using hi) (by simpa using hj)
        omega
def tabOf (b : Tab E) (f : Nat → Option Nat) : Nat → List Nat → Tab E
  | _, [] => []
  | i, k :: L => match look b k with
    | some .gone => tabOf b f (i + 1) L
    | some x => (i, renO f x) :: tabOf b f (i + 1) L
    | none => tabOf b f (i + 1) L
theorem tabOf_look (b : Tab E) (f : Nat → Option Nat) : ∀ (L : List Nat) (i j : Nat) (y : SObj E), look (tabOf b f i L) j = some y → i ≤ j ∧ ∃ k x, L[j - i]? = some k ∧ look b k = some x ∧ y = renO f x
  | [], i, j, y, h => by simp [tabOf, look] at h
  | k :: L, i, j, y, h => by
    have rest : look (tabOf b f (i + 1) L) j = some y → i ≤ j ∧ ∃ k' x, (k :: L)[j - i]? = some k' ∧ look b k' = some x ∧ y = renO f x := by
      intro h
      obtain ⟨h1, k', x, h2, h3, h4⟩ := tabOf_look b f L (i + 1) j y h
      refine ⟨by omega, k', x, ?_, h3, h4⟩
      have : j - i = (j - (i + 1)) + 1 := by omega
      rw [this]
      simpa using h2
    unfold tabOf at h
    split at h
    · exact rest h
    · rename_i x hk hx
      rw [look_cons] at h
      by_cases e : j = i
      · rw [if_pos e] at h
        cases h
        subst e
        exact ⟨Nat.le_refl _, k, x, by simp, hx, rfl⟩
      · rw [if_neg e] at h
        exact rest h
    · exact rest h
/-- The state by fewer keys: those below K0 stay. -/
def normOf (K0 : Nat) (s : List SV) (b : Tab E) : Option (List SV × Tab E × Nat) :=
  match closeK b 4 ((keysL s).foldl addK (List.range K0)) with
  | L => bif nodupB L && (List.range K0).all (fun i => match L[i]? with | some k => Nat.beq k i | none => false) then some (renL (idxK L) s, tabOf b (idxK L) 0 L, L.length) else none
theorem renO_owning (f : Nat → Option Nat) (x : SObj E) : owning (renO f x) = owning x := by cases x <;> rfl
theorem renO_holds {S : Nat → Prop} {w0 w : World} {U U' : Nat → Prop} {μ μ' : Nat → Value} {f : Nat → Option Nat} (hf : ∀ k j, U k → f k = some j → U' j ∧ μ' j = μ k) {k j : Nat} (hj : μ' j = μ k) {x : SObj E} (h : Holds S w0 U μ w k x) : Holds S w0 U' μ' w j (renO f x) := by
  cases x with
  | box t cs =>
    obtain ⟨g, us, h1, h2, h3, h4⟩ := h
    exact ⟨g, us, by rw [hj]; exact h1, h2, renL_slots hf _ _ h3, h4⟩
  | own e l => unfold Holds at h; unfold renO; unfold Holds; rw [hj]; exact h
  | ro e l nn => unfold Holds at h; unfold renO; unfold Holds; rw [hj]; exact h
  | rob t cs =>
    obtain ⟨g, us, h1, h2, h3, h4⟩ := h
    exact ⟨g, us, by rw [hj]; exact h1, h2, renL_slots hf _ _ h3, h4⟩
  | gone => trivial
theorem normOf_ok {S : Nat → Prop} {w0 w : World} {U : Nat → Prop} {μ : Nat → Value} {K0 n : Nat} {s s' : List SV} {b b' : Tab E} {us : List Value} (h : normOf K0 s b = some (s', b', n)) (hs : Slots U μ s us) (hm : Mem S w0 U μ b w) :
    ∃ μ', (∀ k, k < K0 → μ' k = μ k) ∧ Slots (fun k => k < n) μ' s' us ∧ Mem S w0 (fun k => k < n) μ' b' w ∧ K0 ≤ n := by
  unfold normOf at h
  simp only at h
  generalize closeK b 4 ((keysL s).foldl addK (List.range K0)) = L at h
  cases hc : (nodupB L && (List.range K0).all (fun i => match L[i]? with | some k => Nat.beq k i | none => false)) with
  | false => rw [hc] at h; cases h
  | true =>
    rw [hc] at h
    simp only [cond_true, Option.some.injEq, Prod.mk.injEq] at h
    obtain ⟨rfl, rfl, rfl⟩ := h
    simp only [Bool.and_eq_true] at hc
    have hK : ∀ k, k < K0 → L[k]? = some k := by
      intro k hk
      have := List.all_eq_true.1 hc.2 k (by simpa using hk)
      split at this
      · rename_i j hj
        rw [hj, Nat.eq_of_beq_eq_true this]
      · cases this
    have hf : ∀ k j, U k → idxK L k = some j → j < L.length ∧ (fun i => match L[i]? with | some k => μ k | none => undef) j = μ k := by
      intro k j _ hkj
      have := idxK_get hkj
      exact ⟨(List.getElem?_eq_some_iff.1 this).1, by simp only [this]⟩
    refine ⟨fun i => match L[i]? with | some k => μ k | none => undef, fun k hk => by simp only [hK k hk], renL_slots hf _ _ hs, ⟨fun j y hy => ?_, fun j j' y y' g hy hy' ho ho' hb hb' => ?_, hm.kept, hm.dom⟩, ?_⟩
    · obtain ⟨_, k, x, h1, h2, rfl⟩ := tabOf_look b _ L 0 j y hy
      rw [Nat.sub_zero] at h1
      exact ⟨(List.getElem?_eq_some_iff.1 h1).1, renO_holds hf (by simp only [h1]) (hm.obj k x h2).2⟩
    · obtain ⟨_, k, x, h1, h2, rfl⟩ := tabOf_look b _ L 0 j y hy
      obtain ⟨_, k', x', h1', h2', rfl⟩ := tabOf_look b _ L 0 j' y' hy'
      rw [Nat.sub_zero] at h1 h1'
      rw [renO_owning] at ho ho'
      simp only [h1] at hb
      simp only [h1'] at hb'
      have := hm.sep k k' x x' g h2 h2' ho ho' hb hb'
      subst this
      exact nodup_inj hc.1 h1 h1'
    · by_cases h0 : K0 = 0
      · omega
      · have := (List.getElem?_eq_some_iff.1 (hK (K0 - 1) (by omega))).1
        omega
/-! ### What a called function comes to -/
/-- Called in a world of which T speaks, the function comes to res, and T' speaks of the world behind it. -/
def Does (E : Env) (g : Nat) (T : Tab E) (n : Nat) (args : List SV) (res : SV) (T' : Tab E) (n' : Nat) : Prop := ∀ (S : Nat → Prop) (w : World) (μ : Nat → Value) (vs : List Value), Mem S w (fun k => k < n) μ T w → Slots (fun k => k < n) μ args vs →
  (∃ u, (callFunc g vs.toArray).run E.P w = .ok (.value u) w ∧ rel (fun k => k < n) μ res u ∧ T' = [] ∧ n' = n) ∨
  (callFunc g vs.toArray).run E.P w = .ok (.enter g vs.toArray) w ∧ Calls E.P g vs.toArray w fun e w' => ∃ u μ', e = .returned u ∧ (∀ k, k < n → μ' k = μ k) ∧ rel (fun k => k < n') μ' res u ∧ Mem S w (fun k => k < n') μ' T' w'
/-- The arguments of a call: each slice becomes a row to be read, told by what it holds. -/
structure Abs (E : Env) where
  a : List SV
  T : Tab E
  bk : List SV
  c : List Prop
def absArgs (E : Env) (b : Tab E) : List SV → List TypeId → Nat → Option (Abs E)
  | [], _, _ => some ⟨[], [], [], []⟩
  | s :: ss, t :: ts, j => match E.P.underlying t with
    | some (.slice e) => match viewOf b e s, absArgs E b ss ts (j + 1) with
      | some V, some A => some ⟨.o j :: A.a, (j, .ro V.e V.l false) :: A.T, s :: A.bk, V.c ++ A.c⟩
      | _, _ => none
    | _ => match s, absArgs E b ss ts j with
      | .v x, some A => some ⟨.v x :: A.a, A.T, A.bk, A.c⟩
      | _, _ => none
  | _, _, _ => none
/-- The keys of what a call makes. -/
def freshK (n key : Nat) (k : Nat) : Option Nat := bif Nat.ble n k then some (key + (k - n)) else none
def resMap (n key : Nat) (bk : List SV) : SV → SV
  | .o j => bif Nat.ble n j then .o (key + (j - n)) else bk.getD j .na
  | s => renV (freshK n key) s
def freshT (n key : Nat) : Tab E → Tab E
  | [] => []
  | (k, x) :: r => bif Nat.ble n k then (key + (k - n), (match x with | .ro _ _ _ => .gone | .rob _ _ => .gone | x => renO (freshK n key) x)) :: freshT n key r else freshT n key r
def resMap1 (n key : Nat) (bk : List SV) : SV → SV
  | .t cs => .t (cs.map (resMap n key bk))
  | s => resMap n key bk s
def contract (E : Env) (g : Nat) (args : List SV) (ats : List TypeId) (b : Tab E) (key : Nat) (res : SV) (T' : Tab E) (n' : Nat) (d : List (Dec E)) : Option (Res E) := match absArgs E b args ats 0 with
  | some A => match A.bk.length with
    | n => bif Nat.ble n n' then some ⟨resMap1 n key A.bk res, freshT n key T', key + (n' - n), A.c ++ [Does E g A.T n A.a res T' n'], d⟩ else none
  | none => none
theorem absArgs_congr {b b' : Tab E} : ∀ {l : List SV} {ats : List TypeId} {j : Nat}, (∀ k ∈ l.flatMap keyS, look b k = look b' k) → absArgs E b l ats j = absArgs E b' l ats j
  | [], ats, j, _ => by cases ats <;> rfl
  | s :: ss, [], j, _ => rfl
  | s :: ss, t :: ts, j, h => by
    have h1 : ∀ k ∈ keyS s, look b k = look b' k := fun k hk => h k (by simp [hk])
    have h2 : ∀ k ∈ ss.flatMap keyS, look b k = look b' k := fun k hk => h k (by
      rw [List.flatMap_cons]
      exact List.mem_append.2 (.inr hk))
    unfold absArgs
    rw [absArgs_congr (j := j) h2, absArgs_congr (j := j + 1) h2]
    split
    · rw [viewOf_congr h1]
    · rfl
theorem contract_congr {b b' : Tab E} {g : Nat} {l : List SV} {ats : List TypeId} {key : Nat} {res : SV} {T : Tab E} {n : Nat} {d : List (Dec E)} (h : ∀ k ∈ l.flatMap keyS, look b k = look b' k) :
    contract E g l ats b key res T n d = contract E g l ats b' key res T n d := by
  unfold contract
  rw [absArgs_congr h]
section
variable {S : Nat → Prop} {w0 w : World} {U : Nat → Prop} {μ : Nat → Value} {b : Tab E}
theorem abs_ok (hm : Mem S w0 U μ b w) : ∀ {args : List SV} {ats : List TypeId} {j : Nat} {A : Abs E} {vs : List Value}, absArgs E b args ats j = some A → Conj A.c → Slots U μ args vs →
    ∃ us : List Value, Slots U μ A.bk us ∧ ∀ (μc : Nat → Value) (N : Nat), j + A.bk.length ≤ N → (∀ i u, us[i]? = some u → μc (j + i) = u) →
      Slots (fun k => k < N) μc A.a vs ∧ (∀ k x, look A.T k = some x → j ≤ k ∧ k < N ∧ ∃ e l, x = .ro e l false ∧ Ro (fun g => g < w.heap.size) w (μc k) (E.fm e).sz l.length (cellsF (E.fm e) l) false)
  | [], ats, j, A, vs, h, hc, hs => by
    simp only [absArgs, Option.some.injEq] at h
    subst h
    rw [hs.nilr]
    exact ⟨[], slots_nil, fun μc N _ _ => ⟨slots_nil, fun k x h => by simp [look] at h⟩⟩
  | s :: ss, [], j, A, vs, h, hc, hs => by simp [absArgs] at h
  | s :: ss, t :: ts, j, A, vs, h, hc, hs => by
    obtain ⟨u, r, rfl, hs1, hs2⟩ := hs.consr
    unfold absArgs at h
    split at h
    · rename_i e ht
      split at h
      · rename_i V A' hv hA
        simp only [Option.some.injEq] at h
        subst h
        have h1 := Conj.app hc
        obtain ⟨us, hu1, hu2⟩ := abs_ok hm hA h1.2 hs2
        refine ⟨u :: us, slots_cons.2 ⟨hs1, hu1⟩, fun μc N hN hμ => ?_⟩
        simp only [List.length_cons] at hN
        obtain ⟨g1, g2⟩ := hu2 μc N (by omega) (fun i u' hi => by
          have := hμ (i + 1) u' (by simpa using hi)
          rw [← this]
          congr 1
          omega)
        have hμ0 := hμ 0 u rfl
        rw [Nat.add_zero] at hμ0
        have hview := view_reads hm hs1 hv h1.1
        refine ⟨slots_cons.2 ⟨?_, g1⟩, fun k x hk => ?_⟩
        · unfold rel
          refine ⟨by omega, hμ0.symm, ?_⟩
          rw [hμ0]
          rcases hview with ⟨r1, _⟩ | ⟨_, ad, cc, r1⟩ | ⟨g, o, cap, r1, _⟩ <;> exact ⟨_, _, _, r1⟩
        · rw [look_cons] at hk
          by_cases hkj : k = j
          · rw [if_pos hkj] at hk
            cases hk
            subst hkj
            refine ⟨Nat.le_refl _, by omega, V.e, V.l, rfl, ?_⟩
            rw [hμ0]
            refine ⟨by rw [cellsF_length], ?_⟩
            rcases hview with ⟨r1, r2⟩ | ⟨r2, ad, cc, r1⟩ | ⟨g, o, cap, r1, r2, r3, r4⟩
            · exact .inl ⟨r1, by rw [r2]; rfl, rfl⟩
            · exact .inr (.inl ⟨by rw [r2]; rfl, ad, cc, r1⟩)
            · exact .inr (.inr ⟨g, o, cap, r1, r2, r3, r4⟩)
          · rw [if_neg hkj] at hk
            obtain ⟨a1, a2, a3⟩ := g2 k x hk
            exact ⟨by omega, a2, a3⟩
      · cases h
    · split at h
      · rename_i x A' hA
        simp only [Option.some.injEq] at h
        subst h
        obtain ⟨us, hu1, hu2⟩ := abs_ok hm hA hc hs2
        refine ⟨us, hu1, fun μc N hN hμ => ?_⟩
        obtain ⟨g1, g2⟩ := hu2 μc N hN hμ
        exact ⟨slots_cons.2 ⟨rel_v.2 (rel_v.1 hs1), g1⟩, g2⟩
      · cases h
theorem map_slots {U U' : Nat → Prop} {μ μ' : Nat → Value} {m : SV → SV} (h : ∀ s u, rel U μ s u → rel U' μ' (m s) u) : ∀ {ss : List SV} {us : List Value}, Slots U μ ss us → Slots U' μ' (ss.map m) us
  | [], us, hs => by rw [hs.nilr]; exact slots_nil
  | s :: ss, us, hs => by
    obtain ⟨u, r, rfl, h1, h2⟩ := hs.consr
    exact slots_cons.2 ⟨h s u h1, map_slots h h2⟩
/-- Old values, and those that a call made. -/
def glueM (μ μc : Nat → Value) (key m N : Nat) : Nat → Value := fun k => if key ≤ k ∧ k < key + N then μc (m + (k - key)) else μ k
theorem glue_old {μ μc : Nat → Value} {key m N k : Nat} (h : ¬ (key ≤ k ∧ k < key + N)) : glueM μ μc key m N k = μ k := if_neg h
theorem glue_new {μ μc : Nat → Value} {key m N j : Nat} (h1 : m ≤ j) (h2 : j - m < N) : glueM μ μc key m N (key + (j - m)) = μc j := by
  unfold glueM
  rw [if_pos (by omega)]
  congr 1
  omega
theorem freshT_look (n key : Nat) : ∀ (T : Tab E) (k : Nat) (y : SObj E), look (freshT n key T) k = some y → ∃ j x, n ≤ j ∧ k = key + (j - n) ∧ look T j = some x ∧ y = (match x with | .ro _ _ _ => .gone | .rob _ _ => .gone | x => renO (freshK n key) x)
  | [], k, y, h => by simp [freshT, look] at h
  | (j, x) :: T, k, y, h => by
    unfold freshT at h
    have rest : look (freshT n key T) k = some y → (¬ (n ≤ j ∧ k = key + (j - n))) → ∃ j' x', n ≤ j' ∧ k = key + (j' - n) ∧ look ((j, x) :: T) j' = some x' ∧ y = (match x' with | .ro _ _ _ => .gone | .rob _ _ => .gone | x => renO (freshK n key) x) := by
      intro h hn
      obtain ⟨j', x', h1, h2, h3, h4⟩ := freshT_look n key T k y h
      refine ⟨j', x', h1, h2, ?_, h4⟩
      rw [look_cons]
      by_cases e : j' = j
      · subst e; exact (hn ⟨h1, h2⟩).elim
      · rw [if_neg e]; exact h3
    cases hb : Nat.ble n j with
    | true =>
      have hle := Nat.le_of_ble_eq_true hb
      simp only [hb, cond_true] at h
      rw [look_cons] at h
      by_cases e : k = key + (j - n)
      · rw [if_pos e] at h
        simp only [Option.some.injEq] at h
        exact ⟨j, x, hle, e, by rw [look_cons, if_pos rfl], h.symm⟩
      · rw [if_neg e] at h
        exact rest h (fun hh => e hh.2)
    | false =>
      simp only [hb, cond_false] at h
      refine rest h (fun hh => ?_)
      have := Nat.ble_eq_true_of_le hh.1
      rw [hb] at this
      cases this
theorem contract_ok {g : Nat} {args : List SV} {ats : List TypeId} {key n' : Nat} {res : SV} {T' : Tab E} {d : List (Dec E)} {R : Res E} (h : contract E g args ats b key res T' n' d = some R) (hc : Conj R.c) (hf : Free U key R.n) (hm : Mem S w0 U μ b w) {vs : List Value} (hs : Slots U μ args vs) :
    (∃ u μ', (callFunc g vs.toArray).run E.P w = .ok (.value u) w ∧ (∀ k, U k → μ' k = μ k) ∧ rel (Up U key R.n) μ' R.v u ∧ Mem S w0 (Up U key R.n) μ' (R.u ++ b) w) ∨
    (callFunc g vs.toArray).run E.P w = .ok (.enter g vs.toArray) w ∧ Calls E.P g vs.toArray w fun e w' => ∃ u μ', e = .returned u ∧ (∀ k, U k → μ' k = μ k) ∧ rel (Up U key R.n) μ' R.v u ∧ Mem S w0 (Up U key R.n) μ' (R.u ++ b) w' := by
  unfold contract at h
  split at h
  · rename_i A hA
    simp only at h
    cases hb : Nat.ble A.bk.length n' with
    | false => simp [hb] at h
    | true =>
      simp only [hb, cond_true, Option.some.injEq] at h
      subst h
      have hle := Nat.le_of_ble_eq_true hb
      have h1 := Conj.app hc
      have hdo : Does E g A.T A.bk.length A.a res T' n' := h1.2
      obtain ⟨us, hu1, hu2⟩ := abs_ok hm hA h1.1 hs
      have hlu := hu1.length
      obtain ⟨g1, g2⟩ := hu2 (fun i => us.getD i undef) A.bk.length (by omega) (fun i u hi => by simp [List.getD, hi])
      simp only at hf
      -- the objects that the called function sees
      have hMc : Mem (fun g => g < w.heap.size) w (fun k => k < A.bk.length) (fun i => us.getD i undef) A.T w := by
        refine ⟨fun k x hk => ?_, fun k k' x x' g hk hk' ho _ _ _ => ?_, Kept.refl _ _, fun g hg => hg, hm.dom.2.kept hm.dom.1 hm.kept⟩
        · obtain ⟨_, a2, e, l, rfl, a3⟩ := g2 k x hk
          exact ⟨a2, a3⟩
        · obtain ⟨_, _, e, l, rfl, _⟩ := g2 k x hk
          cases ho
      -- the values that come back
      have back : ∀ (μc : Nat → Value), (∀ k, k < A.bk.length → μc k = us.getD k undef) → ∀ (μ' : Nat → Value), (∀ k, U k → μ' k = μ k) → (∀ k, A.bk.length ≤ k → k < n' → μ' (key + (k - A.bk.length)) = μc k) →
          (∀ s u, rel (fun k => k < n') μc s u → rel (Up U key (key + (n' - A.bk.length))) μ' (resMap A.bk.length key A.bk s) u) := by
        intro μc hμc μ' hμ' hfr s u hr
        have gen : ∀ k j, k < n' → freshK A.bk.length key k = some j → Up U key (key + (n' - A.bk.length)) j ∧ μ' j = μc k := by
          intro k j hk hj
          unfold freshK at hj
          cases hn : Nat.ble A.bk.length k with
          | false => simp [hn] at hj
          | true =>
            simp only [hn, cond_true, Option.some.injEq] at hj
            have := Nat.le_of_ble_eq_true hn
            subst hj
            exact ⟨.inr ⟨by omega, by omega⟩, hfr k this hk⟩
        have plain := renV_rel gen s u hr
        cases s with
        | o j =>
          cases hn : Nat.ble A.bk.length j with
          | true =>
            simp only [resMap, hn, cond_true]
            unfold renV at plain
            have e1 : freshK A.bk.length key j = some (key + (j - A.bk.length)) := by unfold freshK; rw [hn]; rfl
            rw [e1] at plain
            exact plain
          | false =>
            simp only [resMap, hn, cond_false]
            have hj : j < A.bk.length := by
              by_cases hjl : j < A.bk.length
              · exact hjl
              · have := Nat.ble_eq_true_of_le (Nat.le_of_not_lt hjl)
                rw [hn] at this
                cases this
            unfold rel at hr
            obtain ⟨sv, hsv⟩ : ∃ sv, A.bk[j]? = some sv := ⟨A.bk[j], by simp [hj]⟩
            obtain ⟨uu, k1, k2⟩ := hu1.get j sv hsv
            have e2 : A.bk.getD j .na = sv := by simp [List.getD, hsv]
            have e3 : u = uu := by
              rw [hr.2.1, hμc j hj]
              simp [List.getD, k1]
            rw [e2, e3]
            exact rel_mono (fun k hk => .inl hk) hμ' _ _ k2
        | _ => exact plain
      have back1 : ∀ (μc : Nat → Value), (∀ k, k < A.bk.length → μc k = us.getD k undef) → ∀ (μ' : Nat → Value), (∀ k, U k → μ' k = μ k) → (∀ k, A.bk.length ≤ k → k < n' → μ' (key + (k - A.bk.length)) = μc k) →
          (∀ u, rel (fun k => k < n') μc res u → rel (Up U key (key + (n' - A.bk.length))) μ' (resMap1 A.bk.length key A.bk res) u) := by
        intro μc hμc μ' hμ' hfr u hr
        have hb1 := back μc hμc μ' hμ' hfr
        cases res with
        | t cs =>
          unfold resMap1
          unfold rel at hr ⊢
          obtain ⟨us', e1, e2⟩ := hr
          exact ⟨us', e1, map_slots hb1 e2⟩
        | _ => exact hb1 _ u hr
      rcases hdo _ w _ vs hMc g1 with ⟨u, r1, r2, r3, r4⟩ | ⟨r1, r2⟩
      · left
        refine ⟨u, μ, r1, fun _ _ => rfl, ?_, ?_⟩
        · have := back1 (fun i => us.getD i undef) (fun _ _ => rfl) μ (fun _ _ => rfl) (fun k h1 h2 => by omega) u (by rw [r4]; exact r2)
          exact this
        · rw [r3]
          simp only [freshT, List.nil_append]
          exact hm.mono (fun k hk => .inl hk) (fun _ _ => rfl)
      · right
        refine ⟨r1, r2.mono fun e w' hh => ?_⟩
        obtain ⟨u, μc, rfl, q1, q2, q3⟩ := hh
        have hgr : w.grownBy w' none := ⟨q3.kept.os, q3.kept.tape, q3.kept.output, q3.kept.size, fun k hk _ => q3.kept.block k hk⟩
        have hfresh : ∀ k, U k → ¬ (key ≤ k ∧ k < key + (n' - A.bk.length)) := fun k hk hh => hf k hh.1 hh.2 hk
        refine ⟨u, glueM μ μc key A.bk.length (n' - A.bk.length), rfl, fun k hk => glue_old (hfresh k hk), ?_, ?_⟩
        · exact back1 μc q1 _ (fun k hk => glue_old (hfresh k hk)) (fun k h1 h2 => glue_new h1 (by omega)) u q2
        · have gen : ∀ k j, k < n' → freshK A.bk.length key k = some j → Up U key (key + (n' - A.bk.length)) j ∧ (glueM μ μc key A.bk.length (n' - A.bk.length)) j = μc k := by
            intro k j hk hj
            unfold freshK at hj
            cases hn : Nat.ble A.bk.length k with
            | false => simp [hn] at hj
            | true =>
              simp only [hn, cond_true, Option.some.injEq] at hj
              have := Nat.le_of_ble_eq_true hn
              subst hj
              exact ⟨.inr ⟨by omega, by omega⟩, glue_new this (by omega)⟩
          have newO : ∀ k y, look (freshT A.bk.length key T') k = some y → ∃ j x, A.bk.length ≤ j ∧ j < n' ∧ k = key + (j - A.bk.length) ∧ look T' j = some x ∧ (y = .gone ∨ y = renO (freshK A.bk.length key) x ∧ owning y = owning x ∧ (∀ e l nn, x ≠ .ro e l nn) ∧ (∀ t cs, x ≠ .rob t cs)) := by
            intro k y hy
            obtain ⟨j, x, h1, h2, h3, h4⟩ := freshT_look _ _ T' k y hy
            refine ⟨j, x, h1, (q3.obj j x h3).1, h2, h3, ?_⟩
            cases x with
            | ro e l nn => left; exact h4
            | rob t cs => left; exact h4
            | box t cs => right; exact ⟨h4, by rw [h4, renO_owning], by intros; simp, by intros; simp⟩
            | own e l => right; exact ⟨h4, by rw [h4, renO_owning], by intros; simp, by intros; simp⟩
            | gone => left; exact h4
          have isS : ∀ g, S g → g < w.heap.size := fun g hg => Nat.lt_of_lt_of_le (hm.dom.1 g hg) hm.kept.size
          refine ⟨fun k y hy => ?_, fun k k' y y' g hy hy' ho ho' hbk hbk' => ?_, (hm.world hgr).kept, hm.dom⟩
          · rw [look_app] at hy
            cases hl : look (freshT A.bk.length key T') k with
            | some y' =>
              rw [hl] at hy
              cases hy
              obtain ⟨j, x, j1, j2, rfl, j3, j4⟩ := newO k y hl
              refine ⟨.inr ⟨by omega, (by show key + (j - A.bk.length) < key + (n' - A.bk.length); omega)⟩, ?_⟩
              rcases j4 with rfl | ⟨rfl, j5, j6, j7⟩
              · trivial
              · have hh := renO_holds (f := freshK A.bk.length key) gen (k := j) (j := key + (j - A.bk.length)) (gen j _ j2 (by unfold freshK; rw [Nat.ble_eq_true_of_le j1]; rfl)).2 (q3.obj j x j3).2
                cases x with
                | box t cs =>
                  obtain ⟨g, us', m1, m2, m3, m4⟩ := hh
                  exact ⟨g, us', m1, fun hS => m2 (isS g hS), m3, m4⟩
                | own e l => exact ⟨hh.1, fun g hg hS => hh.2 g hg (isS g hS)⟩
                | ro e l nn => exact (j6 e l nn rfl).elim
                | rob t cs => exact (j7 t cs rfl).elim
                | gone => trivial
            | none =>
              rw [hl] at hy
              have h0 := hm.obj k y hy
              refine ⟨.inl h0.1, ?_⟩
              exact ((h0.2.world hgr (fun _ => .inl rfl)).mono h0.1 (fun k hk => .inl hk) (fun k hk => glue_old (hfresh k hk)))
          · have blkNew : ∀ j x, look T' j = some x → owning x = true → A.bk.length ≤ j → j < n' → blk ((glueM μ μc key A.bk.length (n' - A.bk.length)) (key + (j - A.bk.length))) = some g → blk (μc j) = some g ∧ w.heap.size ≤ g := by
              intro j x hj hox h1 h2 hbb
              rw [(gen j _ h2 (by unfold freshK; rw [Nat.ble_eq_true_of_le h1]; rfl)).2] at hbb
              have := ((q3.obj j x hj).2.lt hox hbb).2
              exact ⟨hbb, by omega⟩
            rw [look_app] at hy hy'
            cases hl : look (freshT A.bk.length key T') k with
            | some z =>
              rw [hl] at hy
              cases hy
              obtain ⟨j, x, j1, j2, rfl, j3, j4⟩ := newO k y hl
              rcases j4 with rfl | ⟨rfl, j5, _, _⟩
              · cases ho
              · rw [j5] at ho
                have n1 := blkNew j x j3 ho j1 j2 hbk
                cases hl' : look (freshT A.bk.length key T') k' with
                | some z' =>
                  rw [hl'] at hy'
                  cases hy'
                  obtain ⟨j', x', j1', j2', rfl, j3', j4'⟩ := newO k' y' hl'
                  rcases j4' with rfl | ⟨rfl, j5', _, _⟩
                  · cases ho'
                  · rw [j5'] at ho'
                    have n2 := blkNew j' x' j3' ho' j1' j2' hbk'
                    have := q3.sep j j' x x' g j3 j3' ho ho' n1.1 n2.1
                    subst this
                    rfl
                | none =>
                  rw [hl'] at hy'
                  have h0 := hm.obj k' y' hy'
                  rw [glue_old (hfresh k' h0.1)] at hbk'
                  have := (h0.2.lt ho' hbk').1
                  omega
            | none =>
              rw [hl] at hy
              have h0 := hm.obj k y hy
              rw [glue_old (hfresh k h0.1)] at hbk
              cases hl' : look (freshT A.bk.length key T') k' with
              | some z' =>
                rw [hl'] at hy'
                cases hy'
                obtain ⟨j', x', j1', j2', rfl, j3', j4'⟩ := newO k' y' hl'
                rcases j4' with rfl | ⟨rfl, j5', _, _⟩
                · cases ho'
                · rw [j5'] at ho'
                  have n2 := blkNew j' x' j3' ho' j1' j2' hbk'
                  have := (h0.2.lt ho hbk).1
                  omega
              | none =>
                rw [hl'] at hy'
                have h0' := hm.obj k' y' hy'
                rw [glue_old (hfresh k' h0'.1)] at hbk'
                exact hm.sep k k' y y' g hy hy' ho ho' hbk hbk'
  · cases h
end
end
end
end Go.Proofs.YtcneenlcbjicnaaDoorSx
