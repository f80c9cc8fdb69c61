/- The symbolic machine whole: tables of calls, functions, pieces of a body, formats of rows. -/
import Derived.Test.YtcneenlcbjicnaaDoorSxk
set_option linter.unusedVariables false
set_option linter.unusedSimpArgs false
namespace Go.Proofs.YtcneenlcbjicnaaDoorSx
open Go.RowKit Go.Proofs.YtcneenlcbjicnaaDoorW.PrintLast Go.Proofs.YtcneenlcbjicnaaDoorW.PrintWords
noncomputable section
/-! ### Formats -/
def intF (k : IntKind) (c : Bool) (hc : c = true → k = .u8) : Fmt where
  α := Int
  d := 0
  sz := 1
  enc z := [.int k z]
  dec
    | [.int k' z] => bif decide (k' = k) then some z else none
    | _ => none
  str := bif c then some (fun s => s.data.toList.map fun b => (b.toNat : Int)) else none
  toS := bif c then some (fun l => l.foldl (fun r n => r.push (UInt8.ofNat n.toNat)) ByteArray.empty) else none
  pos := Nat.one_pos
  len _ := rfl
  inv vs a h := by
    split at h
    · rename_i k' z
      cases hk : decide (k' = k) with
      | false => simp [hk] at h
      | true =>
        simp only [hk, cond_true, Option.some.injEq] at h
        subst h
        rw [of_decide_eq_true hk]
    · cases h
  one a v hv := by
    simp only [List.mem_singleton] at hv
    rw [hv]
    rfl
  strOk f h := by
    cases c with
    | false => cases h
    | true =>
      have e := hc rfl
      subst e
      simp only [cond_true, Option.some.injEq] at h
      subst h
      refine ⟨rfl, fun s => ⟨?_, ?_⟩⟩
      · simp only [byteCells]
        induction s.data.toList with
        | nil => rfl
        | cons b l ih => simp only [List.map_cons, List.flatMap_cons, ih]; rfl
      · rw [List.length_map, Array.length_toList]
        rfl
  toSOk f h := by
    cases c with
    | false => cases h
    | true =>
      have e := hc rfl
      subst e
      simp only [cond_true, Option.some.injEq] at h
      subst h
      refine ⟨rfl, fun l => ⟨l, ?_, rfl⟩⟩
      induction l with
      | nil => rfl
      | cons b l ih => simp only [List.map_cons, List.flatMap_cons, ih]; rfl
def strF : Fmt where
  α := ByteArray
  d := ByteArray.empty
  sz := 1
  enc z := [.string z]
  dec
    | [.string z] => some z
    | _ => none
  str := none
  toS := none
  pos := Nat.one_pos
  len _ := rfl
  inv vs a h := by
    split at h
    · simp only [Option.some.injEq] at h
      rw [h]
    · cases h
  one a v hv := by
    simp only [List.mem_singleton] at hv
    rw [hv]
    rfl
  strOk f h := by cases h
  toSOk f h := by cases h
def u8F : Fmt := intF .u8 true (fun _ => rfl)
def numF (k : IntKind) : Fmt := intF k false (fun h => by cases h)
/-- Whole numbers, bytes, strings, as the type says. -/
def fmOf (P : Program) (e : TypeId) : Fmt := match P.underlying e with
  | some (.int .u8) => u8F
  | some (.int k) => numF k
  | some .string => strF
  | _ => numF .i64
def envOf (P : Program) : Env := ⟨P, fmOf P, fun _ => .no⟩
/-! ### Tables -/
def argsS (l : List SV) (n : Nat) : List SV := l ++ List.replicate (n - l.length) .na
section
variable {E : Env}
def bodyOf (E : Env) (ct : Table E) (fuel : Nat) (fn : Func) (args : List SV) (b : Tab E) (key : Nat) (d : List (Dec E)) : Option (Res E) := match fn.body with
  | none => none
  | some c => match runC E ct fuel ⟨[.code c], .normal, ⟨argsS args fn.ntmps, [], b, [], d, key⟩⟩ with
    | some ⟨[], .ret, σ⟩ => match resultOf E fn σ with
      | some v => some ⟨v, σ.u, σ.n, σ.c, σ.d⟩
      | none => none
    | some ⟨[], .normal, σ⟩ => match resultOf E fn σ with
      | some v => some ⟨v, σ.u, σ.n, σ.c, σ.d⟩
      | none => none
    | _ => none
def NeedC (g : Nat) : Prop := False
def NeedE (g : Nat) : Prop := False
/-- Calls: told by the script ('.c'), or entered ('.e'), so deep at the most. 'df': what a function not told comes to, for trying. -/
def callT (E : Env) (fuel : Nat) (df : Nat → Option (SV × Tab E × Nat)) : Nat → Table E
  | 0 => ⟨fun g l ats b key d => match d with
    | .c res T n :: r => contract E g l ats b key res T n r
    | _ => none, fun _ => false⟩
  | m + 1 => ⟨fun g l ats b key d => match d with
    | .c res T n :: r => contract E g l ats b key res T n r
    | .e :: r => match E.P.funcs[g]? with
      | some fn => bif fn.name == "runtime.NumGoroutine" then none else bodyOf E (callT E fuel df m) fuel fn l b key r
      | none => none
    | [] => match df g with
      | some (v, T, n) => match absArgs E b l ats 0 with
        | some A => some ⟨resMap1 A.bk.length key A.bk v, freshT A.bk.length key T, key + (n - A.bk.length), A.c ++ [NeedC g], []⟩
        | none => none
      | none => match E.P.funcs[g]? with
        | some fn => match bodyOf E (callT E fuel df m) fuel fn l b key [] with
          | some R => some ⟨R.v, R.u, R.n, NeedE g :: R.c, R.d⟩
          | none => none
        | none => none
    | _ => none, fun g => (df g).isSome⟩
theorem callT_tells (fuel : Nat) (df : Nat → Option (SV × Tab E × Nat)) : ∀ (m : Nat), TellsOk E (callT E fuel df m)
  | 0 => by
    intro g l ats b b' key d ht h
    unfold told at ht
    split at ht
    · exact contract_congr h
    · simp [callT] at ht
    · cases ht
  | m + 1 => by
    intro g l ats b b' key d ht h
    unfold told at ht
    split at ht
    · exact contract_congr h
    · simp only [callT] at ht ⊢
      cases hd : df g with
      | none => simp [hd] at ht
      | some p =>
        obtain ⟨v, T, n⟩ := p
        simp only
        rw [absArgs_congr h]
    · cases ht
theorem args_slots {U : Nat → Prop} {μ : Nat → Value} {l : List SV} {vs : List Value} (h : Slots U μ l vs) (n : Nat) : Slots U μ (argsS l n) (vs.toArray ++ Array.replicate (n - vs.toArray.size) undef).toList := by
  have h1 := slots_x U μ (List.replicate (n - l.length) undef)
  rw [List.length_replicate] at h1
  have := h.append h1
  simpa [argsS, h.length] using this
theorem body_ok {ct : Table E} (hct : TableOk E ct) (hmx : E.P.follows .mixedOrders = true) {fuel : Nat} {g : Nat} {fn : Func} (hf : E.P.funcs[g]? = some fn) (hnm : (fn.name == "runtime.NumGoroutine") = false) {args : List SV} {b : Tab E} {key : Nat} {d : List (Dec E)} {R : Res E}
    (h : bodyOf E ct fuel fn args b key d = some R) (hc : Conj R.c) {S : Nat → Prop} {w0 w : World} {U : Nat → Prop} {μ : Nat → Value} {vs : List Value} (hfr : Free U key R.n) (hm : Mem S w0 U μ b w) (hs : Slots U μ args vs) :
    (callFunc g vs.toArray).run E.P w = .ok (.enter g vs.toArray) w ∧ Calls E.P g vs.toArray w fun e w' => ∃ u μ', e = .returned u ∧ (∀ k, U k → μ' k = μ k) ∧ rel (Up U key R.n) μ' R.v u ∧ Mem S w0 (Up U key R.n) μ' (R.u ++ b) w' := by
  unfold bodyOf at h
  cases hb : fn.body with
  | none => simp [hb] at h
  | some c =>
    simp only [hb] at h
    have h1 : fn.name ≠ "runtime.NumGoroutine" := by simpa using hnm
    refine ⟨by simp [callFunc, hf, h1, hb, program, Sem.run], ?_⟩
    have hu : ∀ k, Up U key key k ↔ U k := fun k => ⟨upU_self U key k, fun hk => .inl hk⟩
    have fin : ∀ (y : Cfg E) (v : SV), runC E ct fuel ⟨[.code c], .normal, ⟨argsS args fn.ntmps, [], b, [], d, key⟩⟩ = some y → y.k = [] → (y.e = .normal ∨ y.e = .ret) → resultOf E fn y.σ = some v → R = ⟨v, y.σ.u, y.σ.n, y.σ.c, y.σ.d⟩ → y.σ.b = b →
        Calls E.P g vs.toArray w fun e w' => ∃ u μ', e = .returned u ∧ (∀ k, U k → μ' k = μ k) ∧ rel (Up U key R.n) μ' R.v u ∧ Mem S w0 (Up U key R.n) μ' (R.u ++ b) w' := by
      intro y v hr hk he hv hR hyb
      subst hR
      refine calls_of_wp hf hb ?_
      refine run_sound (S := S) (w0 := w0) (B := U) (n0 := key) (μ := μ) hct hmx (x := ⟨[.code c], .normal, ⟨argsS args fn.ntmps, [], b, [], d, key⟩⟩) hr ⟨rfl, ?_, ?_, Nat.le_refl _⟩ hfr hc (fun μ' a' w' hμ hS => ?_)
      · exact slots_mono (fun k hk => .inl hk) (fun _ _ => rfl) _ _ (args_slots hs fn.ntmps)
      · exact hm.up key
      · obtain ⟨u, r1, r2⟩ := resultOf_run hS hv
        rw [hk]
        have hm' := hS.m
        rw [hyb] at hm'
        rcases he with he | he <;> rw [he] <;> exact ⟨hS.d, u, r1, u, μ', rfl, fun k hk => hμ k (.inl hk), r2, hm'⟩
    have keepB : ∀ (n : Nat) (x y : Cfg E), runC E ct n x = some y → y.σ.b = x.σ.b := by
      have ops : ∀ (ops : Array Oper) (l : List Oper) (σ τ : St E), runOps E ct ops l σ = some τ → τ.b = σ.b := by
        intro ops l
        induction l with
        | nil => intro σ τ h; simp only [runOps, Option.some.injEq] at h; rw [h]
        | cons o l ih =>
          intro σ τ h
          unfold runOps at h
          split at h
          · rename_i R he
            cases hn : Nat.ble σ.n R.n with
            | false => simp [hn] at h
            | true =>
              simp only [hn, cond_true] at h
              have h' := ih _ _ h
              exact h'
          · cases h
      have efs : ∀ (ops : Array Oper) (W n : Nat) (l : List Oper) (i : Nat) (σ τ : St E) (L : List (Ef E)), efsOf E ct ops W n l i σ = some (L, τ) → τ.b = σ.b := by
        intro ops W n l
        induction l with
        | nil => intro i σ τ L h; simp only [efsOf, Option.some.injEq, Prod.mk.injEq] at h; rw [h.2]
        | cons o l ih =>
          intro i σ τ L h
          unfold efsOf at h
          split at h
          · rename_i R he
            cases hb : Nat.ble R.n (keyAt W n i + W) with
            | false => simp [hb] at h
            | true =>
              simp only [hb, cond_true] at h
              split at h
              · rename_i L' τ' h'
                simp only [Option.some.injEq, Prod.mk.injEq] at h
                obtain ⟨_, rfl⟩ := h
                have h'' := ih _ _ _ _ h'
                exact h''
              · cases h
          · cases h
      have drawn : ∀ (ops : Array Oper) (σ τ : St E), runDrawn E ct ops σ = some τ → τ.b = σ.b := by
        intro ops σ τ h
        obtain ⟨hw, W, h⟩ := drawn_width h
        obtain ⟨L, τ', he, hok, rfl⟩ := drawnW_some h
        have h' := efs _ _ _ _ _ _ _ _ he
        exact h'
      have code : ∀ (k : List It) (σ : St E) (c : Code) (c' : Cfg E), moveCode E ct k σ c = .go c' → c'.σ.b = σ.b := by
        intro k σ c c' h
        cases c with
        | region id o dr =>
          cases dr with
          | true =>
            simp only [moveCode] at h
            cases hr : runDrawn E ct o σ with
            | none => simp [hr] at h
            | some τ =>
              simp only [hr, Mv.go.injEq] at h
              subst h
              exact drawn _ _ _ hr
          | false =>
            simp only [moveCode] at h
            cases hr : runOps E ct o o.toList σ with
            | none => simp [hr] at h
            | some τ =>
              simp only [hr, Mv.go.injEq] at h
              subst h
              exact ops _ _ _ _ hr
        | cond x y z =>
          simp only [moveCode] at h
          split at h
          · simp only [Mv.go.injEq] at h; subst h; rfl
          · simp only [Mv.go.injEq] at h; subst h; rfl
          · cases h
        | skip => simp only [moveCode, Mv.go.injEq] at h; subst h; rfl
        | label l => simp only [moveCode, Mv.go.injEq] at h; subst h; rfl
        | seq x y => simp only [moveCode, Mv.go.injEq] at h; subst h; rfl
        | block id x => simp only [moveCode, Mv.go.injEq] at h; subst h; rfl
        | exit id => simp only [moveCode, Mv.go.injEq] at h; subst h; rfl
        | goto l => simp only [moveCode, Mv.go.injEq] at h; subst h; rfl
        | ret => simp only [moveCode, Mv.go.injEq] at h; subst h; rfl
        | loop x =>
          simp only [moveCode] at h
          split at h
          · simp only [Mv.go.injEq] at h; subst h; rfl
          · cases h
        | scope x =>
          simp only [moveCode] at h
          split at h
          · simp only [Mv.go.injEq] at h; subst h; rfl
          · cases h
        | _ => simp [moveCode] at h
      have move : ∀ (c c' : Cfg E), moveC E ct c = .go c' → c'.σ.b = c.σ.b := by
        intro c c' h
        obtain ⟨k, e, σ⟩ := c
        cases k with
        | nil => simp [moveC] at h
        | cons x k =>
          cases x with
          | code c =>
            cases e with
            | normal => exact code _ _ _ _ h
            | _ => simp only [moveC, Mv.go.injEq] at h; subst h; rfl
          | blk id =>
            cases e with
            | exit j =>
              simp only [moveC] at h
              cases hj : Nat.beq j id <;> simp only [hj, cond_true, cond_false, Mv.go.injEq] at h <;> subst h <;> rfl
            | _ => simp only [moveC, Mv.go.injEq] at h; subst h; rfl
          | rd c n =>
            cases e with
            | normal =>
              simp only [moveC] at h
              split at h
              · split at h
                · simp only [Mv.go.injEq] at h; subst h; rfl
                · cases h
              · cases h
            | _ => simp only [moveC, Mv.go.injEq] at h; subst h; rfl
          | sc c n =>
            cases e with
            | goto l =>
              simp only [moveC] at h
              split at h
              · simp only [Mv.go.injEq] at h; subst h; rfl
              · cases h
            | _ => cases n <;> simp only [moveC, Mv.go.injEq] at h <;> subst h <;> rfl
          | mk =>
            cases e with
            | normal =>
              simp only [moveC] at h
              split at h
              · simp only [Mv.go.injEq] at h; subst h; rfl
              · cases h
            | _ => simp [moveC] at h
      intro n
      induction n with
      | zero => intro x y h; simp only [runC, Option.some.injEq] at h; rw [h]
      | succ n ih =>
        intro x y h
        unfold runC at h
        cases hm : moveC E ct x with
        | stop => simp only [hm, Option.some.injEq] at h; rw [h]
        | fail => simp [hm] at h
        | go c' =>
          simp only [hm] at h
          exact (ih _ _ h).trans (move _ _ hm)
    split at h
    · rename_i σ hr
      cases hv : resultOf E fn σ with
      | none => simp [hv] at h
      | some v =>
        simp only [hv, Option.some.injEq] at h
        exact fin _ v hr rfl (.inr rfl) hv h.symm (keepB _ _ _ hr)
    · rename_i σ hr
      cases hv : resultOf E fn σ with
      | none => simp [hv] at h
      | some v =>
        simp only [hv, Option.some.injEq] at h
        exact fin _ v hr rfl (.inl rfl) hv h.symm (keepB _ _ _ hr)
    · cases h
theorem callT_ok (hmx : E.P.follows .mixedOrders = true) (fuel : Nat) (df : Nat → Option (SV × Tab E × Nat)) : ∀ (m : Nat), TableOk E (callT E fuel df m)
  | 0 => by
    refine ⟨callT_tells fuel df 0, ?_⟩
    intro g l ats b key d R h hc S w0 U μ w vs hf hm hs
    unfold callT at h
    simp only at h
    split at h
    · exact contract_ok h hc hf hm hs
    · cases h
  | m + 1 => by
    refine ⟨callT_tells fuel df (m + 1), ?_⟩
    intro g l ats b key d R h hc S w0 U μ w vs hf hm hs
    unfold callT at h
    simp only at h
    split at h
    · exact contract_ok h hc hf hm hs
    · split at h
      · rename_i fn hfn
        cases hnm : (fn.name == "runtime.NumGoroutine") with
        | true => simp [hnm] at h
        | false =>
          simp only [hnm, cond_false] at h
          exact .inr (body_ok (callT_ok hmx fuel df m) hmx hfn hnm h hc hf hm hs)
      · cases h
    · split at h
      · rename_i v T n hv
        split at h
        · simp only [Option.some.injEq] at h
          subst h
          exact absurd (Conj.app hc).2 (by simp [Conj, NeedC])
        · cases h
      · split at h
        · split at h
          · simp only [Option.some.injEq] at h
            subst h
            exact absurd (Conj.cons hc).1 (by simp [NeedE])
          · cases h
        · cases h
    · cases h
/-! ### Pieces of a body -/
/-- How the body is to end. -/
abbrev Post (E : Env) (fn : Func) (S : Nat → Prop) (w0 : World) (vals : Nat → Value) (K0 : Nat) (res : SV) (T' : Tab E) (n' : Nat) : Exit → Act → World → Prop :=
  bodyPost E.P fn fun e w' => ∃ u μ', e = .returned u ∧ (∀ k, k < K0 → μ' k = vals k) ∧ rel (fun k => k < n') μ' res u ∧ Mem S w0 (fun k => k < n') μ' T' w'
/-- From here the function comes to res, and T' speaks of the world behind it. -/
def Fin (E : Env) (fn : Func) (K0 : Nat) (res : SV) (T' : Tab E) (n' : Nat) (k : List It) (s : List SV) (b : Tab E) (n : Nat) : Prop :=
  ∀ S w0 vals μ a w, (∀ k, k < K0 → μ k = vals k) → Sim S w0 (fun k => k < n) n μ ⟨s, [], b, [], [], n⟩ a w → kont E.P (Post E fn S w0 vals K0 res T' n') k .normal a w
inductive Seg (E : Env) where
  | fin (res : SV) (T' : Tab E) (n' : Nat)
  | at (k : List It) (s : List SV) (b : Tab E) (n : Nat)
def keepS (keep : List Nat) : Nat → List SV → List SV
  | _, [] => []
  | i, v :: r => (bif keep.contains i then v else .na) :: keepS keep (i + 1) r
theorem keepS_slots {U : Nat → Prop} {μ : Nat → Value} {keep : List Nat} : ∀ {i : Nat} {s : List SV} {us : List Value}, Slots U μ s us → Slots U μ (keepS keep i s) us
  | _, [], us, h => h
  | i, v :: s, us, h => by
    obtain ⟨u, r, rfl, h1, h2⟩ := h.consr
    refine slots_cons.2 ⟨?_, keepS_slots h2⟩
    cases keep.contains i with
    | true => exact h1
    | false => exact rel_x
def segOf (E : Env) (ct : Table E) (fn : Func) (fuel : Nat) (K0 : Nat) (keep : List Nat) (k : List It) (s : List SV) (b : Tab E) (n : Nat) (d : List (Dec E)) : Option (Seg E × List Prop) := match runC E ct fuel ⟨k, .normal, ⟨s, [], b, [], d, n⟩⟩ with
  | some ⟨[], .ret, σ⟩ => match resultOf E fn σ with
    | some v => match normOf K0 [v] (σ.u ++ σ.b) with
      | some ([v'], T', n') => some (.fin v' T' n', σ.c)
      | _ => none
    | none => none
  | some ⟨[], .normal, σ⟩ => match resultOf E fn σ with
    | some v => match normOf K0 [v] (σ.u ++ σ.b) with
      | some ([v'], T', n') => some (.fin v' T' n', σ.c)
      | _ => none
    | none => none
  | some ⟨k', .normal, σ⟩ => match normOf K0 (keepS keep 0 σ.s) (σ.u ++ σ.b) with
    | some (s', b', n') => some (.at k' s' b' n', σ.c)
    | none => none
  | _ => none
section
variable {ct : Table E} {fn : Func} {K0 n n' m : Nat} {keep : List Nat} {k k' : List It} {s s' : List SV} {b b' : Tab E} {p : List Prop} {res : SV} {T' : Tab E}
theorem up_lt (n m : Nat) : ∀ k, Up (fun k => k < n) n m k → k < n ∨ k < m := by
  intro k hk
  rcases hk with hk | hk
  · exact .inl hk
  · exact .inr hk.2
theorem free_lt (n m : Nat) : Free (fun k => k < n) n m := fun k h1 _ h2 => by omega
theorem seg_fin (hct : TableOk E ct) (hmx : E.P.follows .mixedOrders = true) (hK : K0 ≤ n) (fuel : Nat) (d : List (Dec E)) (h : segOf E ct fn fuel K0 keep k s b n d = some (.fin res T' n', p)) (hp : Conj p) : Fin E fn K0 res T' n' k s b n := by
  intro S w0 vals μ a w hv0 hS
  have fin : ∀ (y : Cfg E) (v : SV), runC E ct fuel ⟨k, .normal, ⟨s, [], b, [], d, n⟩⟩ = some y → y.k = [] → (y.e = .normal ∨ y.e = .ret) → resultOf E fn y.σ = some v → normOf K0 [v] (y.σ.u ++ y.σ.b) = some ([res], T', n') → y.σ.c = p →
      kont E.P (Post E fn S w0 vals K0 res T' n') k .normal a w := by
    intro y v hr hk he hv hnorm hc
    refine run_sound (S := S) (w0 := w0) (B := fun k => k < n) (n0 := n) (μ := μ) hct hmx (x := ⟨k, .normal, ⟨s, [], b, [], d, n⟩⟩) hr ⟨hS.d, hS.s, hS.m, hS.le⟩ (free_lt _ _) (by rw [hc]; exact hp) (fun μ' a' w' hμ hS' => ?_)
    obtain ⟨u, r1, r2⟩ := resultOf_run hS' hv
    obtain ⟨μ'', q1, q2, q3, q4⟩ := normOf_ok hnorm (slots_cons.2 ⟨r2, slots_nil⟩) hS'.m
    have q2' := (slots_cons.1 q2).1
    rw [hk]
    rcases he with he | he <;> rw [he] <;> exact ⟨hS'.d, u, r1, u, μ'', rfl, fun k hk => (q1 k hk).trans ((hμ k (.inl (Nat.lt_of_lt_of_le hk hK))).trans (hv0 k hk)), q2', q3⟩
  unfold segOf at h
  split at h
  · rename_i σ hr
    cases hv : resultOf E fn σ with
    | none => simp [hv] at h
    | some v =>
      simp only [hv] at h
      split at h
      · rename_i v' T2 n2 hn
        simp only [Option.some.injEq, Prod.mk.injEq, Seg.fin.injEq] at h
        obtain ⟨⟨rfl, rfl, rfl⟩, rfl⟩ := h
        exact fin _ v hr rfl (.inr rfl) hv hn rfl
      · cases h
  · rename_i σ hr
    cases hv : resultOf E fn σ with
    | none => simp [hv] at h
    | some v =>
      simp only [hv] at h
      split at h
      · rename_i v' T2 n2 hn
        simp only [Option.some.injEq, Prod.mk.injEq, Seg.fin.injEq] at h
        obtain ⟨⟨rfl, rfl, rfl⟩, rfl⟩ := h
        exact fin _ v hr rfl (.inl rfl) hv hn rfl
      · cases h
  · split at h <;> simp at h
  · cases h
theorem seg_at (hct : TableOk E ct) (hmx : E.P.follows .mixedOrders = true) (hK : K0 ≤ n) (fuel : Nat) (d : List (Dec E)) (h : segOf E ct fn fuel K0 keep k s b n d = some (.at k' s' b' m, p)) (hp : Conj p) (hF : Fin E fn K0 res T' n' k' s' b' m) : Fin E fn K0 res T' n' k s b n := by
  intro S w0 vals μ a w hv0 hS
  unfold segOf at h
  split at h
  · rename_i σ hr
    cases hv : resultOf E fn σ with
    | none => simp [hv] at h
    | some v => simp only [hv] at h; split at h <;> simp at h
  · rename_i σ hr
    cases hv : resultOf E fn σ with
    | none => simp [hv] at h
    | some v => simp only [hv] at h; split at h <;> simp at h
  · rename_i k'' σ _ hr
    split at h
    · rename_i s2 b2 n2 hn
      simp only [Option.some.injEq, Prod.mk.injEq, Seg.at.injEq] at h
      obtain ⟨⟨rfl, rfl, rfl, rfl⟩, rfl⟩ := h
      refine run_sound (S := S) (w0 := w0) (B := fun k => k < n) (n0 := n) (μ := μ) hct hmx (x := ⟨k, .normal, ⟨s, [], b, [], d, n⟩⟩) hr ⟨hS.d, hS.s, hS.m, hS.le⟩ (free_lt _ _) hp (fun μ' a' w' hμ hS' => ?_)
      obtain ⟨μ'', q1, q2, q3, q4⟩ := normOf_ok hn (keepS_slots hS'.s) hS'.m
      refine hF S w0 vals μ'' a' w' (fun k hk => (q1 k hk).trans ((hμ k (.inl (Nat.lt_of_lt_of_le hk hK))).trans (hv0 k hk))) ⟨hS'.d, ?_, ?_, Nat.le_refl _⟩
      · exact slots_mono (fun k hk => .inl hk) (fun _ _ => rfl) _ _ q2
      · exact q3.mono (fun k hk => .inl hk) (fun _ _ => rfl)
    · cases h
  · cases h
/-- Into a loop, round it; into a scope, round it. -/
def inK : List It → Nat → List It
  | .code (.loop c) :: k, n => .rd c n :: k
  | k, _ => k
def bodyK : List It → Nat → List It
  | .code (.loop c) :: k, n => .code c :: .rd c n :: k
  | k, _ => k
def scK : List It → Nat → List It
  | .code (.scope c) :: k, n => .code c :: .sc c n :: k
  | k, _ => k
def stackOf : Option (Cfg E) → List It
  | some c => c.k
  | none => []
theorem fin_loop {K : List It} (m : Nat) (h : Fin E fn K0 res T' n' (inK K m) s b n) : Fin E fn K0 res T' n' K s b n := by
  intro S w0 vals μ a w hv hS
  have := h S w0 vals μ a w hv hS
  unfold inK at this
  split at this
  · exact loop_in m this
  · exact this
theorem fin_round {K : List It} {m : Nat} (h : Fin E fn K0 res T' n' (bodyK K m) s b n) : Fin E fn K0 res T' n' (inK K (m + 1)) s b n := by
  intro S w0 vals μ a w hv hS
  have := h S w0 vals μ a w hv hS
  unfold bodyK at this
  unfold inK
  split at this
  · exact this
  · exact this
theorem fin_scope {K : List It} (m : Nat) (h : Fin E fn K0 res T' n' (scK K m) s b n) : Fin E fn K0 res T' n' K s b n := by
  intro S w0 vals μ a w hv hS
  have := h S w0 vals μ a w hv hS
  unfold scK at this
  split at this
  · exact scope_in m this
  · exact this
theorem does_of_fin {f : Nat} {c : Code} {T : Tab E} {l : List SV} (hf : E.P.funcs[f]? = some fn) (hn : (fn.name == "runtime.NumGoroutine") = false) (hb : fn.body = some c) (h : Fin E fn n res T' n' [.code c] (argsS l fn.ntmps) T n) : Does E f T n l res T' n' := by
  intro S w μ vs hm hs
  have h1 : fn.name ≠ "runtime.NumGoroutine" := by simpa using hn
  refine .inr ⟨by simp [callFunc, hf, h1, hb, program, Sem.run], ?_⟩
  refine calls_of_wp hf hb ?_
  exact h S w μ μ _ w (fun _ _ => rfl) ⟨rfl, slots_mono (fun k hk => .inl hk) (fun _ _ => rfl) _ _ (args_slots hs fn.ntmps), hm.mono (fun k hk => .inl hk) (fun _ _ => rfl), Nat.le_refl _⟩
end
/-- A whole path: what it gives, on which conditions. -/
def pathOf (E : Env) (ct : Table E) (fn : Func) (fuel : Nat) (T : Tab E) (n : Nat) (l : List SV) (d : List (Dec E)) : Option (SV × Tab E × Nat × List Prop) := match fn.body with
  | none => none
  | some c => match segOf E ct fn fuel n [] [.code c] (argsS l fn.ntmps) T n d with
    | some (.fin r T' n', p) => some (r, T', n', p)
    | _ => none
theorem does_path {ct : Table E} (hct : TableOk E ct) (hmx : E.P.follows .mixedOrders = true) {f : Nat} {fn : Func} {T T' : Tab E} {n n' : Nat} {l : List SV} {r : SV} {p : List Prop} (hf : E.P.funcs[f]? = some fn) (hn : (fn.name == "runtime.NumGoroutine") = false) (fuel : Nat) (d : List (Dec E))
    (h : pathOf E ct fn fuel T n l d = some (r, T', n', p)) (hp : Conj p) : Does E f T n l r T' n' := by
  unfold pathOf at h
  cases hb : fn.body with
  | none => simp [hb] at h
  | some c =>
    simp only [hb] at h
    split at h
    · rename_i r2 T2 n2 p2 hs
      simp only [Option.some.injEq, Prod.mk.injEq] at h
      obtain ⟨rfl, rfl, rfl, rfl⟩ := h
      exact does_of_fin hf hn hb (seg_fin hct hmx (Nat.le_refl _) fuel d hs hp)
    · cases h
end
end
end Go.Proofs.YtcneenlcbjicnaaDoorSx
