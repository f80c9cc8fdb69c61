import Derived.Test.YtnchjdhepakokaaGreatDoorOs04
import Derived.SizedLaws
import Derived.ChangeSlices
import Derived.Test.YtnchjdhepakokaaGreatDoorProg
import Derived.KernelRfl
import Derived.Lib.ItoaNum
import Derived.Lib.DecodeN
/- The symbolic machine whole: tables of calls, functions, pieces of a body, formats of rows. -/
set_option linter.unusedVariables false
set_option linter.unusedSimpArgs false
namespace Go.Proofs.YtnchjdhepakokaaGreatDoorSx
open Go.RowKit Go.Proofs.YtnchjdhepakokaaGreatDoorW.PrintLast Go.Proofs.YtnchjdhepakokaaGreatDoorW.PrintWords
noncomputable section
/-! ### Formats -/
def intF (k : IntKind) (c : Bool) (hc : c = true → k = .u8) : Fmt where
  α := Int
  d := 0
  sz := 1
  enc z := [.int k z]
  dec
    | [.int k' z] => bif decide (k' = k) then some z else none
    | _ => none
  str := bif c then some (fun s => s.data.toList.map fun b => (b.toNat : Int)) else none
  toS := bif c then some (fun l => l.foldl (fun r n => r.push (UInt8.ofNat n.toNat)) ByteArray.empty) else none
  pos := Nat.one_pos
  len _ := rfl
  inv vs a h := by
    split at h
    · rename_i k' z
      cases hk : decide (k' = k) with
      | false => simp [hk] at h
      | true =>
        simp only [hk, cond_true, Option.some.injEq] at h
        subst h
        rw [of_decide_eq_true hk]
    · cases h
  one a v hv := by
    simp only [List.mem_singleton] at hv
    rw [hv]
    rfl
  strOk f h := by
    cases c with
    | false => cases h
    | true =>
      have e := hc rfl
      subst e
      simp only [cond_true, Option.some.injEq] at h
      subst h
      refine ⟨rfl, fun s => ⟨?_, ?_⟩⟩
      · simp only [byteCells]
        induction s.data.toList with
        | nil => rfl
        | cons b l ih => simp only [List.map_cons, List.flatMap_cons, ih]; rfl
      · rw [List.length_map, Array.length_toList]
        rfl
  toSOk f h := by
    cases c with
    | false => cases h
    | true =>
      have e := hc rfl
      subst e
      simp only [cond_true, Option.some.injEq] at h
      subst h
      refine ⟨rfl, fun l => ⟨l, ?_, rfl⟩⟩
      induction l with
      | nil => rfl
      | cons b l ih => simp only [List.map_cons, List.flatMap_cons, ih]; rfl
def strF : Fmt where
  α := ByteArray
  d := ByteArray.empty
  sz := 1
  enc z := [.string z]
  dec
    | [.string z] => some z
    | _ => none
  str := none
  toS := none
  pos := Nat.one_pos
  len _ := rfl
  inv vs a h := by
    split at h
    · simp only [Option.some.injEq] at h
      rw [h]
    · cases h
  one a v hv := by
    simp only [List.mem_singleton] at hv
    rw [hv]
    rfl
  strOk f h := by cases h
  toSOk f h := by cases h
def u8F : Fmt := intF .u8 true (fun _ => rfl)
def numF (k : IntKind) : Fmt := intF k false (fun h => by cases h)
/-- Whole numbers, bytes, strings, as the type says. -/
def fmOf (P : Program) (e : TypeId) : Fmt := match P.underlying e with
  | some (.int .u8) => u8F
  | some (.int k) => numF k
  | some .string => strF
  | _ => numF .i64
def envOf (P : Program) : Env := { P := P, fm := fmOf P, gl := fun _ => .no }
/-! ### Tables -/
def argsS (l : List SV) (n : Nat) : List SV := l ++ List.replicate (n - l.length) .na
section
variable {E : Env}
def bodyOf (E : Env) (ct : Table E) (fuel : Nat) (fn : Func) (args : List SV) (b : Tab E) (key : Nat) (d : List (Dec E)) : Option (Res E) := match fn.body with
  | none => none
  | some c => match runC E ct fuel ⟨[.code c], .normal, ⟨argsS args fn.ntmps, [], b, [], d, key⟩⟩ with
    | some ⟨[], .ret, σ⟩ => match resultOf E fn σ with
      | some v => some ⟨v, σ.u, σ.n, σ.c, σ.d⟩
      | none => none
    | some ⟨[], .normal, σ⟩ => match resultOf E fn σ with
      | some v => some ⟨v, σ.u, σ.n, σ.c, σ.d⟩
      | none => none
    | _ => none
def NeedC (g : Nat) : Prop := False
def NeedE (g : Nat) : Prop := False
/-- Calls: told by the script ('.c'), or entered ('.e'), so deep at the most. 'df': what a function not told comes to, for trying. -/
def callT (E : Env) (fuel : Nat) (df : Nat → Option (SV × Tab E × Nat)) : Nat → Table E
  | 0 => ⟨fun g l ats b key d => match d with
    | .c res T n :: r => contract E g l ats b key res T n r
    | _ => none, fun _ => false⟩
  | m + 1 => ⟨fun g l ats b key d => match d with
    | .c res T n :: r => contract E g l ats b key res T n r
    | .e :: r => match E.P.funcs[g]? with
      | some fn => bif fn.name == "runtime.NumGoroutine" then none else bodyOf E (callT E fuel df m) fuel fn l b key r
      | none => none
    | [] => match df g with
      | some (v, T, n) => match absArgs E b l ats 0 with
        | some A => some ⟨resMap1 A.bk.length key A.bk v, freshT A.bk.length key T, key + (n - A.bk.length), A.c ++ [NeedC g], []⟩
        | none => none
      | none => match E.P.funcs[g]? with
        | some fn => match bodyOf E (callT E fuel df m) fuel fn l b key [] with
          | some R => some ⟨R.v, R.u, R.n, NeedE g :: R.c, R.d⟩
          | none => none
        | none => none
    | _ => none, fun g => (df g).isSome⟩
theorem callT_tells (fuel : Nat) (df : Nat → Option (SV × Tab E × Nat)) : ∀ (m : Nat), TellsOk E (callT E fuel df m)
  | 0 => by
    intro g l ats b b' key d ht h
    unfold told at ht
    split at ht
    · exact contract_congr h
    · simp [callT] at ht
    · cases ht
  | m + 1 => by
    intro g l ats b b' key d ht h
    unfold told at ht
    split at ht
    · exact contract_congr h
    · simp only [callT] at ht ⊢
      cases hd : df g with
      | none => simp [hd] at ht
      | some p =>
        obtain ⟨v, T, n⟩ := p
        simp only
        rw [absArgs_congr h]
    · cases ht
theorem args_slots {U : Nat → Prop} {μ : Nat → Value} {l : List SV} {vs : List Value} (h : Slots U μ l vs) (n : Nat) : Slots U μ (argsS l n) (vs.toArray ++ Array.replicate (n - vs.toArray.size) undef).toList := by
  have h1 := slots_x U μ (List.replicate (n - l.length) undef)
  rw [List.length_replicate] at h1
  have := h.append h1
  simpa [argsS, h.length] using this
theorem body_ok {ct : Table E} (hct : TableOk E ct) (hmx : E.P.follows .mixedOrders = true) {fuel : Nat} {g : Nat} {fn : Func} (hf : E.P.funcs[g]? = some fn) (hnm : (fn.name == "runtime.NumGoroutine") = false) {args : List SV} {b : Tab E} {key : Nat} {d : List (Dec E)} {R : Res E}
    (h : bodyOf E ct fuel fn args b key d = some R) (hc : Conj R.c) {S : Nat → Prop} {w0 w : World} {U : Nat → Prop} {μ : Nat → Value} {vs : List Value} (hfr : Free U key R.n) (hm : Mem S w0 U μ b w) (hs : Slots U μ args vs) :
    (callFunc g vs.toArray).run E.P w = .ok (.enter g vs.toArray) w ∧ Calls E.P g vs.toArray w fun e w' => ∃ u μ', e = .returned u ∧ (∀ k, U k → μ' k = μ k) ∧ rel (Up U key R.n) μ' R.v u ∧ Mem S w0 (Up U key R.n) μ' (R.u ++ b) w' := by
  unfold bodyOf at h
  cases hb : fn.body with
  | none => simp [hb] at h
  | some c =>
    simp only [hb] at h
    have h1 : fn.name ≠ "runtime.NumGoroutine" := by simpa using hnm
    refine ⟨by simp [callFunc, hf, h1, hb, program, Sem.run], ?_⟩
    have hu : ∀ k, Up U key key k ↔ U k := fun k => ⟨upU_self U key k, fun hk => .inl hk⟩
    have fin : ∀ (y : Cfg E) (v : SV), runC E ct fuel ⟨[.code c], .normal, ⟨argsS args fn.ntmps, [], b, [], d, key⟩⟩ = some y → y.k = [] → (y.e = .normal ∨ y.e = .ret) → resultOf E fn y.σ = some v → R = ⟨v, y.σ.u, y.σ.n, y.σ.c, y.σ.d⟩ → y.σ.b = b →
        Calls E.P g vs.toArray w fun e w' => ∃ u μ', e = .returned u ∧ (∀ k, U k → μ' k = μ k) ∧ rel (Up U key R.n) μ' R.v u ∧ Mem S w0 (Up U key R.n) μ' (R.u ++ b) w' := by
      intro y v hr hk he hv hR hyb
      subst hR
      refine calls_of_wp hf hb ?_
      refine run_sound (S := S) (w0 := w0) (B := U) (n0 := key) (μ := μ) hct hmx (x := ⟨[.code c], .normal, ⟨argsS args fn.ntmps, [], b, [], d, key⟩⟩) hr ⟨rfl, ?_, ?_, Nat.le_refl _⟩ hfr hc (fun μ' a' w' hμ hS => ?_)
      · exact slots_mono (fun k hk => .inl hk) (fun _ _ => rfl) _ _ (args_slots hs fn.ntmps)
      · exact hm.up key
      · obtain ⟨u, r1, r2⟩ := resultOf_run hS hv
        rw [hk]
        have hm' := hS.m
        rw [hyb] at hm'
        rcases he with he | he <;> rw [he] <;> exact ⟨hS.d, u, r1, u, μ', rfl, fun k hk => hμ k (.inl hk), r2, hm'⟩
    have keepB : ∀ (n : Nat) (x y : Cfg E), runC E ct n x = some y → y.σ.b = x.σ.b := by
      have ops : ∀ (ops : Array Oper) (l : List Oper) (σ τ : St E), runOps E ct ops l σ = some τ → τ.b = σ.b := by
        intro ops l
        induction l with
        | nil => intro σ τ h; simp only [runOps, Option.some.injEq] at h; rw [h]
        | cons o l ih =>
          intro σ τ h
          unfold runOps at h
          split at h
          · rename_i R he
            cases hn : Nat.ble σ.n R.n with
            | false => simp [hn] at h
            | true =>
              simp only [hn, cond_true] at h
              have h' := ih _ _ h
              exact h'
          · cases h
      have efs : ∀ (ops : Array Oper) (W n : Nat) (l : List Oper) (i : Nat) (σ τ : St E) (L : List (Ef E)), efsOf E ct ops W n l i σ = some (L, τ) → τ.b = σ.b := by
        intro ops W n l
        induction l with
        | nil => intro i σ τ L h; simp only [efsOf, Option.some.injEq, Prod.mk.injEq] at h; rw [h.2]
        | cons o l ih =>
          intro i σ τ L h
          unfold efsOf at h
          split at h
          · rename_i R he
            cases hb : Nat.ble R.n (keyAt W n i + W) with
            | false => simp [hb] at h
            | true =>
              simp only [hb, cond_true] at h
              split at h
              · rename_i L' τ' h'
                simp only [Option.some.injEq, Prod.mk.injEq] at h
                obtain ⟨_, rfl⟩ := h
                have h'' := ih _ _ _ _ h'
                exact h''
              · cases h
          · cases h
      have drawn : ∀ (ops : Array Oper) (σ τ : St E), runDrawn E ct ops σ = some τ → τ.b = σ.b := by
        intro ops σ τ h
        obtain ⟨hw, W, h⟩ := drawn_width h
        obtain ⟨L, τ', he, hok, rfl⟩ := drawnW_some h
        have h' := efs _ _ _ _ _ _ _ _ he
        exact h'
      have code : ∀ (k : List It) (σ : St E) (c : Code) (c' : Cfg E), moveCode E ct k σ c = .go c' → c'.σ.b = σ.b := by
        intro k σ c c' h
        cases c with
        | region id o dr =>
          cases dr with
          | true =>
            simp only [moveCode] at h
            cases hr : runDrawn E ct o σ with
            | none => simp [hr] at h
            | some τ =>
              simp only [hr, Mv.go.injEq] at h
              subst h
              exact drawn _ _ _ hr
          | false =>
            simp only [moveCode] at h
            cases hr : runOps E ct o o.toList σ with
            | none => simp [hr] at h
            | some τ =>
              simp only [hr, Mv.go.injEq] at h
              subst h
              exact ops _ _ _ _ hr
        | cond x y z =>
          simp only [moveCode] at h
          split at h
          · simp only [Mv.go.injEq] at h; subst h; rfl
          · simp only [Mv.go.injEq] at h; subst h; rfl
          · cases h
        | skip => simp only [moveCode, Mv.go.injEq] at h; subst h; rfl
        | label l => simp only [moveCode, Mv.go.injEq] at h; subst h; rfl
        | seq x y => simp only [moveCode, Mv.go.injEq] at h; subst h; rfl
        | block id x => simp only [moveCode, Mv.go.injEq] at h; subst h; rfl
        | exit id => simp only [moveCode, Mv.go.injEq] at h; subst h; rfl
        | goto l => simp only [moveCode, Mv.go.injEq] at h; subst h; rfl
        | ret => simp only [moveCode, Mv.go.injEq] at h; subst h; rfl
        | loop x =>
          simp only [moveCode] at h
          split at h
          · simp only [Mv.go.injEq] at h; subst h; rfl
          · cases h
        | scope x =>
          simp only [moveCode] at h
          split at h
          · simp only [Mv.go.injEq] at h; subst h; rfl
          · cases h
        | _ => simp [moveCode] at h
      have move : ∀ (c c' : Cfg E), moveC E ct c = .go c' → c'.σ.b = c.σ.b := by
        intro c c' h
        obtain ⟨k, e, σ⟩ := c
        cases k with
        | nil => simp [moveC] at h
        | cons x k =>
          cases x with
          | code c =>
            cases e with
            | normal => exact code _ _ _ _ h
            | _ => simp only [moveC, Mv.go.injEq] at h; subst h; rfl
          | blk id =>
            cases e with
            | exit j =>
              simp only [moveC] at h
              cases hj : Nat.beq j id <;> simp only [hj, cond_true, cond_false, Mv.go.injEq] at h <;> subst h <;> rfl
            | _ => simp only [moveC, Mv.go.injEq] at h; subst h; rfl
          | rd c n =>
            cases e with
            | normal =>
              simp only [moveC] at h
              split at h
              · split at h
                · simp only [Mv.go.injEq] at h; subst h; rfl
                · cases h
              · cases h
            | _ => simp only [moveC, Mv.go.injEq] at h; subst h; rfl
          | sc c n =>
            cases e with
            | goto l =>
              simp only [moveC] at h
              split at h
              · simp only [Mv.go.injEq] at h; subst h; rfl
              · cases h
            | _ => cases n <;> simp only [moveC, Mv.go.injEq] at h <;> subst h <;> rfl
          | mk =>
            cases e with
            | normal =>
              simp only [moveC] at h
              split at h
              · simp only [Mv.go.injEq] at h; subst h; rfl
              · cases h
            | _ => simp [moveC] at h
      intro n
      induction n with
      | zero => intro x y h; simp only [runC, Option.some.injEq] at h; rw [h]
      | succ n ih =>
        intro x y h
        unfold runC at h
        cases hm : moveC E ct x with
        | stop => simp only [hm, Option.some.injEq] at h; rw [h]
        | fail => simp [hm] at h
        | go c' =>
          simp only [hm] at h
          exact (ih _ _ h).trans (move _ _ hm)
    split at h
    · rename_i σ hr
      cases hv : resultOf E fn σ with
      | none => simp [hv] at h
      | some v =>
        simp only [hv, Option.some.injEq] at h
        exact fin _ v hr rfl (.inr rfl) hv h.symm (keepB _ _ _ hr)
    · rename_i σ hr
      cases hv : resultOf E fn σ with
      | none => simp [hv] at h
      | some v =>
        simp only [hv, Option.some.injEq] at h
        exact fin _ v hr rfl (.inl rfl) hv h.symm (keepB _ _ _ hr)
    · cases h
theorem callT_ok (hmx : E.P.follows .mixedOrders = true) (fuel : Nat) (df : Nat → Option (SV × Tab E × Nat)) : ∀ (m : Nat), TableOk E (callT E fuel df m)
  | 0 => by
    refine ⟨callT_tells fuel df 0, ?_⟩
    intro g l ats b key d R h hc S w0 U μ w vs hf hm hs
    unfold callT at h
    simp only at h
    split at h
    · exact contract_ok h hc hf hm hs
    · cases h
  | m + 1 => by
    refine ⟨callT_tells fuel df (m + 1), ?_⟩
    intro g l ats b key d R h hc S w0 U μ w vs hf hm hs
    unfold callT at h
    simp only at h
    split at h
    · exact contract_ok h hc hf hm hs
    · split at h
      · rename_i fn hfn
        cases hnm : (fn.name == "runtime.NumGoroutine") with
        | true => simp [hnm] at h
        | false =>
          simp only [hnm, cond_false] at h
          exact .inr (body_ok (callT_ok hmx fuel df m) hmx hfn hnm h hc hf hm hs)
      · cases h
    · split at h
      · rename_i v T n hv
        split at h
        · simp only [Option.some.injEq] at h
          subst h
          exact absurd (Conj.app hc).2 (by simp [Conj, NeedC])
        · cases h
      · split at h
        · split at h
          · simp only [Option.some.injEq] at h
            subst h
            exact absurd (Conj.cons hc).1 (by simp [NeedE])
          · cases h
        · cases h
    · cases h
/-! ### Pieces of a body -/
/-- How the body is to end. -/
abbrev Post (E : Env) (fn : Func) (S : Nat → Prop) (w0 : World) (vals : Nat → Value) (K0 : Nat) (res : SV) (T' : Tab E) (n' : Nat) : Exit → Act → World → Prop :=
  bodyPost E.P fn fun e w' => ∃ u μ', e = .returned u ∧ (∀ k, k < K0 → μ' k = vals k) ∧ rel (fun k => k < n') μ' res u ∧ Mem S w0 (fun k => k < n') μ' T' w'
/-- From here the function comes to res, and T' speaks of the world behind it. -/
def Fin (E : Env) (fn : Func) (K0 : Nat) (res : SV) (T' : Tab E) (n' : Nat) (k : List It) (s : List SV) (b : Tab E) (n : Nat) : Prop :=
  ∀ S w0 vals μ a w, (∀ k, k < K0 → μ k = vals k) → Sim S w0 (fun k => k < n) n μ ⟨s, [], b, [], [], n⟩ a w → kont E.P (Post E fn S w0 vals K0 res T' n') k .normal a w
inductive Seg (E : Env) where
  | fin (res : SV) (T' : Tab E) (n' : Nat)
  | at (k : List It) (s : List SV) (b : Tab E) (n : Nat)
def keepS (keep : List Nat) : Nat → List SV → List SV
  | _, [] => []
  | i, v :: r => (bif keep.contains i then v else .na) :: keepS keep (i + 1) r
theorem keepS_slots {U : Nat → Prop} {μ : Nat → Value} {keep : List Nat} : ∀ {i : Nat} {s : List SV} {us : List Value}, Slots U μ s us → Slots U μ (keepS keep i s) us
  | _, [], us, h => h
  | i, v :: s, us, h => by
    obtain ⟨u, r, rfl, h1, h2⟩ := h.consr
    refine slots_cons.2 ⟨?_, keepS_slots h2⟩
    cases keep.contains i with
    | true => exact h1
    | false => exact rel_x
def segOf (E : Env) (ct : Table E) (fn : Func) (fuel : Nat) (K0 : Nat) (keep : List Nat) (k : List It) (s : List SV) (b : Tab E) (n : Nat) (d : List (Dec E)) : Option (Seg E × List Prop) := match runC E ct fuel ⟨k, .normal, ⟨s, [], b, [], d, n⟩⟩ with
  | some ⟨[], .ret, σ⟩ => match resultOf E fn σ with
    | some v => match normOf K0 [v] (σ.u ++ σ.b) with
      | some ([v'], T', n') => some (.fin v' T' n', σ.c)
      | _ => none
    | none => none
  | some ⟨[], .normal, σ⟩ => match resultOf E fn σ with
    | some v => match normOf K0 [v] (σ.u ++ σ.b) with
      | some ([v'], T', n') => some (.fin v' T' n', σ.c)
      | _ => none
    | none => none
  | some ⟨k', .normal, σ⟩ => match normOf K0 (keepS keep 0 σ.s) (σ.u ++ σ.b) with
    | some (s', b', n') => some (.at k' s' b' n', σ.c)
    | none => none
  | _ => none
section
variable {ct : Table E} {fn : Func} {K0 n n' m : Nat} {keep : List Nat} {k k' : List It} {s s' : List SV} {b b' : Tab E} {p : List Prop} {res : SV} {T' : Tab E}
theorem up_lt (n m : Nat) : ∀ k, Up (fun k => k < n) n m k → k < n ∨ k < m := by
  intro k hk
  rcases hk with hk | hk
  · exact .inl hk
  · exact .inr hk.2
theorem free_lt (n m : Nat) : Free (fun k => k < n) n m := fun k h1 _ h2 => by omega
theorem seg_fin (hct : TableOk E ct) (hmx : E.P.follows .mixedOrders = true) (hK : K0 ≤ n) (fuel : Nat) (d : List (Dec E)) (h : segOf E ct fn fuel K0 keep k s b n d = some (.fin res T' n', p)) (hp : Conj p) : Fin E fn K0 res T' n' k s b n := by
  intro S w0 vals μ a w hv0 hS
  have fin : ∀ (y : Cfg E) (v : SV), runC E ct fuel ⟨k, .normal, ⟨s, [], b, [], d, n⟩⟩ = some y → y.k = [] → (y.e = .normal ∨ y.e = .ret) → resultOf E fn y.σ = some v → normOf K0 [v] (y.σ.u ++ y.σ.b) = some ([res], T', n') → y.σ.c = p →
      kont E.P (Post E fn S w0 vals K0 res T' n') k .normal a w := by
    intro y v hr hk he hv hnorm hc
    refine run_sound (S := S) (w0 := w0) (B := fun k => k < n) (n0 := n) (μ := μ) hct hmx (x := ⟨k, .normal, ⟨s, [], b, [], d, n⟩⟩) hr ⟨hS.d, hS.s, hS.m, hS.le⟩ (free_lt _ _) (by rw [hc]; exact hp) (fun μ' a' w' hμ hS' => ?_)
    obtain ⟨u, r1, r2⟩ := resultOf_run hS' hv
    obtain ⟨μ'', q1, q2, q3, q4⟩ := normOf_ok hnorm (slots_cons.2 ⟨r2, slots_nil⟩) hS'.m
    have q2' := (slots_cons.1 q2).1
    rw [hk]
    rcases he with he | he <;> rw [he] <;> exact ⟨hS'.d, u, r1, u, μ'', rfl, fun k hk => (q1 k hk).trans ((hμ k (.inl (Nat.lt_of_lt_of_le hk hK))).trans (hv0 k hk)), q2', q3⟩
  unfold segOf at h
  split at h
  · rename_i σ hr
    cases hv : resultOf E fn σ with
    | none => simp [hv] at h
    | some v =>
      simp only [hv] at h
      split at h
      · rename_i v' T2 n2 hn
        simp only [Option.some.injEq, Prod.mk.injEq, Seg.fin.injEq] at h
        obtain ⟨⟨rfl, rfl, rfl⟩, rfl⟩ := h
        exact fin _ v hr rfl (.inr rfl) hv hn rfl
      · cases h
  · rename_i σ hr
    cases hv : resultOf E fn σ with
    | none => simp [hv] at h
    | some v =>
      simp only [hv] at h
      split at h
      · rename_i v' T2 n2 hn
        simp only [Option.some.injEq, Prod.mk.injEq, Seg.fin.injEq] at h
        obtain ⟨⟨rfl, rfl, rfl⟩, rfl⟩ := h
        exact fin _ v hr rfl (.inl rfl) hv hn rfl
      · cases h
  · split at h <;> simp at h
  · cases h
theorem seg_at (hct : TableOk E ct) (hmx : E.P.follows .mixedOrders = true) (hK : K0 ≤ n) (fuel : Nat) (d : List (Dec E)) (h : segOf E ct fn fuel K0 keep k s b n d = some (.at k' s' b' m, p)) (hp : Conj p) (hF : Fin E fn K0 res T' n' k' s' b' m) : Fin E fn K0 res T' n' k s b n := by
  intro S w0 vals μ a w hv0 hS
  unfold segOf at h
  split at h
  · rename_i σ hr
    cases hv : resultOf E fn σ with
    | none => simp [hv] at h
    | some v => simp only [hv] at h; split at h <;> simp at h
  · rename_i σ hr
    cases hv : resultOf E fn σ with
    | none => simp [hv] at h
    | some v => simp only [hv] at h; split at h <;> simp at h
  · rename_i k'' σ _ hr
    split at h
    · rename_i s2 b2 n2 hn
      simp only [Option.some.injEq, Prod.mk.injEq, Seg.at.injEq] at h
      obtain ⟨⟨rfl, rfl, rfl, rfl⟩, rfl⟩ := h
      refine run_sound (S := S) (w0 := w0) (B := fun k => k < n) (n0 := n) (μ := μ) hct hmx (x := ⟨k, .normal, ⟨s, [], b, [], d, n⟩⟩) hr ⟨hS.d, hS.s, hS.m, hS.le⟩ (free_lt _ _) hp (fun μ' a' w' hμ hS' => ?_)
      obtain ⟨μ'', q1, q2, q3, q4⟩ := normOf_ok hn (keepS_slots hS'.s) hS'.m
      refine hF S w0 vals μ'' a' w' (fun k hk => (q1 k hk).trans ((hμ k (.inl (Nat.lt_of_lt_of_le hk hK))).trans (hv0 k hk))) ⟨hS'.d, ?_, ?_, Nat.le_refl _⟩
      · exact slots_mono (fun k hk => .inl hk) (fun _ _ => rfl) _ _ q2
      · exact q3.mono (fun k hk => .inl hk) (fun _ _ => rfl)
    · cases h
  · cases h
/-- Into a loop, round it; into a scope, round it. -/
def inK : List It → Nat → List It
  | .code (.loop c) :: k, n => .rd c n :: k
  | k, _ => k
def bodyK : List It → Nat → List It
  | .code (.loop c) :: k, n => .code c :: .rd c n :: k
  | k, _ => k
def scK : List It → Nat → List It
  | .code (.scope c) :: k, n => .code c :: .sc c n :: k
  | k, _ => k
def stackOf : Option (Cfg E) → List It
  | some c => c.k
  | none => []
theorem fin_loop {K : List It} (m : Nat) (h : Fin E fn K0 res T' n' (inK K m) s b n) : Fin E fn K0 res T' n' K s b n := by
  intro S w0 vals μ a w hv hS
  have := h S w0 vals μ a w hv hS
  unfold inK at this
  split at this
  · exact loop_in m this
  · exact this
theorem fin_round {K : List It} {m : Nat} (h : Fin E fn K0 res T' n' (bodyK K m) s b n) : Fin E fn K0 res T' n' (inK K (m + 1)) s b n := by
  intro S w0 vals μ a w hv hS
  have := h S w0 vals μ a w hv hS
  unfold bodyK at this
  unfold inK
  split at this
  · exact this
  · exact this
theorem fin_scope {K : List It} (m : Nat) (h : Fin E fn K0 res T' n' (scK K m) s b n) : Fin E fn K0 res T' n' K s b n := by
  intro S w0 vals μ a w hv hS
  have := h S w0 vals μ a w hv hS
  unfold scK at this
  split at this
  · exact scope_in m this
  · exact this
theorem does_of_fin {f : Nat} {c : Code} {T : Tab E} {l : List SV} (hf : E.P.funcs[f]? = some fn) (hn : (fn.name == "runtime.NumGoroutine") = false) (hb : fn.body = some c) (h : Fin E fn n res T' n' [.code c] (argsS l fn.ntmps) T n) : Does E f T n l res T' n' := by
  intro S w μ vs hm hs
  have h1 : fn.name ≠ "runtime.NumGoroutine" := by simpa using hn
  refine .inr ⟨by simp [callFunc, hf, h1, hb, program, Sem.run], ?_⟩
  refine calls_of_wp hf hb ?_
  exact h S w μ μ _ w (fun _ _ => rfl) ⟨rfl, slots_mono (fun k hk => .inl hk) (fun _ _ => rfl) _ _ (args_slots hs fn.ntmps), hm.mono (fun k hk => .inl hk) (fun _ _ => rfl), Nat.le_refl _⟩
end
/-- A whole path: what it gives, on which conditions. -/
def pathOf (E : Env) (ct : Table E) (fn : Func) (fuel : Nat) (T : Tab E) (n : Nat) (l : List SV) (d : List (Dec E)) : Option (SV × Tab E × Nat × List Prop) := match fn.body with
  | none => none
  | some c => match segOf E ct fn fuel n [] [.code c] (argsS l fn.ntmps) T n d with
    | some (.fin r T' n', p) => some (r, T', n', p)
    | _ => none
theorem does_path {ct : Table E} (hct : TableOk E ct) (hmx : E.P.follows .mixedOrders = true) {f : Nat} {fn : Func} {T T' : Tab E} {n n' : Nat} {l : List SV} {r : SV} {p : List Prop} (hf : E.P.funcs[f]? = some fn) (hn : (fn.name == "runtime.NumGoroutine") = false) (fuel : Nat) (d : List (Dec E))
    (h : pathOf E ct fn fuel T n l d = some (r, T', n', p)) (hp : Conj p) : Does E f T n l r T' n' := by
  unfold pathOf at h
  cases hb : fn.body with
  | none => simp [hb] at h
  | some c =>
    simp only [hb] at h
    split at h
    · rename_i r2 T2 n2 p2 hs
      simp only [Option.some.injEq, Prod.mk.injEq] at h
      obtain ⟨rfl, rfl, rfl, rfl⟩ := h
      exact does_of_fin hf hn hb (seg_fin hct hmx (Nat.le_refl _) fuel d hs hp)
    · cases h
end
end
end Go.Proofs.YtnchjdhepakokaaGreatDoorSx
/- More on what called functions come to: less said, a nil row, from a contract to a call. -/
set_option linter.unusedVariables false
set_option linter.unusedSimpArgs false
namespace Go.Proofs.YtnchjdhepakokaaGreatDoorSx
open Go.RowKit Go.Proofs.YtnchjdhepakokaaGreatDoorW.PrintLast Go.Proofs.YtnchjdhepakokaaGreatDoorW.PrintWords
noncomputable section
theorem Mem.sub {E : Env} {S : Nat → Prop} {w0 w : World} {U : Nat → Prop} {μ : Nat → Value} {b b' : Tab E} (h : Mem S w0 U μ b w) (hb : ∀ k x, look b' k = some x → look b k = some x) : Mem S w0 U μ b' w where
  obj := fun k x hk => h.obj k x (hb k x hk)
  sep := fun k k' x x' g hk hk' => h.sep k k' x x' g (hb k x hk) (hb k' x' hk')
  kept := h.kept
  dom := h.dom
theorem Does.sub {E : Env} {g n n' : Nat} {T T' T2 : Tab E} {args : List SV} {res : SV} (h : Does E g T n args res T' n') (hne : T' ≠ []) (hb : ∀ k x, look T2 k = some x → look T' k = some x) : Does E g T n args res T2 n' := by
  intro S w μ vs hm hs
  rcases h S w μ vs hm hs with ⟨u, h1, h2, h3, h4⟩ | ⟨h1, h2⟩
  · exact (hne h3).elim
  · refine .inr ⟨h1, h2.mono fun e w' hh => ?_⟩
    obtain ⟨u, μ', e1, e2, e3, e4⟩ := hh
    exact ⟨u, μ', e1, e2, e3, Mem.sub e4 hb⟩
theorem Does.nil {E : Env} {g n n' : Nat} {T T' : Tab E} {args : List SV} {res : SV} (h : Does E g T n args res T' n') (hn : n' = n) : Does E g T n args res [] n' := by
  intro S w μ vs hm hs
  rcases h S w μ vs hm hs with ⟨u, h1, h2, h3, h4⟩ | ⟨h1, h2⟩
  · exact .inl ⟨u, h1, h2, rfl, h4⟩
  · refine .inr ⟨h1, h2.mono fun e w' hh => ?_⟩
    obtain ⟨u, μ', e1, e2, e3, e4⟩ := hh
    exact ⟨u, μ', e1, e2, e3, Mem.sub e4 (fun k x h => by simp [look] at h)⟩
/-- The call is entered. -/
def Enters (E : Env) (g : Nat) : Prop := ∀ (vs : Array Value) (w : World), (callFunc g vs).run E.P w = .ok (.enter g vs) w
theorem enters {E : Env} {g : Nat} {fn : Func} (hf : E.P.funcs[g]? = some fn) (hn : (fn.name == "runtime.NumGoroutine") = false) (hb : fn.body.isNone = false) : Enters E g := by
  intro vs w
  have h1 : fn.name ≠ "runtime.NumGoroutine" := by simpa using hn
  have h2 : ¬ fn.body = none := by intro h; simp [h] at hb
  simp [callFunc, hf, h1, h2, program, Sem.run]
theorem Does.calls {E : Env} {g n n' : Nat} {T T' : Tab E} {args : List SV} {res : SV} (h : Does E g T n args res T' n') (he : Enters E g) {S : Nat → Prop} {w : World} {μ : Nat → Value} {vs : List Value} (hm : Mem S w (fun k => k < n) μ T w) (hs : Slots (fun k => k < n) μ args vs) :
    Calls E.P g vs.toArray w fun e w' => ∃ u μ', e = .returned u ∧ (∀ k, k < n → μ' k = μ k) ∧ rel (fun k => k < n') μ' res u ∧ Mem S w (fun k => k < n') μ' T' w' := by
  rcases h S w μ vs hm hs with ⟨u, h1, _⟩ | ⟨_, h2⟩
  · rw [he] at h1
    cases h1
  · exact h2
/-- A function of one row that gives the row's copy: of one that is nil, and of one that is not. -/
theorem does_split {E : Env} {g : Nat} {e : TypeId} {l : List (E.fm e).α} (he : Enters E g) (hA : Does E g [(0, .ro e l true)] 1 [.o 0] (.o 1) [(0, .ro e l true), (1, .own e l)] 2) (hB : Does E g [] 0 [.v (.slice none 0 0)] (.v (.slice none 0 0)) [] 0) :
    Does E g [(0, .ro e l false)] 1 [.o 0] (.o 1) [(1, .own e l)] 2 := by
  intro S w μ vs hm hs
  obtain ⟨hu, hro⟩ := hm.obj 0 _ rfl
  rcases hro.2 with ⟨h1, h2, _⟩ | hnn
  · have hl : l = [] := List.eq_nil_of_length_eq_zero h2
    obtain ⟨u, r, rfl, hr, hr2⟩ := hs.consr
    have hr3 := hr2.nilr
    subst hr3
    unfold rel at hr
    have hu' : u = .slice none 0 0 := hr.2.1.trans h1
    subst hu'
    have hm0 : Mem S w (fun k => k < 0) μ ([] : Tab E) w := ⟨fun k x h => by simp [look] at h, fun k k' x x' g h => by simp [look] at h, hm.kept, hm.dom⟩
    refine .inr ⟨he _ _, (hB.calls he hm0 (slots_cons.2 ⟨rel_v.2 rfl, slots_nil⟩)).mono fun e' w' hh => ?_⟩
    obtain ⟨u, μ', e1, e2, e3, e4⟩ := hh
    rw [rel_v.1 e3] at e1
    refine ⟨.slice none 0 0, upd μ 1 (.slice none 0 0), e1, fun k hk => (if_neg (by omega) : upd μ 1 (.slice none 0 0) k = μ k), ?_, ?_⟩
    · unfold rel
      exact ⟨by omega, upd_same.symm, _, _, _, upd_same⟩
    · subst hl
      refine ⟨fun k x hk => ?_, fun k k' x x' g hk hk' ho ho' hb hb' => ?_, e4.kept, e4.dom⟩
      · rw [look_cons] at hk
        by_cases hk1 : k = 1
        · rw [if_pos hk1] at hk
          cases hk
          subst hk1
          refine ⟨by omega, ?_, fun g hg => ?_⟩
          · rw [upd_same]
            exact World.ownsRow_nil _ 0 e _
          · rw [upd_same] at hg
            simp [blk] at hg
        · rw [if_neg hk1] at hk
          simp [look] at hk
      · rw [look_cons] at hk hk'
        split at hk <;> split at hk'
        · omega
        · simp [look] at hk'
        · simp [look] at hk
        · simp [look] at hk
  · have hm' : Mem S w (fun k => k < 1) μ [(0, (.ro e l true : SObj E))] w := by
      refine ⟨fun k x hk => ?_, fun k k' x x' g hk hk' ho ho' hb hb' => ?_, hm.kept, hm.dom⟩
      · rw [look_cons] at hk
        by_cases hk0 : k = 0
        · rw [if_pos hk0] at hk
          cases hk
          subst hk0
          exact ⟨by omega, hro.1, .inr hnn⟩
        · rw [if_neg hk0] at hk
          simp [look] at hk
      · rw [look_cons] at hk
        split at hk
        · cases hk; cases ho
        · simp [look] at hk
    exact Does.sub hA (by simp) (fun k x hk => by
      rw [look_cons] at hk
      split at hk
      · rename_i hk1
        cases hk
        subst hk1
        rfl
      · simp [look] at hk) S w μ vs hm' hs
/-- What is not told of a slot may be told. -/
def Weak : List SV → List SV → Prop
  | [], [] => True
  | x :: s, y :: s' => (x = .na ∨ x = y) ∧ Weak s s'
  | _, _ => False
theorem weak_slots {U : Nat → Prop} {μ : Nat → Value} : ∀ {s s' : List SV} {us : List Value}, Weak s s' → Slots U μ s' us → Slots U μ s us
  | [], [], _, _, h => h
  | x :: s, y :: s', us, hw, h => by
    obtain ⟨u, r, rfl, h1, h2⟩ := h.consr
    refine slots_cons.2 ⟨?_, weak_slots hw.2 h2⟩
    rcases hw.1 with e | e
    · rw [e]; exact rel_x
    · rw [e]; exact h1
  | [], _ :: _, _, hw, _ => hw.elim
  | _ :: _, [], _, hw, _ => hw.elim
theorem fin_weak {E : Env} {fn : Func} {K0 n n' : Nat} {k : List It} {s s' : List SV} {b : Tab E} {res : SV} {T' : Tab E} (h : Fin E fn K0 res T' n' k s b n) (hw : Weak s s') : Fin E fn K0 res T' n' k s' b n := by
  intro S w0 vals μ a w hv hS
  exact h S w0 vals μ a w hv ⟨hS.d, weak_slots hw hS.s, hS.m, hS.le⟩
/-- The stack at a place of a function's code: the way there (which part of a sequence or test), the rounds that are left to the loops around it. -/
def stackAt : List Nat → Code → List Nat → List It → List It
  | [], c, _, k => .code c :: k
  | i :: p, .seq a b, ms, k => match i with
    | 0 => stackAt p a ms (.code b :: k)
    | _ => stackAt p b ms k
  | i :: p, .cond _ a b, ms, k => match i with
    | 0 => stackAt p a ms k
    | _ => stackAt p b ms k
  | _ :: p, .block id b, ms, k => stackAt p b ms (.blk id :: k)
  | _ :: p, .loop b, ms, k => match ms with
    | m :: ms => stackAt p b ms (.rd b m :: k)
    | [] => []
  | _ :: p, .scope b, ms, k => match ms with
    | m :: ms => stackAt p b ms (.sc b m :: k)
    | [] => []
  | _, _, _, _ => []
/-- A law over numbers alone: from its contract to its call. -/
def GlobIn (E : Env) (w : World) : Prop := (∀ g vs, glAll (E.gl g) = some vs → ∃ t f, w.heap[g]? = some (.cells vs.toArray t f)) ∧ ∀ g p, E.ga g = some p → g < w.heap.size ∧ ∃ v, w.cell? ⟨g, 0, none⟩ = some v ∧ p v
theorem GlobIn.ok {E : Env} {w : World} (h : GlobIn E w) : GlobOk E (fun g => g < w.heap.size) w := ⟨fun g vs hv => by
  obtain ⟨t, f, hb⟩ := h.1 g vs hv
  exact ⟨(Array.getElem?_eq_some_iff.1 hb).1, t, f, hb⟩, h.2⟩
theorem law_calls {E : Env} {g n' : Nat} {T' : Tab E} {l : List Value} {v : Value} (he : Enters E g) (h : Does E g [] 0 (l.map .v) (.v v) T' n') (w : World) (hgl : GlobIn E w) : Calls E.P g l.toArray w fun e w' => e = .returned v ∧ Below w.heap.size w w' := by
  have hm : Mem (fun g => g < w.heap.size) w (fun k => k < 0) (fun _ => undef) ([] : Tab E) w := ⟨fun k x h => by simp [look] at h, fun k k' x x' g h => by simp [look] at h, Kept.refl _ _, fun g hg => hg, hgl.ok⟩
  refine (h.calls he hm (slots_vals _ _ l)).mono fun e w' hh => ?_
  obtain ⟨u, μ', e1, e2, e3, e4⟩ := hh
  rw [rel_v.1 e3] at e1
  exact ⟨e1, e4.kept.below (fun g hg => hg)⟩
theorem slots_back (U : Nat → Prop) (μ : Nat → Value) : ∀ (l us : List Value), Slots U μ (l.map .v) us → us = l
  | [], us, h => h
  | _ :: r, us, h => by
    obtain ⟨u, t, rfl, e1, e2⟩ := h
    rw [rel_v.1 e1, slots_back U μ r t e2]
theorem mem_after {E : Env} {S : Nat → Prop} {w w' : World} {μ : Nat → Value} {T : Tab E} (hm : Mem S w (fun k => k < 0) μ T w) (h : Below w.heap.size w w') : Mem S w (fun k => k < 0) μ ([] : Tab E) w' :=
  ⟨fun k x h => by simp [look] at h, fun k k' x x' g h => by simp [look] at h, ⟨h.os, h.tape, h.output, h.size, fun k hk => h.block k (hm.dom.1 k hk)⟩, hm.dom⟩
/-- What a memory says of the package variables of its own world. -/
theorem Mem.globs {E : Env} {S : Nat → Prop} {w0 w : World} {U : Nat → Prop} {μ : Nat → Value} {T : Tab E} (hm : Mem S w0 U μ T w) : GlobIn E w :=
  have h := hm.dom.2.kept hm.dom.1 hm.kept
  ⟨fun g vs hv => (h.1 g vs hv).2, h.2⟩
/-- A callee off the shelf. -/
theorem does_lib {E : Env} {g : Nat} {l : List Value} {v : Value} (he : Enters E g) (h : ∀ w, GlobIn E w → Calls E.P g l.toArray w fun e w' => e = .returned v ∧ Below w.heap.size w w') : Does E g [] 0 (l.map .v) (.v v) [] 0 := by
  intro S w μ vs hm hs
  have e := slots_back _ _ _ _ hs
  subst e
  refine .inr ⟨he _ _, (h w (hm.globs)).mono fun e w' hh => ?_⟩
  exact ⟨v, μ, hh.1, fun _ _ => rfl, rel_v.2 rfl, mem_after hm hh.2⟩
/-- A callee off the shelf of whose answer not all is told. -/
theorem does_libR {E : Env} {g : Nat} {l : List Value} {res : SV} (he : Enters E g) (h : ∀ w, GlobIn E w → Calls E.P g l.toArray w fun e w' => ∃ u, e = .returned u ∧ (∀ U μ, rel U μ res u) ∧ Below w.heap.size w w') : Does E g [] 0 (l.map .v) res [] 0 := by
  intro S w μ vs hm hs
  have e := slots_back _ _ _ _ hs
  subst e
  refine .inr ⟨he _ _, (h w (hm.globs)).mono fun e w' hh => ?_⟩
  obtain ⟨u, e1, e2, e3⟩ := hh
  exact ⟨u, μ, e1, fun _ _ => rfl, e2 _ _, mem_after hm e3⟩
/-- A callee that an older machine has walked. -/
theorem does_run {E : Env} {g : Nat} {l : List Value} {v : Value} (h : ∀ w : World, (callFunc g l.toArray).run E.P w = .ok (.value v) w ∨ (callFunc g l.toArray).run E.P w = .ok (.enter g l.toArray) w ∧ Calls E.P g l.toArray w fun e w' => e = .returned v ∧ Below w.heap.size w w') : Does E g [] 0 (l.map .v) (.v v) [] 0 := by
  intro S w μ vs hm hs
  have e := slots_back _ _ _ _ hs
  subst e
  rcases h w with h1 | ⟨h1, h2⟩
  · exact .inl ⟨v, h1, rel_v.2 rfl, rfl, rfl⟩
  · refine .inr ⟨h1, h2.mono fun e w' hh => ?_⟩
    exact ⟨v, μ, hh.1, fun _ _ => rfl, rel_v.2 rfl, mem_after hm hh.2⟩
end
end Go.Proofs.YtnchjdhepakokaaGreatDoorSx
/- A slice among a law's arguments, of any elements: opened as one list of them, read only. -/
namespace Go.Proofs.YtnchjdhepakokaaGreatDoorSx
open Go.RowKit Go.ChangeShapes Go.WideShapes
set_option linter.unusedVariables false
section
variable {H : Type} {enc : TypeId × Value → H} {P : Program} {w : World} {base : Nat} {spare : Nat → Bool} {held : Bool}
theorem cells_at {a : Addr} {n : Nat} {vs : List Value} (h : w.cells? base a n = some vs) : vs.length = n ∧ ∀ j u, vs[j]? = some u → w.cell? (a.add j) = some u := by
  unfold World.cells? at h
  split at h
  · have hl := mapM_some_length h
    simp at hl
    refine ⟨hl, fun j u hu => ?_⟩
    have hj : j < n := by
      have := (List.getElem?_eq_some_iff.1 hu).1
      omega
    have := mapM_some_get h j j (by simp [hj])
    rw [this, hu]
  · cases h
/-- One element's data, told by what it is. -/
def Reads (enc : TypeId × Value → H) (P : Program) (w : World) (base : Nat) (spare : Nat → Bool) (held : Bool) (e : TypeId) (F : Fmt) (G : F.α → Prop) : Prop :=
  ∀ n cs x, cs.length = F.sz → DataW.trod enc P w base spare held n e cs = some x → ∃ a, F.enc a = cs ∧ G a
def Opened (w : World) (F : Fmt) (a : Option Addr) (len cap : Nat) (l : List F.α) : Prop :=
  (a = none ∧ len = 0 ∧ cap = 0 ∧ l = []) ∨ ∃ x, a = some x ∧ len ≤ cap ∧ l.length = len ∧ ∀ j u, (cellsF F l)[j]? = some u → w.cell? (x.add j) = some u
theorem addr_add2 (x : Addr) (i j : Nat) : (x.add i).add j = x.add (i + j) := by
  unfold Addr.add
  split <;> (simp_all <;> split <;> simp_all [Nat.add_assoc])
theorem open_row {t e : TypeId} {F : Fmt} {G : F.α → Prop} {a : Option Addr} {len cap : Nat} {d : DataW H} {ps : List MemPlace} (ht : P.underlying t = some (.slice e)) (hsz : P.cellsOf e = F.sz)
    (hone : Reads enc P w base spare held e F G) (h : DataW.Trod enc P w base spare held t (.slice a len cap) d ps) :
    ∃ l : List F.α, l.length = len ∧ (∀ x ∈ l, G x) ∧ Opened w F a len cap l ∧ ((d = .nil ∧ len = 0) ∨ ∃ es rs, d = .slice es rs ∧ es.length = len) := by
  obtain ⟨fuel, hf⟩ := h
  rcases DataW.trod_slice ht hf with ⟨hcs, hx⟩ | ⟨x, l, c, elems, rest, n, _, hcs, hx, _, hl, hm, hlen, hel, _, _⟩
  · simp [Value.cells] at hcs
    obtain ⟨rfl, rfl, rfl⟩ := hcs
    exact ⟨[], rfl, fun x hx => by simp at hx, .inl ⟨rfl, rfl, rfl, rfl⟩, .inl ⟨(Prod.mk.inj hx).1, rfl⟩⟩
  · simp [Value.cells] at hcs
    obtain ⟨rfl, rfl, rfl⟩ := hcs
    rw [hsz] at hel
    have key : ∀ k, k ≤ len → ∃ L : List F.α, L.length = k ∧ (∀ y ∈ L, G y) ∧ ∀ j u, (cellsF F L)[j]? = some u → w.cell? (x.add j) = some u := by
      intro k
      induction k with
      | zero => exact fun _ => ⟨[], rfl, fun y hy => by simp at hy, fun j u hu => by simp [cellsF] at hu⟩
      | succ k ih =>
        intro hk
        obtain ⟨L, i1, i2, i3⟩ := ih (by omega)
        have he := hel k (by omega)
        cases hc : w.cells? base (x.add (k * F.sz)) F.sz with
        | none =>
          rw [hc] at he
          simp only [Option.bind_none] at he
          have : k < elems.length := by omega
          simp [List.getElem?_eq_getElem this] at he
        | some cs =>
          rw [hc] at he
          simp only [Option.bind_some] at he
          obtain ⟨c1, c2⟩ := cells_at hc
          obtain ⟨b, hb1, hb2⟩ := hone n cs elems[k] c1 (by rw [he]; exact List.getElem?_eq_getElem (by omega))
          refine ⟨L ++ [b], by simp [i1], fun y hy => ?_, fun j u hu => ?_⟩
          · rcases List.mem_append.1 hy with hy | hy
            · exact i2 y hy
            · simp at hy
              subst hy
              exact hb2
          · rw [cellsF_app] at hu
            have hcl := cellsF_length F L
            have hb3 : cellsF F [b] = cs := by simp [cellsF, hb1]
            rw [hb3] at hu
            by_cases hj : j < (cellsF F L).length
            · rw [List.getElem?_append_left hj] at hu
              exact i3 j u hu
            · rw [List.getElem?_append_right (by omega), hcl, i1] at hu
              have := c2 _ u hu
              rw [addr_add2] at this
              rw [← this]
              congr 2
              rw [hcl, i1] at hj
              omega
    obtain ⟨L, i1, i2, i3⟩ := key len (Nat.le_refl _)
    refine ⟨L, i1, i2, .inr ⟨x, rfl, hl, i1, i3⟩, .inr ⟨_, _, (Prod.mk.inj hx).1, by simpa using hlen⟩⟩
theorem reads_num {e : TypeId} {k : IntKind} (he : P.underlying e = some (.int k)) : Reads enc P w base spare held e (numF k) (fun n => (Lit.int k n).wf = true) := by
  intro n cs x _ h
  obtain ⟨z, rfl, _, hw⟩ := DataW.trod_int he h
  exact ⟨z, rfl, hw⟩
theorem reads_u8 {e : TypeId} (he : P.underlying e = some (.int .u8)) : Reads enc P w base spare held e u8F (fun n => (Lit.int .u8 n).wf = true) := by
  intro n cs x _ h
  obtain ⟨z, rfl, _, hw⟩ := DataW.trod_int he h
  exact ⟨z, rfl, hw⟩
theorem reads_str {e : TypeId} (he : P.underlying e = some .string) : Reads enc P w base spare held e strF (fun s => s.size ≤ maxLen) := by
  intro n cs x _ h
  obtain ⟨z, rfl, _, hw⟩ := DataW.trod_string he h
  exact ⟨z, rfl, hw⟩
theorem sized_row {ts : List TypeId} {ds : List (DataW H)} {t e : TypeId} {d : DataW H} {j len B : Nat} (hsz : (DataW.weightsEach P ts ds).all (· ≤ reachBytes) = true) (ht : ts[j]? = some t) (hd : ds[j]? = some d) (hu : P.underlying t = some (.slice e)) (hB : P.bytesOf e = B)
    (h : (d = .nil ∧ len = 0) ∨ ∃ es rs, d = .slice es rs ∧ es.length = len) : len * B ≤ 140737488351232 := by
  rcases h with ⟨_, rfl⟩ | ⟨es, rs, rfl, rfl⟩
  · simp
  · have z := sized_slice hsz ht hd hu
    rw [hB] at z
    exact Nat.le_trans (Nat.mul_le_mul_right _ (Nat.le_add_right _ _)) z
theorem ro_of_opened {F : Fmt} {a : Option Addr} {len cap : Nat} {l : List F.α} (h : Opened w F a len cap l) :
    Ro (fun g => g < w.heap.size) w (.slice a len cap) F.sz l.length (cellsF F l) false := by
  refine ⟨cellsF_length _ _, ?_⟩
  rcases h with ⟨rfl, rfl, rfl, rfl⟩ | ⟨x, rfl, h1, h2, h3⟩
  · exact .inl ⟨rfl, rfl, rfl⟩
  · by_cases h0 : len = 0
    · exact .inr (.inl ⟨by omega, x, cap, by rw [h0]⟩)
    · have hpos := F.pos
      have hlen := cellsF_length F l
      have hlt : 0 < (cellsF F l).length := by rw [hlen]; exact Nat.mul_pos (by omega) hpos
      have hc := h3 0 _ (List.getElem?_eq_getElem hlt)
      rw [show x.add 0 = x by unfold Addr.add; simp] at hc
      have hsp := World.cell?_spot hc
      have hb := World.block_lt_of_cell? w x hc
      obtain ⟨g, off, spot⟩ := x
      simp only at hsp hb
      subst hsp
      refine .inr (.inr ⟨g, off, cap, by rw [h2], by omega, hb, fun j u hu => ?_⟩)
      have := h3 j u hu
      rwa [addr_add] at this
end
section
variable {E : Env}
inductive ArgR (E : Env) where
  | val (v : Value)
  | row (e : TypeId) (v : Value) (l : List (E.fm e).α)
def argSR : Nat → List (ArgR E) → List SV
  | _, [] => []
  | j, .val v :: r => .v v :: argSR j r
  | j, .row _ _ _ :: r => .o j :: argSR (j + 1) r
def argTR : Nat → List (ArgR E) → Tab E
  | _, [] => []
  | j, .val _ :: r => argTR j r
  | j, .row e _ l :: r => (j, .ro e l false) :: argTR (j + 1) r
def argVR : List (ArgR E) → List Value
  | [] => []
  | .val v :: r => v :: argVR r
  | .row _ v _ :: r => v :: argVR r
def rowsR : List (ArgR E) → List Value
  | [] => []
  | .val _ :: r => rowsR r
  | .row _ v _ :: r => v :: rowsR r
def rosR (w : World) : List (ArgR E) → Prop
  | [] => True
  | .val _ :: r => rosR w r
  | .row e v l :: r => Ro (fun g => g < w.heap.size) w v (E.fm e).sz l.length (cellsF (E.fm e) l) false ∧ rosR w r
theorem argsR_ok {w : World} {μ : Nat → Value} {N : Nat} : ∀ (ds : List (ArgR E)) (j : Nat), rosR w ds → j + (rowsR ds).length ≤ N → (∀ i u, (rowsR ds)[i]? = some u → μ (j + i) = u) →
    Slots (fun k => k < N) μ (argSR j ds) (argVR ds) ∧ ∀ k x, YtnchjdhepakokaaGreatDoorSx.look (argTR j ds) k = some x → j ≤ k ∧ k < N ∧ Holds (fun g => g < w.heap.size) w (fun k => k < N) μ w k x ∧ owning x = false
  | [], j, _, _, _ => ⟨slots_nil, fun k x h => by simp [argTR, look] at h⟩
  | .val v :: r, j, hw, hN, hμ => by
    have ih := argsR_ok r j hw hN hμ
    exact ⟨slots_cons.2 ⟨rel_v.2 rfl, ih.1⟩, ih.2⟩
  | .row e v l :: r, j, hw, hN, hμ => by
    simp only [rowsR, List.length_cons] at hN
    obtain ⟨hro, hw⟩ := hw
    have ih := argsR_ok r (j + 1) hw (N := N) (μ := μ) (by omega) (fun i u hi => by
      have := hμ (i + 1) u (by simpa [rowsR] using hi)
      rw [← this]
      congr 1
      omega)
    have h0 := hμ 0 _ rfl
    rw [Nat.add_zero] at h0
    refine ⟨slots_cons.2 ⟨?_, ih.1⟩, fun k x hk => ?_⟩
    · unfold rel
      refine ⟨by omega, h0.symm, ?_⟩
      rw [h0]
      rcases hro.2 with ⟨h1, _⟩ | ⟨_, a, c, h1⟩ | ⟨g, off, cap, h1, _⟩ <;> exact ⟨_, _, _, h1⟩
    · unfold argTR at hk
      rw [look_cons] at hk
      by_cases hkj : k = j
      · rw [if_pos hkj] at hk
        cases hk
        subst hkj
        refine ⟨Nat.le_refl _, by omega, ?_, rfl⟩
        show Ro _ w (μ k) (E.fm e).sz l.length (cellsF (E.fm e) l) false
        rw [h0]
        exact hro
      · rw [if_neg hkj] at hk
        obtain ⟨a1, a2, a3⟩ := ih.2 k x hk
        exact ⟨by omega, a2, a3⟩
/-- From a law's contract to its call, where arguments are slices that are only read. -/
theorem law_ros {g n' : Nat} {T' : Tab E} {v : Value} (ds : List (ArgR E)) (he : Enters E g) (h : Does E g (argTR 0 ds) (rowsR ds).length (argSR 0 ds) (.v v) T' n') (w : World) (hgl : GlobIn E w) (hw : rosR w ds) :
    Calls E.P g (argVR ds).toArray w fun e w' => e = .returned v ∧ Below w.heap.size w w' := by
  have hok := argsR_ok (w := w) (μ := fun i => (rowsR ds).getD i undef) (N := (rowsR ds).length) ds 0 hw (by omega) (fun i u hi => by simp [List.getD, hi])
  have hm : Mem (fun g => g < w.heap.size) w (fun k => k < (rowsR ds).length) (fun i => (rowsR ds).getD i undef) (argTR 0 ds) w := by
    refine ⟨fun k x hk => ?_, fun k k' x x' g hk hk' ho _ _ _ => ?_, Kept.refl _ _, fun g hg => hg, hgl.ok⟩
    · obtain ⟨_, a2, a3, _⟩ := hok.2 k x hk
      exact ⟨a2, a3⟩
    · have := (hok.2 k x hk).2.2.2
      rw [ho] at this
      cases this
  refine (h.calls he hm hok.1).mono fun e w' hh => ?_
  obtain ⟨u, μ', e1, e2, e3, e4⟩ := hh
  rw [rel_v.1 e3] at e1
  exact ⟨e1, e4.kept.below (fun g hg => hg)⟩
end
end Go.Proofs.YtnchjdhepakokaaGreatDoorSx
/- What the calls are seen in: the program, how rows lie, what package-level variables hold; short words for values. -/
namespace Go.Proofs.YtnchjdhepakokaaGreatDoorC
open Go.Proofs Go.Proofs.YtnchjdhepakokaaGreatDoorSx
set_option maxRecDepth 100000
set_option linter.unusedVariables false
abbrev it (n : Int) : Value := .int .i64 n
abbrev iu (n : Int) : Value := .int .u64 n
abbrev ib (n : Int) : Value := .int .u8 n
abbrev nilS : Value := .slice none 0 0
abbrev st (b : ByteArray) : Value := .string b
abbrev bg (h l : Int) (s : Bool) : Value := .agg #[iu h, iu l, .bool s]
abbrev dc (u s : Int) : Value := .agg #[it u, it s]
/-- A value of a row: kind, numbers, bytes. -/
abbrev vl (k n m : Int) (b : ByteArray) : Value := .agg #[it k, it n, it m, st b]
def pow10 : List Int := [1, 10, 100, 1000, 10000, 100000, 1000000, 10000000, 100000000, 1000000000, 10000000000, 100000000000, 1000000000000]
def valF : Fmt where
  α := Int × Int × Int × ByteArray
  d := (0, 0, 0, ByteArray.empty)
  sz := 4
  enc z := [.int .i64 z.1, .int .i64 z.2.1, .int .i64 z.2.2.1, .string z.2.2.2]
  dec
    | [.int .i64 a, .int .i64 b, .int .i64 c, .string s] => some (a, b, c, s)
    | _ => none
  str := none
  toS := none
  pos := by decide
  len _ := rfl
  inv vs a h := by
    split at h
    · simp only [Option.some.injEq] at h
      rw [← h]
    · cases h
  one a v hv := by
    simp only [List.mem_cons, List.not_mem_nil, or_false] at hv
    rcases hv with h | h | h | h <;> rw [h] <;> rfl
  strOk f h := by cases h
  toSOk f h := by cases h
/-- The two tables of unicode/utf8. -/
def firstL : List Int := (List.range 256).map fun c => (Lib.firstT c : Int)
def accL : List Int := (List.range 16).flatMap fun i => [(Lib.accLo i : Int), (Lib.accHi i : Int)]
noncomputable def cE : Env where
  P := Tryz.prog
  fm := fun e => bif Nat.beq e 5 then u8F else bif Nat.beq e 9 then strF else bif Nat.beq e 25 then valF else numF .i64
  gl := fun g => bif Nat.beq g 2 then .ints .u64 pow10 else bif Nat.beq g 0 then .ints .u8 firstL else bif Nat.beq g 1 then .ints .u8 accL else .no
  ga := fun g => bif Nat.beq g 3 then some (fun v => ∃ m, v = .int .i64 m) else none
theorem mixed : cE.P.follows .mixedOrders = true := by kernel_rfl
abbrev bd (fn : Func) : Code := fn.body.getD .skip
noncomputable def ct : Table cE := callT cE 2000 (fun _ => none) 8
theorem ctOk : TableOk cE ct := callT_ok mixed 2000 _ 8
def rep {α : Type} (n : Nat) (l : List α) : List α := (List.replicate n l).flatten
abbrev strL (s : ByteArray) : List Int := s.data.toList.map fun b => (b.toNat : Int)
abbrev bytesOf (l : List Int) : ByteArray := l.foldl (fun r n => r.push (UInt8.ofNat n.toNat)) ByteArray.empty
end Go.Proofs.YtnchjdhepakokaaGreatDoorC
/- Each path of each function: on which conditions it is taken, what it gives. Printed by a program (wip/tools/sxexp2.lean); Lean checks each. -/
namespace Go.Proofs.YtnchjdhepakokaaGreatDoorC
open Go.Proofs Go.Proofs.YtnchjdhepakokaaGreatDoorSx
set_option maxRecDepth 100000
set_option linter.unusedVariables false

theorem pOf_1 (t : Int) (h0 : (t == 0) = true) (h1 : (t == 2) = true) : Does cE 83 [] 0 [.v (it t)] (.v (.agg #[(.int .i64 (0)), (.int .i64 (0)), (.int .i64 (0)), (.string ((ByteArray.mk #[])))])) [] 0 :=
  does_path (ct := ct) ctOk mixed (fn := Tryz.f83) rfl (by kernel_rfl) 2000 [.e, .t, .t, .t, .l, .t] (by kernel_rfl) (cj h0 (cj h0 (cj h0 (cj h1 cj0))))
theorem pOf_2 (t : Int) (h0 : (t == 0) = true) (h1 : (t == 2) = false) : Does cE 83 [] 0 [.v (it t)] (.v (.agg #[(.int .i64 (4)), (.int .i64 (t)), (.int .i64 (0)), (.string ((ByteArray.mk #[])))])) [] 0 :=
  does_path (ct := ct) ctOk mixed (fn := Tryz.f83) rfl (by kernel_rfl) 2000 [.e, .t, .t, .t, .l, .f] (by kernel_rfl) (cj h0 (cj h0 (cj h0 (cj h1 cj0))))
theorem pOf_3 (t : Int) (h0 : (t == 0) = false) (h1 : (t == 1) = true) (h2 : (t == 2) = true) : Does cE 83 [] 0 [.v (it t)] (.v (.agg #[(.int .i64 (0)), (.int .i64 (0)), (.int .i64 (0)), (.string ((ByteArray.mk #[])))])) [] 0 :=
  does_path (ct := ct) ctOk mixed (fn := Tryz.f83) rfl (by kernel_rfl) 2000 [.e, .f, .f, .f, .t, .t] (by kernel_rfl) (cj h0 (cj h0 (cj h0 (cj h1 (cj h2 cj0)))))
theorem pOf_4 (t : Int) (h0 : (t == 0) = false) (h1 : (t == 1) = true) (h2 : (t == 2) = false) : Does cE 83 [] 0 [.v (it t)] (.v (.agg #[(.int .i64 (4)), (.int .i64 (t)), (.int .i64 (0)), (.string ((ByteArray.mk #[])))])) [] 0 :=
  does_path (ct := ct) ctOk mixed (fn := Tryz.f83) rfl (by kernel_rfl) 2000 [.e, .f, .f, .f, .t, .f] (by kernel_rfl) (cj h0 (cj h0 (cj h0 (cj h1 (cj h2 cj0)))))
theorem pOf_5 (t : Int) (h0 : (t == 0) = false) (h1 : (t == 1) = false) : Does cE 83 [] 0 [.v (it t)] (.v (.agg #[(.int .i64 (0)), (.int .i64 (0)), (.int .i64 (0)), (.string ((ByteArray.mk #[])))])) [] 0 :=
  does_path (ct := ct) ctOk mixed (fn := Tryz.f83) rfl (by kernel_rfl) 2000 [.e, .f, .f, .f, .f, .l] (by kernel_rfl) (cj h0 (cj h0 (cj h0 (cj h1 cj0))))
theorem pNot_1 (a : Int) (h0 : (a == 0) = true) (h1 : (a == 2) = true) : Does cE 47 [] 0 [.v (it a)] (.v (.int .i64 (2))) [] 0 :=
  does_path (ct := ct) ctOk mixed (fn := Tryz.f47) rfl (by kernel_rfl) 2000 [.e, .t, .t, .t, .l, .t] (by kernel_rfl) (cj h0 (cj h0 (cj h0 (cj h1 cj0))))
theorem pNot_2 (a : Int) (h0 : (a == 0) = true) (h1 : (a == 2) = false) : Does cE 47 [] 0 [.v (it a)] (.v (.int .i64 (IntKind.i64.wrap (1 - a)))) [] 0 :=
  does_path (ct := ct) ctOk mixed (fn := Tryz.f47) rfl (by kernel_rfl) 2000 [.e, .t, .t, .t, .l, .f] (by kernel_rfl) (cj h0 (cj h0 (cj h0 (cj h1 cj0))))
theorem pNot_3 (a : Int) (h0 : (a == 0) = false) (h1 : (a == 1) = true) (h2 : (a == 2) = true) : Does cE 47 [] 0 [.v (it a)] (.v (.int .i64 (2))) [] 0 :=
  does_path (ct := ct) ctOk mixed (fn := Tryz.f47) rfl (by kernel_rfl) 2000 [.e, .f, .f, .f, .t, .t] (by kernel_rfl) (cj h0 (cj h0 (cj h0 (cj h1 (cj h2 cj0)))))
theorem pNot_4 (a : Int) (h0 : (a == 0) = false) (h1 : (a == 1) = true) (h2 : (a == 2) = false) : Does cE 47 [] 0 [.v (it a)] (.v (.int .i64 (IntKind.i64.wrap (1 - a)))) [] 0 :=
  does_path (ct := ct) ctOk mixed (fn := Tryz.f47) rfl (by kernel_rfl) 2000 [.e, .f, .f, .f, .t, .f] (by kernel_rfl) (cj h0 (cj h0 (cj h0 (cj h1 (cj h2 cj0)))))
theorem pNot_5 (a : Int) (h0 : (a == 0) = false) (h1 : (a == 1) = false) : Does cE 47 [] 0 [.v (it a)] (.v (.int .i64 (2))) [] 0 :=
  does_path (ct := ct) ctOk mixed (fn := Tryz.f47) rfl (by kernel_rfl) 2000 [.e, .f, .f, .f, .f, .l] (by kernel_rfl) (cj h0 (cj h0 (cj h0 (cj h1 cj0))))
theorem pOr_1 (a b : Int) (h0 : (a == 0) = true) (h1 : (b == 0) = true) (h2 : (a == 1) = true) : Does cE 46 [] 0 [.v (it a), .v (it b)] (.v (.int .i64 (1))) [] 0 :=
  does_path (ct := ct) ctOk mixed (fn := Tryz.f46) rfl (by kernel_rfl) 2000 [.e, .t, .t, .t, .l, .e, .t, .t, .t, .l, .t, .t, .t, .l] (by kernel_rfl) (cj h0 (cj h0 (cj h0 (cj h1 (cj h1 (cj h1 (cj h2 (cj h2 (cj h2 cj0)))))))))
theorem pOr_2 (a b : Int) (h0 : (a == 0) = true) (h1 : (b == 0) = true) (h2 : (a == 1) = false) (h3 : (b == 1) = true) : Does cE 46 [] 0 [.v (it a), .v (it b)] (.v (.int .i64 (1))) [] 0 :=
  does_path (ct := ct) ctOk mixed (fn := Tryz.f46) rfl (by kernel_rfl) 2000 [.e, .t, .t, .t, .l, .e, .t, .t, .t, .l, .f, .f, .f, .t] (by kernel_rfl) (cj h0 (cj h0 (cj h0 (cj h1 (cj h1 (cj h1 (cj h2 (cj h2 (cj h2 (cj h3 cj0))))))))))
theorem pOr_3 (a b : Int) (h0 : (a == 0) = true) (h1 : (b == 0) = true) (h2 : (a == 1) = false) (h3 : (b == 1) = false) : Does cE 46 [] 0 [.v (it a), .v (it b)] (.v (.int .i64 (if b > a then b else a))) [] 0 :=
  does_path (ct := ct) ctOk mixed (fn := Tryz.f46) rfl (by kernel_rfl) 2000 [.e, .t, .t, .t, .l, .e, .t, .t, .t, .l, .f, .f, .f, .f] (by kernel_rfl) (cj h0 (cj h0 (cj h0 (cj h1 (cj h1 (cj h1 (cj h2 (cj h2 (cj h2 (cj h3 cj0))))))))))
theorem pOr_4 (a b : Int) (h0 : (a == 0) = true) (h1 : (b == 0) = false) (h2 : (b == 1) = true) (h3 : (a == 1) = true) : Does cE 46 [] 0 [.v (it a), .v (it b)] (.v (.int .i64 (1))) [] 0 :=
  does_path (ct := ct) ctOk mixed (fn := Tryz.f46) rfl (by kernel_rfl) 2000 [.e, .t, .t, .t, .l, .e, .f, .f, .f, .t, .t, .t, .t, .l] (by kernel_rfl) (cj h0 (cj h0 (cj h0 (cj h1 (cj h1 (cj h1 (cj h2 (cj h3 (cj h3 (cj h3 cj0))))))))))
theorem pOr_5 (a b : Int) (h0 : (a == 0) = true) (h1 : (b == 0) = false) (h2 : (b == 1) = true) (h3 : (a == 1) = false) : Does cE 46 [] 0 [.v (it a), .v (it b)] (.v (.int .i64 (1))) [] 0 :=
  does_path (ct := ct) ctOk mixed (fn := Tryz.f46) rfl (by kernel_rfl) 2000 [.e, .t, .t, .t, .l, .e, .f, .f, .f, .t, .f, .f, .f, .t] (by kernel_rfl) (cj h0 (cj h0 (cj h0 (cj h1 (cj h1 (cj h1 (cj h2 (cj h3 (cj h3 (cj h3 (cj h2 cj0)))))))))))
theorem pOr_6 (a b : Int) (h0 : (a == 0) = true) (h1 : (b == 0) = false) (h2 : (b == 1) = false) (h3 : (a == 1) = true) : Does cE 46 [] 0 [.v (it a), .v (it b)] (.v (.int .i64 (1))) [] 0 :=
  does_path (ct := ct) ctOk mixed (fn := Tryz.f46) rfl (by kernel_rfl) 2000 [.e, .t, .t, .t, .l, .e, .f, .f, .f, .f, .t, .t, .t, .l] (by kernel_rfl) (cj h0 (cj h0 (cj h0 (cj h1 (cj h1 (cj h1 (cj h2 (cj h3 (cj h3 (cj h3 cj0))))))))))
theorem pOr_7 (a b : Int) (h0 : (a == 0) = true) (h1 : (b == 0) = false) (h2 : (b == 1) = false) (h3 : (a == 1) = false) : Does cE 46 [] 0 [.v (it a), .v (it b)] (.v (.int .i64 (if 2 > a then 2 else a))) [] 0 :=
  does_path (ct := ct) ctOk mixed (fn := Tryz.f46) rfl (by kernel_rfl) 2000 [.e, .t, .t, .t, .l, .e, .f, .f, .f, .f, .f, .f, .f, .l] (by kernel_rfl) (cj h0 (cj h0 (cj h0 (cj h1 (cj h1 (cj h1 (cj h2 (cj h3 (cj h3 (cj h3 cj0))))))))))
theorem pOr_8 (a b : Int) (h0 : (a == 0) = false) (h1 : (a == 1) = true) (h2 : (b == 0) = true) : Does cE 46 [] 0 [.v (it a), .v (it b)] (.v (.int .i64 (1))) [] 0 :=
  does_path (ct := ct) ctOk mixed (fn := Tryz.f46) rfl (by kernel_rfl) 2000 [.e, .f, .f, .f, .t, .e, .t, .t, .t, .l, .t, .t, .t, .l] (by kernel_rfl) (cj h0 (cj h0 (cj h0 (cj h1 (cj h2 (cj h2 (cj h2 (cj h1 (cj h1 (cj h1 cj0))))))))))
theorem pOr_9 (a b : Int) (h0 : (a == 0) = false) (h1 : (a == 1) = true) (h2 : (b == 0) = false) (h3 : (b == 1) = true) : Does cE 46 [] 0 [.v (it a), .v (it b)] (.v (.int .i64 (1))) [] 0 :=
  does_path (ct := ct) ctOk mixed (fn := Tryz.f46) rfl (by kernel_rfl) 2000 [.e, .f, .f, .f, .t, .e, .f, .f, .f, .t, .t, .t, .t, .l] (by kernel_rfl) (cj h0 (cj h0 (cj h0 (cj h1 (cj h2 (cj h2 (cj h2 (cj h3 (cj h1 (cj h1 (cj h1 cj0)))))))))))
theorem pOr_10 (a b : Int) (h0 : (a == 0) = false) (h1 : (a == 1) = true) (h2 : (b == 0) = false) (h3 : (b == 1) = false) : Does cE 46 [] 0 [.v (it a), .v (it b)] (.v (.int .i64 (1))) [] 0 :=
  does_path (ct := ct) ctOk mixed (fn := Tryz.f46) rfl (by kernel_rfl) 2000 [.e, .f, .f, .f, .t, .e, .f, .f, .f, .f, .t, .t, .t, .l] (by kernel_rfl) (cj h0 (cj h0 (cj h0 (cj h1 (cj h2 (cj h2 (cj h2 (cj h3 (cj h1 (cj h1 (cj h1 cj0)))))))))))
theorem pOr_11 (a b : Int) (h0 : (a == 0) = false) (h1 : (a == 1) = false) (h2 : (b == 0) = true) (h3 : (b == 1) = true) : Does cE 46 [] 0 [.v (it a), .v (it b)] (.v (.int .i64 (1))) [] 0 :=
  does_path (ct := ct) ctOk mixed (fn := Tryz.f46) rfl (by kernel_rfl) 2000 [.e, .f, .f, .f, .f, .e, .t, .t, .t, .l, .l, .l, .l, .t] (by kernel_rfl) (cj h0 (cj h0 (cj h0 (cj h1 (cj h2 (cj h2 (cj h2 (cj h3 cj0))))))))
theorem pOr_12 (a b : Int) (h0 : (a == 0) = false) (h1 : (a == 1) = false) (h2 : (b == 0) = true) (h3 : (b == 1) = false) : Does cE 46 [] 0 [.v (it a), .v (it b)] (.v (.int .i64 (if b > 2 then b else 2))) [] 0 :=
  does_path (ct := ct) ctOk mixed (fn := Tryz.f46) rfl (by kernel_rfl) 2000 [.e, .f, .f, .f, .f, .e, .t, .t, .t, .l, .l, .l, .l, .f] (by kernel_rfl) (cj h0 (cj h0 (cj h0 (cj h1 (cj h2 (cj h2 (cj h2 (cj h3 cj0))))))))
theorem pOr_13 (a b : Int) (h0 : (a == 0) = false) (h1 : (a == 1) = false) (h2 : (b == 0) = false) (h3 : (b == 1) = true) : Does cE 46 [] 0 [.v (it a), .v (it b)] (.v (.int .i64 (1))) [] 0 :=
  does_path (ct := ct) ctOk mixed (fn := Tryz.f46) rfl (by kernel_rfl) 2000 [.e, .f, .f, .f, .f, .e, .f, .f, .f, .t, .l, .l, .l, .t] (by kernel_rfl) (cj h0 (cj h0 (cj h0 (cj h1 (cj h2 (cj h2 (cj h2 (cj h3 (cj h3 cj0)))))))))
theorem pOr_14 (a b : Int) (h0 : (a == 0) = false) (h1 : (a == 1) = false) (h2 : (b == 0) = false) (h3 : (b == 1) = false) : Does cE 46 [] 0 [.v (it a), .v (it b)] (.v (.int .i64 (if 2 > 2 then 2 else 2))) [] 0 :=
  does_path (ct := ct) ctOk mixed (fn := Tryz.f46) rfl (by kernel_rfl) 2000 [.e, .f, .f, .f, .f, .e, .f, .f, .f, .f, .l, .l, .l, .l] (by kernel_rfl) (cj h0 (cj h0 (cj h0 (cj h1 (cj h2 (cj h2 (cj h2 (cj h3 cj0))))))))
theorem pAnd_1 (a b : Int) (i0 : Int) (i1 : Int) (i2 : Int) (i3 : Int) (h0 : Does cE 47 [] 0 [.v (.int .i64 (a))] (.v (.int .i64 (i0))) [] 0) (h1 : Does cE 47 [] 0 [.v (.int .i64 (b))] (.v (.int .i64 (i1))) [] 0) (h2 : Does cE 46 [] 0 [.v (.int .i64 (i0)), .v (.int .i64 (i1))] (.v (.int .i64 (i2))) [] 0) (h3 : Does cE 47 [] 0 [.v (.int .i64 (i2))] (.v (.int .i64 (i3))) [] 0) : Does cE 45 [] 0 [.v (it a), .v (it b)] (.v (.int .i64 (i3))) [] 0 :=
  does_path (ct := ct) ctOk mixed (fn := Tryz.f45) rfl (by kernel_rfl) 2000 [.c (.v (.int .i64 (i0))) [] 0, .c (.v (.int .i64 (i1))) [] 0, .c (.v (.int .i64 (i2))) [] 0, .c (.v (.int .i64 (i3))) [] 0] (by kernel_rfl) (cj h0 (cj h1 (cj h2 (cj h3 cj0))))
theorem pTr_1 (k n m : Int) (s : ByteArray) (h0 : (k == 0 && (n == 0 && (m == 0 && (s == (ByteArray.mk #[]) && true)))) = true) : Does cE 82 [] 0 [.v (vl k n m s)] (.v (.tuple #[(.int .i64 (2)), (.bool (true))])) [] 0 :=
  does_path (ct := ct) ctOk mixed (fn := Tryz.f82) rfl (by kernel_rfl) 2000 [.t] (by kernel_rfl) (cj h0 cj0)
theorem pTr_2 (k n m : Int) (s : ByteArray) (b0 : Bool) (h0 : (k == 0 && (n == 0 && (m == 0 && (s == (ByteArray.mk #[]) && true)))) = false) (h1 : (k == 4) = true) (h2 : Does cE 49 [] 0 [.v (.agg #[(.int .i64 (k)), (.int .i64 (n)), (.int .i64 (m)), (.string (s))])] (.v (.bool (b0))) [] 0) (h3 : b0 = true) : Does cE 82 [] 0 [.v (vl k n m s)] (.v (.tuple #[(.int .i64 (n)), (.bool (true))])) [] 0 :=
  does_path (ct := ct) ctOk mixed (fn := Tryz.f82) rfl (by kernel_rfl) 2000 [.f, .t, .t, .c (.v (.bool (b0))) [] 0, .t, .t] (by kernel_rfl) (cj h0 (cj h1 (cj h1 (cj h2 (cj h1 (cj h3 cj0))))))
theorem pTr_3 (k n m : Int) (s : ByteArray) (b0 : Bool) (h0 : (k == 0 && (n == 0 && (m == 0 && (s == (ByteArray.mk #[]) && true)))) = false) (h1 : (k == 4) = true) (h2 : Does cE 49 [] 0 [.v (.agg #[(.int .i64 (k)), (.int .i64 (n)), (.int .i64 (m)), (.string (s))])] (.v (.bool (b0))) [] 0) (h3 : b0 = false) : Does cE 82 [] 0 [.v (vl k n m s)] (.v (.tuple #[(.int .i64 (2)), (.bool (false))])) [] 0 :=
  does_path (ct := ct) ctOk mixed (fn := Tryz.f82) rfl (by kernel_rfl) 2000 [.f, .t, .t, .c (.v (.bool (b0))) [] 0, .t, .f] (by kernel_rfl) (cj h0 (cj h1 (cj h1 (cj h2 (cj h1 (cj h3 cj0))))))
theorem pTr_4 (k n m : Int) (s : ByteArray) (h0 : (k == 0 && (n == 0 && (m == 0 && (s == (ByteArray.mk #[]) && true)))) = false) (h1 : (k == 4) = false) : Does cE 82 [] 0 [.v (vl k n m s)] (.v (.tuple #[(.int .i64 (2)), (.bool (false))])) [] 0 :=
  does_path (ct := ct) ctOk mixed (fn := Tryz.f82) rfl (by kernel_rfl) 2000 [.f, .f, .f, .f, .l] (by kernel_rfl) (cj h0 (cj h1 (cj h1 (cj h1 cj0))))
theorem pRt_1 (k n m : Int) (s : ByteArray) (h0 : (k == 0) = true) : Does cE 49 [] 0 [.v (vl k n m s)] (.v (.bool (k == 0 && (n == 0 && (m == 0 && (s == (ByteArray.mk #[]) && true)))))) [] 0 :=
  does_path (ct := ct) ctOk mixed (fn := Tryz.f49) rfl (by kernel_rfl) 2000 [.t] (by kernel_rfl) (cj h0 cj0)
theorem pRt_2 (k n m : Int) (s : ByteArray) (h0 : (k == 0) = false) (h1 : (k == 1) = true) : Does cE 49 [] 0 [.v (vl k n m s)] (.v (.bool (k == 1 && (n == n && (m == 0 && (s == (ByteArray.mk #[]) && true)))))) [] 0 :=
  does_path (ct := ct) ctOk mixed (fn := Tryz.f49) rfl (by kernel_rfl) 2000 [.f, .t] (by kernel_rfl) (cj h0 (cj h1 cj0))
theorem pRt_3 (k n m : Int) (s : ByteArray) (b0 : Bool) (h0 : (k == 0) = false) (h1 : (k == 1) = false) (h2 : (k == 2) = true) (h3 : (s.toList == (ByteArray.mk #[]).toList) = true) (h4 : Does cE 124 [] 0 [.v (.agg #[(.int .i64 (n)), (.int .i64 (m))])] (.v (.bool (b0))) [] 0) : Does cE 49 [] 0 [.v (vl k n m s)] (.v (.bool (b0))) [] 0 :=
  does_path (ct := ct) ctOk mixed (fn := Tryz.f49) rfl (by kernel_rfl) 2000 [.f, .f, .t, .t, .t, .e, .t, .c (.v (.bool (b0))) [] 0, .t] (by kernel_rfl) (cj h0 (cj h1 (cj h2 (cj h3 (cj h3 (cj h3 (cj h4 (cj h3 cj0))))))))
theorem pRt_4 (k n m : Int) (s : ByteArray) (h0 : (k == 0) = false) (h1 : (k == 1) = false) (h2 : (k == 2) = true) (h3 : (s.toList == (ByteArray.mk #[]).toList) = false) : Does cE 49 [] 0 [.v (vl k n m s)] (.v (.bool (false))) [] 0 :=
  does_path (ct := ct) ctOk mixed (fn := Tryz.f49) rfl (by kernel_rfl) 2000 [.f, .f, .t, .f, .f, .f, .f] (by kernel_rfl) (cj h0 (cj h1 (cj h2 (cj h3 (cj h3 (cj h3 (cj h3 cj0)))))))
theorem pRt_5 (k n m : Int) (s : ByteArray) (b0 : Bool) (h0 : (k == 0) = false) (h1 : (k == 1) = false) (h2 : (k == 2) = false) (h3 : (k == 3) = true) (h4 : (k == 3 && (n == 0 && (m == 0 && (s == s && true)))) = true) (h5 : decide ((s.size : Int) ≤ 256) = true) (h6 : Does cE 125 [] 0 [.v (.string (s))] (.v (.bool (b0))) [] 0) : Does cE 49 [] 0 [.v (vl k n m s)] (.v (.bool (b0))) [] 0 :=
  does_path (ct := ct) ctOk mixed (fn := Tryz.f49) rfl (by kernel_rfl) 2000 [.f, .f, .f, .t, .t, .t, .t, .t, .t, .t, .t, .t, .c (.v (.bool (b0))) [] 0, .t] (by kernel_rfl) (cj h0 (cj h1 (cj h2 (cj h3 (cj h4 (cj h4 (cj h4 (cj h4 (cj h4 (cj h5 (cj h5 (cj h5 (cj h6 (cj h5 cj0))))))))))))))
theorem pRt_6 (k n m : Int) (s : ByteArray) (h0 : (k == 0) = false) (h1 : (k == 1) = false) (h2 : (k == 2) = false) (h3 : (k == 3) = true) (h4 : (k == 3 && (n == 0 && (m == 0 && (s == s && true)))) = true) (h5 : decide ((s.size : Int) ≤ 256) = false) : Does cE 49 [] 0 [.v (vl k n m s)] (.v (.bool (false))) [] 0 :=
  does_path (ct := ct) ctOk mixed (fn := Tryz.f49) rfl (by kernel_rfl) 2000 [.f, .f, .f, .t, .t, .t, .t, .t, .t, .f, .f, .f, .f] (by kernel_rfl) (cj h0 (cj h1 (cj h2 (cj h3 (cj h4 (cj h4 (cj h4 (cj h4 (cj h4 (cj h5 (cj h5 (cj h5 (cj h5 cj0)))))))))))))
theorem pRt_7 (k n m : Int) (s : ByteArray) (h0 : (k == 0) = false) (h1 : (k == 1) = false) (h2 : (k == 2) = false) (h3 : (k == 3) = true) (h4 : (k == 3 && (n == 0 && (m == 0 && (s == s && true)))) = false) : Does cE 49 [] 0 [.v (vl k n m s)] (.v (.bool (false))) [] 0 :=
  does_path (ct := ct) ctOk mixed (fn := Tryz.f49) rfl (by kernel_rfl) 2000 [.f, .f, .f, .t, .f, .f, .f, .f, .f, .l, .f, .l, .l] (by kernel_rfl) (cj h0 (cj h1 (cj h2 (cj h3 (cj h4 (cj h4 (cj h4 (cj h4 (cj h4 (cj (rfl : false = false) cj0))))))))))
theorem pRt_8 (k n m : Int) (s : ByteArray) (i0 : Int) (i1 : Int) (i2 : Int) (s3 : ByteArray) (h0 : (k == 0) = false) (h1 : (k == 1) = false) (h2 : (k == 2) = false) (h3 : (k == 3) = false) (h4 : (k == 4) = true) (h5 : Does cE 83 [] 0 [.v (.int .i64 (0))] (.v (.agg #[(.int .i64 (i0)), (.int .i64 (i1)), (.int .i64 (i2)), (.string (s3))])) [] 0) (h6 : (k == i0 && (n == i1 && (m == i2 && (s == s3 && true)))) = true) : Does cE 49 [] 0 [.v (vl k n m s)] (.v (.bool (true))) [] 0 :=
  does_path (ct := ct) ctOk mixed (fn := Tryz.f49) rfl (by kernel_rfl) 2000 [.f, .f, .f, .f, .t, .c (.v (.agg #[(.int .i64 (i0)), (.int .i64 (i1)), (.int .i64 (i2)), (.string (s3))])) [] 0, .t, .t, .t, .t] (by kernel_rfl) (cj h0 (cj h1 (cj h2 (cj h3 (cj h4 (cj h5 (cj h6 (cj h6 (cj h6 (cj h6 cj0))))))))))
theorem pRt_9 (k n m : Int) (s : ByteArray) (i0 : Int) (i1 : Int) (i2 : Int) (s3 : ByteArray) (i4 : Int) (i5 : Int) (i6 : Int) (s7 : ByteArray) (h0 : (k == 0) = false) (h1 : (k == 1) = false) (h2 : (k == 2) = false) (h3 : (k == 3) = false) (h4 : (k == 4) = true) (h5 : Does cE 83 [] 0 [.v (.int .i64 (0))] (.v (.agg #[(.int .i64 (i0)), (.int .i64 (i1)), (.int .i64 (i2)), (.string (s3))])) [] 0) (h6 : (k == i0 && (n == i1 && (m == i2 && (s == s3 && true)))) = false) (h7 : Does cE 83 [] 0 [.v (.int .i64 (1))] (.v (.agg #[(.int .i64 (i4)), (.int .i64 (i5)), (.int .i64 (i6)), (.string (s7))])) [] 0) : Does cE 49 [] 0 [.v (vl k n m s)] (.v (.bool (k == i4 && (n == i5 && (m == i6 && (s == s7 && true)))))) [] 0 :=
  does_path (ct := ct) ctOk mixed (fn := Tryz.f49) rfl (by kernel_rfl) 2000 [.f, .f, .f, .f, .t, .c (.v (.agg #[(.int .i64 (i0)), (.int .i64 (i1)), (.int .i64 (i2)), (.string (s3))])) [] 0, .f, .f, .c (.v (.agg #[(.int .i64 (i4)), (.int .i64 (i5)), (.int .i64 (i6)), (.string (s7))])) [] 0, .f, .f] (by kernel_rfl) (cj h0 (cj h1 (cj h2 (cj h3 (cj h4 (cj h5 (cj h6 (cj h6 (cj h7 (cj h6 (cj h6 cj0)))))))))))
theorem pRt_10 (k n m : Int) (s : ByteArray) (b0 : Bool) (h0 : (k == 0) = false) (h1 : (k == 1) = false) (h2 : (k == 2) = false) (h3 : (k == 3) = false) (h4 : (k == 4) = false) (h5 : (k == 5) = true) (h6 : (s.toList == (ByteArray.mk #[]).toList) = true) (h7 : Does cE 126 [] 0 [.v (.agg #[(.int .i64 (n)), (.int .i64 (m))])] (.v (.bool (b0))) [] 0) : Does cE 49 [] 0 [.v (vl k n m s)] (.v (.bool (b0))) [] 0 :=
  does_path (ct := ct) ctOk mixed (fn := Tryz.f49) rfl (by kernel_rfl) 2000 [.f, .f, .f, .f, .f, .t, .t, .t, .e, .t, .c (.v (.bool (b0))) [] 0, .t] (by kernel_rfl) (cj h0 (cj h1 (cj h2 (cj h3 (cj h4 (cj h5 (cj h6 (cj h6 (cj h6 (cj h7 (cj h6 cj0)))))))))))
theorem pRt_11 (k n m : Int) (s : ByteArray) (h0 : (k == 0) = false) (h1 : (k == 1) = false) (h2 : (k == 2) = false) (h3 : (k == 3) = false) (h4 : (k == 4) = false) (h5 : (k == 5) = true) (h6 : (s.toList == (ByteArray.mk #[]).toList) = false) : Does cE 49 [] 0 [.v (vl k n m s)] (.v (.bool (false))) [] 0 :=
  does_path (ct := ct) ctOk mixed (fn := Tryz.f49) rfl (by kernel_rfl) 2000 [.f, .f, .f, .f, .f, .t, .f, .f, .f, .f] (by kernel_rfl) (cj h0 (cj h1 (cj h2 (cj h3 (cj h4 (cj h5 (cj h6 (cj h6 (cj h6 (cj h6 cj0))))))))))
theorem pRt_12 (k n m : Int) (s : ByteArray) (h0 : (k == 0) = false) (h1 : (k == 1) = false) (h2 : (k == 2) = false) (h3 : (k == 3) = false) (h4 : (k == 4) = false) (h5 : (k == 5) = false) : Does cE 49 [] 0 [.v (vl k n m s)] (.v (.bool (false))) [] 0 :=
  does_path (ct := ct) ctOk mixed (fn := Tryz.f49) rfl (by kernel_rfl) 2000 [.f, .f, .f, .f, .f, .f] (by kernel_rfl) (cj h0 (cj h1 (cj h2 (cj h3 (cj h4 (cj h5 cj0))))))
theorem rOf_1 (t : Int) (h0 : (t == 0) = true) : Does cE 85 [] 0 [.v (it t)] (.v (.agg #[(.int .i64 (4)), (.int .i64 (t)), (.int .i64 (0)), (.string ((ByteArray.mk #[])))])) [] 0 :=
  does_path (ct := ct) ctOk mixed (fn := Tryz.f85) rfl (by kernel_rfl) 2000 [.t, .t, .t, .l] (by kernel_rfl) (cj h0 (cj h0 (cj h0 cj0)))
theorem rOf_2 (t : Int) (h0 : (t == 0) = false) (h1 : (t == 1) = true) : Does cE 85 [] 0 [.v (it t)] (.v (.agg #[(.int .i64 (4)), (.int .i64 (t)), (.int .i64 (0)), (.string ((ByteArray.mk #[])))])) [] 0 :=
  does_path (ct := ct) ctOk mixed (fn := Tryz.f85) rfl (by kernel_rfl) 2000 [.f, .f, .f, .t] (by kernel_rfl) (cj h0 (cj h0 (cj h0 (cj h1 cj0))))
theorem rOf_3 (t : Int) (h0 : (t == 0) = false) (h1 : (t == 1) = false) : Does cE 85 [] 0 [.v (it t)] (.v (.agg #[(.int .i64 (0)), (.int .i64 (0)), (.int .i64 (0)), (.string ((ByteArray.mk #[])))])) [] 0 :=
  does_path (ct := ct) ctOk mixed (fn := Tryz.f85) rfl (by kernel_rfl) 2000 [.f, .f, .f, .f] (by kernel_rfl) (cj h0 (cj h0 (cj h0 (cj h1 cj0))))
theorem rNot_1 (a : Int) (h0 : (a == 0) = true) : Does cE 87 [] 0 [.v (it a)] (.v (.int .i64 (IntKind.i64.wrap (1 - a)))) [] 0 :=
  does_path (ct := ct) ctOk mixed (fn := Tryz.f87) rfl (by kernel_rfl) 2000 [.t, .t, .t, .l] (by kernel_rfl) (cj h0 (cj h0 (cj h0 cj0)))
theorem rNot_2 (a : Int) (h0 : (a == 0) = false) (h1 : (a == 1) = true) : Does cE 87 [] 0 [.v (it a)] (.v (.int .i64 (IntKind.i64.wrap (1 - a)))) [] 0 :=
  does_path (ct := ct) ctOk mixed (fn := Tryz.f87) rfl (by kernel_rfl) 2000 [.f, .f, .f, .t] (by kernel_rfl) (cj h0 (cj h0 (cj h0 (cj h1 cj0))))
theorem rNot_3 (a : Int) (h0 : (a == 0) = false) (h1 : (a == 1) = false) : Does cE 87 [] 0 [.v (it a)] (.v (.int .i64 (2))) [] 0 :=
  does_path (ct := ct) ctOk mixed (fn := Tryz.f87) rfl (by kernel_rfl) 2000 [.f, .f, .f, .f] (by kernel_rfl) (cj h0 (cj h0 (cj h0 (cj h1 cj0))))
theorem rOr_1 (a b : Int) (h0 : (a == 1) = true) : Does cE 96 [] 0 [.v (it a), .v (it b)] (.v (.int .i64 (1))) [] 0 :=
  does_path (ct := ct) ctOk mixed (fn := Tryz.f96) rfl (by kernel_rfl) 2000 [.t, .t, .t, .l] (by kernel_rfl) (cj h0 (cj h0 (cj h0 cj0)))
theorem rOr_2 (a b : Int) (h0 : (a == 1) = false) (h1 : (b == 1) = true) : Does cE 96 [] 0 [.v (it a), .v (it b)] (.v (.int .i64 (1))) [] 0 :=
  does_path (ct := ct) ctOk mixed (fn := Tryz.f96) rfl (by kernel_rfl) 2000 [.f, .f, .f, .t] (by kernel_rfl) (cj h0 (cj h0 (cj h0 (cj h1 cj0))))
theorem rOr_3 (a b : Int) (h0 : (a == 1) = false) (h1 : (b == 1) = false) (h2 : (a == 0) = true) (h3 : (b == 0) = true) : Does cE 96 [] 0 [.v (it a), .v (it b)] (.v (.int .i64 (0))) [] 0 :=
  does_path (ct := ct) ctOk mixed (fn := Tryz.f96) rfl (by kernel_rfl) 2000 [.f, .f, .f, .f, .t, .t, .t, .t] (by kernel_rfl) (cj h0 (cj h0 (cj h0 (cj h1 (cj h2 (cj h2 (cj h2 (cj h3 cj0))))))))
theorem rOr_4 (a b : Int) (h0 : (a == 1) = false) (h1 : (b == 1) = false) (h2 : (a == 0) = true) (h3 : (b == 0) = false) : Does cE 96 [] 0 [.v (it a), .v (it b)] (.v (.int .i64 (2))) [] 0 :=
  does_path (ct := ct) ctOk mixed (fn := Tryz.f96) rfl (by kernel_rfl) 2000 [.f, .f, .f, .f, .t, .t, .t, .f] (by kernel_rfl) (cj h0 (cj h0 (cj h0 (cj h1 (cj h2 (cj h2 (cj h2 (cj h3 cj0))))))))
theorem rOr_5 (a b : Int) (h0 : (a == 1) = false) (h1 : (b == 1) = false) (h2 : (a == 0) = false) : Does cE 96 [] 0 [.v (it a), .v (it b)] (.v (.int .i64 (2))) [] 0 :=
  does_path (ct := ct) ctOk mixed (fn := Tryz.f96) rfl (by kernel_rfl) 2000 [.f, .f, .f, .f, .f, .f, .f, .l] (by kernel_rfl) (cj h0 (cj h0 (cj h0 (cj h1 (cj h2 (cj h2 (cj h2 cj0)))))))
theorem rAnd_1 (a b : Int) (h0 : (a == 0) = true) : Does cE 95 [] 0 [.v (it a), .v (it b)] (.v (.int .i64 (0))) [] 0 :=
  does_path (ct := ct) ctOk mixed (fn := Tryz.f95) rfl (by kernel_rfl) 2000 [.t, .t, .t, .l] (by kernel_rfl) (cj h0 (cj h0 (cj h0 cj0)))
theorem rAnd_2 (a b : Int) (h0 : (a == 0) = false) (h1 : (b == 0) = true) : Does cE 95 [] 0 [.v (it a), .v (it b)] (.v (.int .i64 (0))) [] 0 :=
  does_path (ct := ct) ctOk mixed (fn := Tryz.f95) rfl (by kernel_rfl) 2000 [.f, .f, .f, .t] (by kernel_rfl) (cj h0 (cj h0 (cj h0 (cj h1 cj0))))
theorem rAnd_3 (a b : Int) (h0 : (a == 0) = false) (h1 : (b == 0) = false) (h2 : (a == 1) = true) (h3 : (b == 1) = true) : Does cE 95 [] 0 [.v (it a), .v (it b)] (.v (.int .i64 (1))) [] 0 :=
  does_path (ct := ct) ctOk mixed (fn := Tryz.f95) rfl (by kernel_rfl) 2000 [.f, .f, .f, .f, .t, .t, .t, .t] (by kernel_rfl) (cj h0 (cj h0 (cj h0 (cj h1 (cj h2 (cj h2 (cj h2 (cj h3 cj0))))))))
theorem rAnd_4 (a b : Int) (h0 : (a == 0) = false) (h1 : (b == 0) = false) (h2 : (a == 1) = true) (h3 : (b == 1) = false) : Does cE 95 [] 0 [.v (it a), .v (it b)] (.v (.int .i64 (2))) [] 0 :=
  does_path (ct := ct) ctOk mixed (fn := Tryz.f95) rfl (by kernel_rfl) 2000 [.f, .f, .f, .f, .t, .t, .t, .f] (by kernel_rfl) (cj h0 (cj h0 (cj h0 (cj h1 (cj h2 (cj h2 (cj h2 (cj h3 cj0))))))))
theorem rAnd_5 (a b : Int) (h0 : (a == 0) = false) (h1 : (b == 0) = false) (h2 : (a == 1) = false) : Does cE 95 [] 0 [.v (it a), .v (it b)] (.v (.int .i64 (2))) [] 0 :=
  does_path (ct := ct) ctOk mixed (fn := Tryz.f95) rfl (by kernel_rfl) 2000 [.f, .f, .f, .f, .f, .f, .f, .l] (by kernel_rfl) (cj h0 (cj h0 (cj h0 (cj h1 (cj h2 (cj h2 (cj h2 cj0)))))))
theorem rTr_1 (k n m : Int) (s : ByteArray) (b0 : Bool) (h0 : Does cE 27 [] 0 [.v (.agg #[(.int .i64 (k)), (.int .i64 (n)), (.int .i64 (m)), (.string (s))])] (.v (.bool (b0))) [] 0) (h1 : (!b0) = true) : Does cE 86 [] 0 [.v (vl k n m s)] (.v (.tuple #[(.int .i64 (2)), (.bool (false))])) [] 0 :=
  does_path (ct := ct) ctOk mixed (fn := Tryz.f86) rfl (by kernel_rfl) 2000 [.c (.v (.bool (b0))) [] 0, .t, .t, .t, .t, .t, .t, .l] (by kernel_rfl) (cj h0 (cj h1 (cj h1 (cj h1 (cj h1 (cj h1 (cj h1 cj0)))))))
theorem rTr_2 (k n m : Int) (s : ByteArray) (b0 : Bool) (h0 : Does cE 27 [] 0 [.v (.agg #[(.int .i64 (k)), (.int .i64 (n)), (.int .i64 (m)), (.string (s))])] (.v (.bool (b0))) [] 0) (h1 : (!b0) = false) (h2 : (k != 0) = true) (h3 : (k != 4) = true) : Does cE 86 [] 0 [.v (vl k n m s)] (.v (.tuple #[(.int .i64 (2)), (.bool (false))])) [] 0 :=
  does_path (ct := ct) ctOk mixed (fn := Tryz.f86) rfl (by kernel_rfl) 2000 [.c (.v (.bool (b0))) [] 0, .f, .f, .f, .f, .t, .t, .t, .f, .t, .f, .t] (by kernel_rfl) (cj h0 (cj h1 (cj h1 (cj h1 (cj h1 (cj h2 (cj h2 (cj h2 (cj h1 (cj h2 (cj h1 (cj h3 cj0))))))))))))
theorem rTr_3 (k n m : Int) (s : ByteArray) (b0 : Bool) (h0 : Does cE 27 [] 0 [.v (.agg #[(.int .i64 (k)), (.int .i64 (n)), (.int .i64 (m)), (.string (s))])] (.v (.bool (b0))) [] 0) (h1 : (!b0) = false) (h2 : (k != 0) = true) (h3 : (k != 4) = false) (h4 : (k == 0) = true) : Does cE 86 [] 0 [.v (vl k n m s)] (.v (.tuple #[(.int .i64 (2)), (.bool (true))])) [] 0 :=
  does_path (ct := ct) ctOk mixed (fn := Tryz.f86) rfl (by kernel_rfl) 2000 [.c (.v (.bool (b0))) [] 0, .f, .f, .f, .f, .t, .t, .t, .f, .t, .f, .f, .t] (by kernel_rfl) (cj h0 (cj h1 (cj h1 (cj h1 (cj h1 (cj h2 (cj h2 (cj h2 (cj h1 (cj h2 (cj h1 (cj h3 (cj h4 cj0)))))))))))))
theorem rTr_4 (k n m : Int) (s : ByteArray) (b0 : Bool) (h0 : Does cE 27 [] 0 [.v (.agg #[(.int .i64 (k)), (.int .i64 (n)), (.int .i64 (m)), (.string (s))])] (.v (.bool (b0))) [] 0) (h1 : (!b0) = false) (h2 : (k != 0) = true) (h3 : (k != 4) = false) (h4 : (k == 0) = false) : Does cE 86 [] 0 [.v (vl k n m s)] (.v (.tuple #[(.int .i64 (n)), (.bool (true))])) [] 0 :=
  does_path (ct := ct) ctOk mixed (fn := Tryz.f86) rfl (by kernel_rfl) 2000 [.c (.v (.bool (b0))) [] 0, .f, .f, .f, .f, .t, .t, .t, .f, .t, .f, .f, .f] (by kernel_rfl) (cj h0 (cj h1 (cj h1 (cj h1 (cj h1 (cj h2 (cj h2 (cj h2 (cj h1 (cj h2 (cj h1 (cj h3 (cj h4 cj0)))))))))))))
theorem rTr_5 (k n m : Int) (s : ByteArray) (b0 : Bool) (h0 : Does cE 27 [] 0 [.v (.agg #[(.int .i64 (k)), (.int .i64 (n)), (.int .i64 (m)), (.string (s))])] (.v (.bool (b0))) [] 0) (h1 : (!b0) = false) (h2 : (k != 0) = false) (h3 : (k == 0) = true) : Does cE 86 [] 0 [.v (vl k n m s)] (.v (.tuple #[(.int .i64 (2)), (.bool (true))])) [] 0 :=
  does_path (ct := ct) ctOk mixed (fn := Tryz.f86) rfl (by kernel_rfl) 2000 [.c (.v (.bool (b0))) [] 0, .f, .f, .f, .f, .f, .f, .f, .f, .f, .f, .l, .t] (by kernel_rfl) (cj h0 (cj h1 (cj h1 (cj h1 (cj h1 (cj h2 (cj h2 (cj h2 (cj h1 (cj h2 (cj h1 (cj h3 cj0))))))))))))
theorem rTr_6 (k n m : Int) (s : ByteArray) (b0 : Bool) (h0 : Does cE 27 [] 0 [.v (.agg #[(.int .i64 (k)), (.int .i64 (n)), (.int .i64 (m)), (.string (s))])] (.v (.bool (b0))) [] 0) (h1 : (!b0) = false) (h2 : (k != 0) = false) (h3 : (k == 0) = false) : Does cE 86 [] 0 [.v (vl k n m s)] (.v (.tuple #[(.int .i64 (n)), (.bool (true))])) [] 0 :=
  does_path (ct := ct) ctOk mixed (fn := Tryz.f86) rfl (by kernel_rfl) 2000 [.c (.v (.bool (b0))) [] 0, .f, .f, .f, .f, .f, .f, .f, .f, .f, .f, .l, .f] (by kernel_rfl) (cj h0 (cj h1 (cj h1 (cj h1 (cj h1 (cj h2 (cj h2 (cj h2 (cj h1 (cj h2 (cj h1 (cj h3 cj0))))))))))))
theorem rRt_1 (k n m : Int) (s : ByteArray) (h0 : (k == 0) = true) (h1 : (n == 0) = true) (h2 : (m == 0) = true) : Does cE 27 [] 0 [.v (vl k n m s)] (.v (.bool (s.toList == (ByteArray.mk #[]).toList))) [] 0 :=
  does_path (ct := ct) ctOk mixed (fn := Tryz.f27) rfl (by kernel_rfl) 2000 [.t, .t, .t, .t, .t, .t, .t, .t, .t] (by kernel_rfl) (cj h0 (cj h1 (cj h1 (cj h1 (cj h1 (cj h2 (cj h2 (cj h2 (cj h2 cj0)))))))))
theorem rRt_2 (k n m : Int) (s : ByteArray) (h0 : (k == 0) = true) (h1 : (n == 0) = true) (h2 : (m == 0) = false) : Does cE 27 [] 0 [.v (vl k n m s)] (.v (.bool (false))) [] 0 :=
  does_path (ct := ct) ctOk mixed (fn := Tryz.f27) rfl (by kernel_rfl) 2000 [.t, .t, .t, .t, .t, .f, .f, .f, .f] (by kernel_rfl) (cj h0 (cj h1 (cj h1 (cj h1 (cj h1 (cj h2 (cj h2 (cj h2 (cj h2 cj0)))))))))
theorem rRt_3 (k n m : Int) (s : ByteArray) (h0 : (k == 0) = true) (h1 : (n == 0) = false) : Does cE 27 [] 0 [.v (vl k n m s)] (.v (.bool (false))) [] 0 :=
  does_path (ct := ct) ctOk mixed (fn := Tryz.f27) rfl (by kernel_rfl) 2000 [.t, .f, .f, .f, .f, .l, .f, .f, .l] (by kernel_rfl) (cj h0 (cj h1 (cj h1 (cj h1 (cj h1 (cj (rfl : false = false) (cj (rfl : false = false) cj0)))))))
theorem rRt_4 (k n m : Int) (s : ByteArray) (h0 : (k == 0) = false) (h1 : (k == 1) = true) (h2 : (m == 0) = true) : Does cE 27 [] 0 [.v (vl k n m s)] (.v (.bool (s.toList == (ByteArray.mk #[]).toList))) [] 0 :=
  does_path (ct := ct) ctOk mixed (fn := Tryz.f27) rfl (by kernel_rfl) 2000 [.f, .t, .t, .t, .t, .t] (by kernel_rfl) (cj h0 (cj h1 (cj h2 (cj h2 (cj h2 (cj h2 cj0))))))
theorem rRt_5 (k n m : Int) (s : ByteArray) (h0 : (k == 0) = false) (h1 : (k == 1) = true) (h2 : (m == 0) = false) : Does cE 27 [] 0 [.v (vl k n m s)] (.v (.bool (false))) [] 0 :=
  does_path (ct := ct) ctOk mixed (fn := Tryz.f27) rfl (by kernel_rfl) 2000 [.f, .t, .f, .f, .f, .f] (by kernel_rfl) (cj h0 (cj h1 (cj h2 (cj h2 (cj h2 (cj h2 cj0))))))
theorem rRt_6 (k n m : Int) (s : ByteArray) (h0 : (k == 0) = false) (h1 : (k == 1) = false) (h2 : (k == 2) = true) (h3 : decide (m ≥ 0) = true) (h4 : decide (m ≤ 6) = true) : Does cE 27 [] 0 [.v (vl k n m s)] (.v (.bool (s.toList == (ByteArray.mk #[]).toList))) [] 0 :=
  does_path (ct := ct) ctOk mixed (fn := Tryz.f27) rfl (by kernel_rfl) 2000 [.f, .f, .t, .t, .t, .t, .t, .t, .t, .t, .t] (by kernel_rfl) (cj h0 (cj h1 (cj h2 (cj h3 (cj h3 (cj h3 (cj h3 (cj h4 (cj h4 (cj h4 (cj h4 cj0)))))))))))
theorem rRt_7 (k n m : Int) (s : ByteArray) (h0 : (k == 0) = false) (h1 : (k == 1) = false) (h2 : (k == 2) = true) (h3 : decide (m ≥ 0) = true) (h4 : decide (m ≤ 6) = false) : Does cE 27 [] 0 [.v (vl k n m s)] (.v (.bool (false))) [] 0 :=
  does_path (ct := ct) ctOk mixed (fn := Tryz.f27) rfl (by kernel_rfl) 2000 [.f, .f, .t, .t, .t, .t, .t, .f, .f, .f, .f] (by kernel_rfl) (cj h0 (cj h1 (cj h2 (cj h3 (cj h3 (cj h3 (cj h3 (cj h4 (cj h4 (cj h4 (cj h4 cj0)))))))))))
theorem rRt_8 (k n m : Int) (s : ByteArray) (h0 : (k == 0) = false) (h1 : (k == 1) = false) (h2 : (k == 2) = true) (h3 : decide (m ≥ 0) = false) : Does cE 27 [] 0 [.v (vl k n m s)] (.v (.bool (false))) [] 0 :=
  does_path (ct := ct) ctOk mixed (fn := Tryz.f27) rfl (by kernel_rfl) 2000 [.f, .f, .t, .f, .f, .f, .f, .l, .f, .f, .l] (by kernel_rfl) (cj h0 (cj h1 (cj h2 (cj h3 (cj h3 (cj h3 (cj h3 (cj (rfl : false = false) (cj (rfl : false = false) cj0)))))))))
theorem rRt_9 (k n m : Int) (s : ByteArray) (b0 : Bool) (h0 : (k == 0) = false) (h1 : (k == 1) = false) (h2 : (k == 2) = false) (h3 : (k == 3) = true) (h4 : (n == 0) = true) (h5 : (m == 0) = true) (h6 : decide ((s.size : Int) ≤ 256) = true) (h7 : Does cE 101 [] 0 [.v (.string (s))] (.v (.bool (b0))) [] 0) : Does cE 27 [] 0 [.v (vl k n m s)] (.v (.bool (b0))) [] 0 :=
  does_path (ct := ct) ctOk mixed (fn := Tryz.f27) rfl (by kernel_rfl) 2000 [.f, .f, .f, .t, .t, .t, .t, .t, .t, .t, .t, .t, .t, .t, .t, .t, .c (.v (.bool (b0))) [] 0, .t] (by kernel_rfl) (cj h0 (cj h1 (cj h2 (cj h3 (cj h4 (cj h4 (cj h4 (cj h4 (cj h5 (cj h5 (cj h5 (cj h5 (cj h5 (cj h6 (cj h6 (cj h6 (cj h7 (cj h6 cj0))))))))))))))))))
theorem rRt_10 (k n m : Int) (s : ByteArray) (h0 : (k == 0) = false) (h1 : (k == 1) = false) (h2 : (k == 2) = false) (h3 : (k == 3) = true) (h4 : (n == 0) = true) (h5 : (m == 0) = true) (h6 : decide ((s.size : Int) ≤ 256) = false) : Does cE 27 [] 0 [.v (vl k n m s)] (.v (.bool (false))) [] 0 :=
  does_path (ct := ct) ctOk mixed (fn := Tryz.f27) rfl (by kernel_rfl) 2000 [.f, .f, .f, .t, .t, .t, .t, .t, .t, .t, .t, .t, .t, .f, .f, .f, .f] (by kernel_rfl) (cj h0 (cj h1 (cj h2 (cj h3 (cj h4 (cj h4 (cj h4 (cj h4 (cj h5 (cj h5 (cj h5 (cj h5 (cj h5 (cj h6 (cj h6 (cj h6 (cj h6 cj0)))))))))))))))))
theorem rRt_11 (k n m : Int) (s : ByteArray) (h0 : (k == 0) = false) (h1 : (k == 1) = false) (h2 : (k == 2) = false) (h3 : (k == 3) = true) (h4 : (n == 0) = true) (h5 : (m == 0) = false) : Does cE 27 [] 0 [.v (vl k n m s)] (.v (.bool (false))) [] 0 :=
  does_path (ct := ct) ctOk mixed (fn := Tryz.f27) rfl (by kernel_rfl) 2000 [.f, .f, .f, .t, .t, .t, .t, .t, .f, .f, .f, .f, .f, .l, .f, .l, .l] (by kernel_rfl) (cj h0 (cj h1 (cj h2 (cj h3 (cj h4 (cj h4 (cj h4 (cj h4 (cj h5 (cj h5 (cj h5 (cj h5 (cj h5 (cj (rfl : false = false) cj0))))))))))))))
theorem rRt_12 (k n m : Int) (s : ByteArray) (h0 : (k == 0) = false) (h1 : (k == 1) = false) (h2 : (k == 2) = false) (h3 : (k == 3) = true) (h4 : (n == 0) = false) : Does cE 27 [] 0 [.v (vl k n m s)] (.v (.bool (false))) [] 0 :=
  does_path (ct := ct) ctOk mixed (fn := Tryz.f27) rfl (by kernel_rfl) 2000 [.f, .f, .f, .t, .f, .f, .f, .f, .l, .f, .f, .f, .f, .l, .f, .l, .l] (by kernel_rfl) (cj h0 (cj h1 (cj h2 (cj h3 (cj h4 (cj h4 (cj h4 (cj h4 (cj (rfl : false = false) (cj (rfl : false = false) (cj (rfl : false = false) (cj (rfl : false = false) (cj (rfl : false = false) cj0)))))))))))))
theorem rRt_13 (k n m : Int) (s : ByteArray) (h0 : (k == 0) = false) (h1 : (k == 1) = false) (h2 : (k == 2) = false) (h3 : (k == 3) = false) (h4 : (k == 4) = true) (h5 : (n == 0) = true) (h6 : (m == 0) = true) : Does cE 27 [] 0 [.v (vl k n m s)] (.v (.bool (s.toList == (ByteArray.mk #[]).toList))) [] 0 :=
  does_path (ct := ct) ctOk mixed (fn := Tryz.f27) rfl (by kernel_rfl) 2000 [.f, .f, .f, .f, .t, .t, .t, .t, .t, .l, .l, .l, .l, .t, .t, .t, .t] (by kernel_rfl) (cj h0 (cj h1 (cj h2 (cj h3 (cj h4 (cj h5 (cj h5 (cj h5 (cj h5 (cj h6 (cj h6 (cj h6 (cj h6 cj0)))))))))))))
theorem rRt_14 (k n m : Int) (s : ByteArray) (h0 : (k == 0) = false) (h1 : (k == 1) = false) (h2 : (k == 2) = false) (h3 : (k == 3) = false) (h4 : (k == 4) = true) (h5 : (n == 0) = true) (h6 : (m == 0) = false) : Does cE 27 [] 0 [.v (vl k n m s)] (.v (.bool (false))) [] 0 :=
  does_path (ct := ct) ctOk mixed (fn := Tryz.f27) rfl (by kernel_rfl) 2000 [.f, .f, .f, .f, .t, .t, .t, .t, .t, .l, .l, .l, .l, .f, .f, .f, .f] (by kernel_rfl) (cj h0 (cj h1 (cj h2 (cj h3 (cj h4 (cj h5 (cj h5 (cj h5 (cj h5 (cj h6 (cj h6 (cj h6 (cj h6 cj0)))))))))))))
theorem rRt_15 (k n m : Int) (s : ByteArray) (h0 : (k == 0) = false) (h1 : (k == 1) = false) (h2 : (k == 2) = false) (h3 : (k == 3) = false) (h4 : (k == 4) = true) (h5 : (n == 0) = false) (h6 : (n == 1) = true) (h7 : (m == 0) = true) : Does cE 27 [] 0 [.v (vl k n m s)] (.v (.bool (s.toList == (ByteArray.mk #[]).toList))) [] 0 :=
  does_path (ct := ct) ctOk mixed (fn := Tryz.f27) rfl (by kernel_rfl) 2000 [.f, .f, .f, .f, .t, .f, .f, .f, .f, .t, .t, .t, .t, .t, .t, .t, .t] (by kernel_rfl) (cj h0 (cj h1 (cj h2 (cj h3 (cj h4 (cj h5 (cj h5 (cj h5 (cj h5 (cj h6 (cj h6 (cj h6 (cj h6 (cj h7 (cj h7 (cj h7 (cj h7 cj0)))))))))))))))))
theorem rRt_16 (k n m : Int) (s : ByteArray) (h0 : (k == 0) = false) (h1 : (k == 1) = false) (h2 : (k == 2) = false) (h3 : (k == 3) = false) (h4 : (k == 4) = true) (h5 : (n == 0) = false) (h6 : (n == 1) = true) (h7 : (m == 0) = false) : Does cE 27 [] 0 [.v (vl k n m s)] (.v (.bool (false))) [] 0 :=
  does_path (ct := ct) ctOk mixed (fn := Tryz.f27) rfl (by kernel_rfl) 2000 [.f, .f, .f, .f, .t, .f, .f, .f, .f, .t, .t, .t, .t, .f, .f, .f, .f] (by kernel_rfl) (cj h0 (cj h1 (cj h2 (cj h3 (cj h4 (cj h5 (cj h5 (cj h5 (cj h5 (cj h6 (cj h6 (cj h6 (cj h6 (cj h7 (cj h7 (cj h7 (cj h7 cj0)))))))))))))))))
theorem rRt_17 (k n m : Int) (s : ByteArray) (h0 : (k == 0) = false) (h1 : (k == 1) = false) (h2 : (k == 2) = false) (h3 : (k == 3) = false) (h4 : (k == 4) = true) (h5 : (n == 0) = false) (h6 : (n == 1) = false) : Does cE 27 [] 0 [.v (vl k n m s)] (.v (.bool (false))) [] 0 :=
  does_path (ct := ct) ctOk mixed (fn := Tryz.f27) rfl (by kernel_rfl) 2000 [.f, .f, .f, .f, .t, .f, .f, .f, .f, .f, .f, .f, .f, .l, .f, .f, .l] (by kernel_rfl) (cj h0 (cj h1 (cj h2 (cj h3 (cj h4 (cj h5 (cj h5 (cj h5 (cj h5 (cj h6 (cj h6 (cj h6 (cj h6 (cj (rfl : false = false) (cj (rfl : false = false) cj0)))))))))))))))
theorem rRt_18 (k n m : Int) (s : ByteArray) (b0 : Bool) (h0 : (k == 0) = false) (h1 : (k == 1) = false) (h2 : (k == 2) = false) (h3 : (k == 3) = false) (h4 : (k == 4) = false) (h5 : (k == 5) = true) (h6 : Does cE 75 [] 0 [.v (.agg #[(.int .i64 (n)), (.int .i64 (m))])] (.v (.bool (b0))) [] 0) (h7 : b0 = true) : Does cE 27 [] 0 [.v (vl k n m s)] (.v (.bool (s.toList == (ByteArray.mk #[]).toList))) [] 0 :=
  does_path (ct := ct) ctOk mixed (fn := Tryz.f27) rfl (by kernel_rfl) 2000 [.f, .f, .f, .f, .f, .t, .c (.v (.bool (b0))) [] 0, .t, .t, .t, .t] (by kernel_rfl) (cj h0 (cj h1 (cj h2 (cj h3 (cj h4 (cj h5 (cj h6 (cj h7 (cj h7 (cj h7 (cj h7 cj0)))))))))))
theorem rRt_19 (k n m : Int) (s : ByteArray) (b0 : Bool) (h0 : (k == 0) = false) (h1 : (k == 1) = false) (h2 : (k == 2) = false) (h3 : (k == 3) = false) (h4 : (k == 4) = false) (h5 : (k == 5) = true) (h6 : Does cE 75 [] 0 [.v (.agg #[(.int .i64 (n)), (.int .i64 (m))])] (.v (.bool (b0))) [] 0) (h7 : b0 = false) : Does cE 27 [] 0 [.v (vl k n m s)] (.v (.bool (false))) [] 0 :=
  does_path (ct := ct) ctOk mixed (fn := Tryz.f27) rfl (by kernel_rfl) 2000 [.f, .f, .f, .f, .f, .t, .c (.v (.bool (b0))) [] 0, .f, .f, .f, .f] (by kernel_rfl) (cj h0 (cj h1 (cj h2 (cj h3 (cj h4 (cj h5 (cj h6 (cj h7 (cj h7 (cj h7 (cj h7 cj0)))))))))))
theorem rRt_20 (k n m : Int) (s : ByteArray) (h0 : (k == 0) = false) (h1 : (k == 1) = false) (h2 : (k == 2) = false) (h3 : (k == 3) = false) (h4 : (k == 4) = false) (h5 : (k == 5) = false) : Does cE 27 [] 0 [.v (vl k n m s)] (.v (.bool (false))) [] 0 :=
  does_path (ct := ct) ctOk mixed (fn := Tryz.f27) rfl (by kernel_rfl) 2000 [.f, .f, .f, .f, .f, .f] (by kernel_rfl) (cj h0 (cj h1 (cj h2 (cj h3 (cj h4 (cj h5 cj0))))))
theorem rSa_1 (k n m j p q : Int) (s u : ByteArray) (h0 : (k == j) = true) (h1 : (n == p) = true) (h2 : (m == q) = true) : Does cE 19 [] 0 [.v (vl k n m s), .v (vl j p q u)] (.v (.bool (s.toList == u.toList))) [] 0 :=
  does_path (ct := ct) ctOk mixed (fn := Tryz.f19) rfl (by kernel_rfl) 2000 [.t, .t, .t, .t, .t, .t, .t, .t, .t, .t, .t, .t, .t, .t, .t, .t, .t, .t] (by kernel_rfl) (cj h0 (cj h0 (cj h0 (cj h0 (cj h0 (cj h0 (cj h1 (cj h1 (cj h1 (cj h1 (cj h1 (cj h1 (cj h2 (cj h2 (cj h2 (cj h2 (cj h2 (cj h2 cj0))))))))))))))))))
theorem rSa_2 (k n m j p q : Int) (s u : ByteArray) (h0 : (k == j) = true) (h1 : (n == p) = true) (h2 : (m == q) = false) : Does cE 19 [] 0 [.v (vl k n m s), .v (vl j p q u)] (.v (.bool (false))) [] 0 :=
  does_path (ct := ct) ctOk mixed (fn := Tryz.f19) rfl (by kernel_rfl) 2000 [.t, .t, .t, .t, .t, .t, .t, .t, .t, .t, .t, .t, .f, .f, .f, .f, .f, .f] (by kernel_rfl) (cj h0 (cj h0 (cj h0 (cj h0 (cj h0 (cj h0 (cj h1 (cj h1 (cj h1 (cj h1 (cj h1 (cj h1 (cj h2 (cj h2 (cj h2 (cj h2 (cj h2 (cj h2 cj0))))))))))))))))))
theorem rSa_3 (k n m j p q : Int) (s u : ByteArray) (h0 : (k == j) = true) (h1 : (n == p) = false) : Does cE 19 [] 0 [.v (vl k n m s), .v (vl j p q u)] (.v (.bool (false))) [] 0 :=
  does_path (ct := ct) ctOk mixed (fn := Tryz.f19) rfl (by kernel_rfl) 2000 [.t, .t, .t, .t, .t, .t, .f, .f, .f, .f, .f, .f, .l, .f, .f, .f, .f, .l] (by kernel_rfl) (cj h0 (cj h0 (cj h0 (cj h0 (cj h0 (cj h0 (cj h1 (cj h1 (cj h1 (cj h1 (cj h1 (cj h1 (cj (rfl : false = false) (cj (rfl : false = false) (cj (rfl : false = false) (cj (rfl : false = false) cj0))))))))))))))))
theorem rSa_4 (k n m j p q : Int) (s u : ByteArray) (h0 : (k == j) = false) : Does cE 19 [] 0 [.v (vl k n m s), .v (vl j p q u)] (.v (.bool (false))) [] 0 :=
  does_path (ct := ct) ctOk mixed (fn := Tryz.f19) rfl (by kernel_rfl) 2000 [.f, .f, .f, .f, .f, .f, .l, .f, .f, .f, .f, .f, .l, .f, .f, .f, .f, .l] (by kernel_rfl) (cj h0 (cj h0 (cj h0 (cj h0 (cj h0 (cj h0 (cj (rfl : false = false) (cj (rfl : false = false) (cj (rfl : false = false) (cj (rfl : false = false) (cj (rfl : false = false) (cj (rfl : false = false) (cj (rfl : false = false) (cj (rfl : false = false) (cj (rfl : false = false) cj0)))))))))))))))
end Go.Proofs.YtnchjdhepakokaaGreatDoorC
/- Each path of each function: on which conditions it is taken, what it gives. Printed by a program (wip/tools/sxexp2.lean); Lean checks each. -/
namespace Go.Proofs.YtnchjdhepakokaaGreatDoorC
open Go.Proofs Go.Proofs.YtnchjdhepakokaaGreatDoorSx
set_option maxRecDepth 100000
set_option linter.unusedVariables false

theorem prgt_1 (u sc : Int) (b0 : Bool) (h0 : Does cE 173 [(0, .ro 3 ([sc]) false)] 1 [.o 0] (.v (.bool (b0))) [] 1) : Does cE 124 [] 0 [.v (dc u sc)] (.v (.bool (b0))) [] 0 :=
  does_path (ct := ct) ctOk mixed (fn := Tryz.f124) rfl (by kernel_rfl) 2000 [.c (.v (.bool (b0))) [] 1] (by kernel_rfl) (cj h0 cj0)
end Go.Proofs.YtnchjdhepakokaaGreatDoorC
/- Each path of each function: on which conditions it is taken, what it gives. Printed by a program (wip/tools/sxexp2.lean); Lean checks each. -/
namespace Go.Proofs.YtnchjdhepakokaaGreatDoorC
open Go.Proofs Go.Proofs.YtnchjdhepakokaaGreatDoorSx
set_option maxRecDepth 100000
set_option linter.unusedVariables false
theorem of_1 (n : Int) (h0 : decide (n < 0) = true) : Does cE 192 [] 0 [.v (it n)] (.v (.agg #[(.int .u64 (0)), (.int .u64 (IntKind.u64.wrap (0 - IntKind.u64.wrap n))), (.bool (true))])) [] 0 :=
  does_path (ct := ct) ctOk mixed (fn := Tryz.f192) rfl (by kernel_rfl) 2000 [.t] (by kernel_rfl) (cj h0 cj0)
theorem of_2 (n : Int) (h0 : decide (n < 0) = false) : Does cE 192 [] 0 [.v (it n)] (.v (.agg #[(.int .u64 (0)), (.int .u64 (IntKind.u64.wrap n)), (.bool (false))])) [] 0 :=
  does_path (ct := ct) ctOk mixed (fn := Tryz.f192) rfl (by kernel_rfl) 2000 [.f] (by kernel_rfl) (cj h0 cj0)
theorem times_1 (h l n : Int) (s : Bool) (i0 : Int) (i1 : Int) (h0 : Does cE 206 [] 0 [.v (.int .u64 (l)), .v (.int .u64 (n))] (.v (.tuple #[(.int .u64 (i0)), (.int .u64 (i1))])) [] 0) : Does cE 222 [] 0 [.v (bg h l s), .v (iu n)] (.v (.agg #[(.int .u64 (IntKind.u64.wrap (i0 + IntKind.u64.wrap (h * n)))), (.int .u64 (i1)), (.bool (s))])) [] 0 :=
  does_path (ct := ct) ctOk mixed (fn := Tryz.f222) rfl (by kernel_rfl) 2000 [.c (.v (.tuple #[(.int .u64 (i0)), (.int .u64 (i1))])) [] 0] (by kernel_rfl) (cj h0 cj0)
theorem cmp64_1 (x y : Int) (h0 : (x != x) = true) (h1 : (y != y) = true) : Does cE 266 [] 0 [.v (iu x), .v (iu y)] (.v (.int .i64 (0))) [] 0 :=
  does_path (ct := ct) ctOk mixed (fn := Tryz.f266) rfl (by kernel_rfl) 2000 [.e, .e, .t, .t] (by kernel_rfl) (cj h0 (cj h1 cj0))
theorem cmp64_2 (x y : Int) (h0 : (x != x) = true) (h1 : (y != y) = false) : Does cE 266 [] 0 [.v (iu x), .v (iu y)] (.v (.int .i64 (-1))) [] 0 :=
  does_path (ct := ct) ctOk mixed (fn := Tryz.f266) rfl (by kernel_rfl) 2000 [.e, .e, .t, .f] (by kernel_rfl) (cj h0 (cj h1 cj0))
theorem cmp64_3 (x y : Int) (h0 : (x != x) = false) (h1 : (y != y) = true) : Does cE 266 [] 0 [.v (iu x), .v (iu y)] (.v (.int .i64 (1))) [] 0 :=
  does_path (ct := ct) ctOk mixed (fn := Tryz.f266) rfl (by kernel_rfl) 2000 [.e, .e, .f, .t] (by kernel_rfl) (cj h0 (cj h1 cj0))
theorem cmp64_4 (x y : Int) (h0 : (x != x) = false) (h1 : (y != y) = false) (h2 : decide (x < y) = true) : Does cE 266 [] 0 [.v (iu x), .v (iu y)] (.v (.int .i64 (-1))) [] 0 :=
  does_path (ct := ct) ctOk mixed (fn := Tryz.f266) rfl (by kernel_rfl) 2000 [.e, .e, .f, .f, .t] (by kernel_rfl) (cj h0 (cj h1 (cj h2 cj0)))
theorem cmp64_5 (x y : Int) (h0 : (x != x) = false) (h1 : (y != y) = false) (h2 : decide (x < y) = false) (h3 : decide (x > y) = true) : Does cE 266 [] 0 [.v (iu x), .v (iu y)] (.v (.int .i64 (1))) [] 0 :=
  does_path (ct := ct) ctOk mixed (fn := Tryz.f266) rfl (by kernel_rfl) 2000 [.e, .e, .f, .f, .f, .t] (by kernel_rfl) (cj h0 (cj h1 (cj h2 (cj h3 cj0))))
theorem cmp64_6 (x y : Int) (h0 : (x != x) = false) (h1 : (y != y) = false) (h2 : decide (x < y) = false) (h3 : decide (x > y) = false) : Does cE 266 [] 0 [.v (iu x), .v (iu y)] (.v (.int .i64 (0))) [] 0 :=
  does_path (ct := ct) ctOk mixed (fn := Tryz.f266) rfl (by kernel_rfl) 2000 [.e, .e, .f, .f, .f, .f] (by kernel_rfl) (cj h0 (cj h1 (cj h2 (cj h3 cj0))))
theorem cmpb_1 (h l g k : Int) (s t : Bool) (i0 : Int) (i1 : Int) (i2 : Int) (h0 : Does cE 266 [] 0 [.v (.int .u64 (h)), .v (.int .u64 (g))] (.v (.int .i64 (i0))) [] 0) (h1 : Does cE 266 [] 0 [.v (.int .u64 (l)), .v (.int .u64 (k))] (.v (.int .i64 (i1))) [] 0) (h2 : Does cE 120 [(0, .ro 3 ([i0, i1]) false)] 1 [.o 0] (.v (.int .i64 (i2))) [] 1) : Does cE 230 [] 0 [.v (bg h l s), .v (bg g k t)] (.v (.int .i64 (i2))) [] 0 :=
  does_path (ct := ct) ctOk mixed (fn := Tryz.f230) rfl (by kernel_rfl) 2000 [.c (.v (.int .i64 (i0))) [] 0, .c (.v (.int .i64 (i1))) [] 0, .c (.v (.int .i64 (i2))) [] 1] (by kernel_rfl) (cj h0 (cj h1 (cj h2 cj0)))
theorem plus_1 (h l g k : Int) (s t : Bool) (i0 : Int) (i1 : Int) (h0 : (s == t) = true) (h1 : Does cE 229 [] 0 [.v (.int .u64 (l)), .v (.int .u64 (k)), .v (.int .u64 (0))] (.v (.tuple #[(.int .u64 (i0)), (.int .u64 (i1))])) [] 0) : Does cE 175 [] 0 [.v (bg h l s), .v (bg g k t)] (.v (.agg #[(.int .u64 (IntKind.u64.wrap (IntKind.u64.wrap (h + g) + i1))), (.int .u64 (i0)), (.bool (s))])) [] 0 :=
  does_path (ct := ct) ctOk mixed (fn := Tryz.f175) rfl (by kernel_rfl) 2000 [.t, .c (.v (.tuple #[(.int .u64 (i0)), (.int .u64 (i1))])) [] 0] (by kernel_rfl) (cj h0 (cj h1 cj0))
theorem plus_2 (h l g k : Int) (s t : Bool) (i0 : Int) (i1 : Int) (i2 : Int) (h0 : (s == t) = false) (h1 : Does cE 230 [] 0 [.v (.agg #[(.int .u64 (h)), (.int .u64 (l)), (.bool (s))]), .v (.agg #[(.int .u64 (g)), (.int .u64 (k)), (.bool (t))])] (.v (.int .i64 (i0))) [] 0) (h2 : decide (i0 < 0) = true) (h3 : Does cE 231 [] 0 [.v (.int .u64 (k)), .v (.int .u64 (l)), .v (.int .u64 (0))] (.v (.tuple #[(.int .u64 (i1)), (.int .u64 (i2))])) [] 0) : Does cE 175 [] 0 [.v (bg h l s), .v (bg g k t)] (.v (.agg #[(.int .u64 (IntKind.u64.wrap (IntKind.u64.wrap (g - h) - i2))), (.int .u64 (i1)), (.bool (t))])) [] 0 :=
  does_path (ct := ct) ctOk mixed (fn := Tryz.f175) rfl (by kernel_rfl) 2000 [.f, .c (.v (.int .i64 (i0))) [] 0, .t, .c (.v (.tuple #[(.int .u64 (i1)), (.int .u64 (i2))])) [] 0] (by kernel_rfl) (cj h0 (cj h1 (cj h2 (cj h3 cj0))))
theorem plus_3 (h l g k : Int) (s t : Bool) (i0 : Int) (i1 : Int) (i2 : Int) (h0 : (s == t) = false) (h1 : Does cE 230 [] 0 [.v (.agg #[(.int .u64 (h)), (.int .u64 (l)), (.bool (s))]), .v (.agg #[(.int .u64 (g)), (.int .u64 (k)), (.bool (t))])] (.v (.int .i64 (i0))) [] 0) (h2 : decide (i0 < 0) = false) (h3 : Does cE 231 [] 0 [.v (.int .u64 (l)), .v (.int .u64 (k)), .v (.int .u64 (0))] (.v (.tuple #[(.int .u64 (i1)), (.int .u64 (i2))])) [] 0) : Does cE 175 [] 0 [.v (bg h l s), .v (bg g k t)] (.v (.agg #[(.int .u64 (IntKind.u64.wrap (IntKind.u64.wrap (h - g) - i2))), (.int .u64 (i1)), (.bool (s))])) [] 0 :=
  does_path (ct := ct) ctOk mixed (fn := Tryz.f175) rfl (by kernel_rfl) 2000 [.f, .c (.v (.int .i64 (i0))) [] 0, .f, .c (.v (.tuple #[(.int .u64 (i1)), (.int .u64 (i2))])) [] 0] (by kernel_rfl) (cj h0 (cj h1 (cj h2 (cj h3 cj0))))
theorem back_1 (h l sc : Int) (s : Bool) (h0 : (h != 0) = true) : Does cE 215 [] 0 [.v (bg h l s), .v (it sc)] (.v (.tuple #[(.agg #[(.int .i64 (0)), (.int .i64 (0))]), (.int .i64 (32))])) [] 0 :=
  does_path (ct := ct) ctOk mixed (fn := Tryz.f215) rfl (by kernel_rfl) 2000 [.t] (by kernel_rfl) (cj h0 cj0)
theorem back_2 (h l sc : Int) (s : Bool) (h0 : (h != 0) = false) (h1 : s = true) (h2 : decide (l ≤ 9223372036854775808) = true) : Does cE 215 [] 0 [.v (bg h l s), .v (it sc)] (.v (.tuple #[(.agg #[(.int .i64 (IntKind.i64.wrap (IntKind.u64.wrap (0 - l)))), (.int .i64 (sc))]), (.int .i64 (0))])) [] 0 :=
  does_path (ct := ct) ctOk mixed (fn := Tryz.f215) rfl (by kernel_rfl) 2000 [.f, .t, .t, .t, .t, .t] (by kernel_rfl) (cj h0 (cj h1 (cj h1 (cj h1 (cj h1 (cj h2 cj0))))))
theorem back_3 (h l sc : Int) (s : Bool) (h0 : (h != 0) = false) (h1 : s = true) (h2 : decide (l ≤ 9223372036854775808) = false) (h3 : (!s) = true) (h4 : decide (l < 9223372036854775808) = true) : Does cE 215 [] 0 [.v (bg h l s), .v (it sc)] (.v (.tuple #[(.agg #[(.int .i64 (IntKind.i64.wrap l)), (.int .i64 (sc))]), (.int .i64 (0))])) [] 0 :=
  does_path (ct := ct) ctOk mixed (fn := Tryz.f215) rfl (by kernel_rfl) 2000 [.f, .t, .t, .t, .t, .f, .t, .t, .t, .t, .t] (by kernel_rfl) (cj h0 (cj h1 (cj h1 (cj h1 (cj h1 (cj h2 (cj h3 (cj h3 (cj h3 (cj h3 (cj h4 cj0)))))))))))
theorem back_4 (h l sc : Int) (s : Bool) (h0 : (h != 0) = false) (h1 : s = true) (h2 : decide (l ≤ 9223372036854775808) = false) (h3 : (!s) = true) (h4 : decide (l < 9223372036854775808) = false) : Does cE 215 [] 0 [.v (bg h l s), .v (it sc)] (.v (.tuple #[(.agg #[(.int .i64 (0)), (.int .i64 (0))]), (.int .i64 (32))])) [] 0 :=
  does_path (ct := ct) ctOk mixed (fn := Tryz.f215) rfl (by kernel_rfl) 2000 [.f, .t, .t, .t, .t, .f, .t, .t, .t, .t, .f] (by kernel_rfl) (cj h0 (cj h1 (cj h1 (cj h1 (cj h1 (cj h2 (cj h3 (cj h3 (cj h3 (cj h3 (cj h4 cj0)))))))))))
theorem back_5 (h l sc : Int) (s : Bool) (h0 : (h != 0) = false) (h1 : s = true) (h2 : decide (l ≤ 9223372036854775808) = false) (h3 : (!s) = false) : Does cE 215 [] 0 [.v (bg h l s), .v (it sc)] (.v (.tuple #[(.agg #[(.int .i64 (0)), (.int .i64 (0))]), (.int .i64 (32))])) [] 0 :=
  does_path (ct := ct) ctOk mixed (fn := Tryz.f215) rfl (by kernel_rfl) 2000 [.f, .t, .t, .t, .t, .f, .f, .f, .f, .f, .l] (by kernel_rfl) (cj h0 (cj h1 (cj h1 (cj h1 (cj h1 (cj h2 (cj h3 (cj h3 (cj h3 (cj h3 cj0))))))))))
theorem back_6 (h l sc : Int) (s : Bool) (h0 : (h != 0) = false) (h1 : s = false) (h2 : (!s) = true) (h3 : decide (l < 9223372036854775808) = true) : Does cE 215 [] 0 [.v (bg h l s), .v (it sc)] (.v (.tuple #[(.agg #[(.int .i64 (IntKind.i64.wrap l)), (.int .i64 (sc))]), (.int .i64 (0))])) [] 0 :=
  does_path (ct := ct) ctOk mixed (fn := Tryz.f215) rfl (by kernel_rfl) 2000 [.f, .f, .f, .f, .f, .l, .t, .t, .t, .t, .t] (by kernel_rfl) (cj h0 (cj h1 (cj h1 (cj h1 (cj h1 (cj h2 (cj h2 (cj h2 (cj h2 (cj h3 cj0))))))))))
theorem back_7 (h l sc : Int) (s : Bool) (h0 : (h != 0) = false) (h1 : s = false) (h2 : (!s) = true) (h3 : decide (l < 9223372036854775808) = false) : Does cE 215 [] 0 [.v (bg h l s), .v (it sc)] (.v (.tuple #[(.agg #[(.int .i64 (0)), (.int .i64 (0))]), (.int .i64 (32))])) [] 0 :=
  does_path (ct := ct) ctOk mixed (fn := Tryz.f215) rfl (by kernel_rfl) 2000 [.f, .f, .f, .f, .f, .l, .t, .t, .t, .t, .f] (by kernel_rfl) (cj h0 (cj h1 (cj h1 (cj h1 (cj h1 (cj h2 (cj h2 (cj h2 (cj h2 (cj h3 cj0))))))))))
theorem back_8 (h l sc : Int) (s : Bool) (h0 : (h != 0) = false) (h1 : s = false) (h2 : (!s) = false) : Does cE 215 [] 0 [.v (bg h l s), .v (it sc)] (.v (.tuple #[(.agg #[(.int .i64 (0)), (.int .i64 (0))]), (.int .i64 (32))])) [] 0 :=
  does_path (ct := ct) ctOk mixed (fn := Tryz.f215) rfl (by kernel_rfl) 2000 [.f, .f, .f, .f, .f, .l, .f, .f, .f, .f, .l] (by kernel_rfl) (cj h0 (cj h1 (cj h1 (cj h1 (cj h1 (cj h2 (cj h2 (cj h2 (cj h2 cj0)))))))))
theorem up_1 (u x sc : Int) (i0 : Int) (i1 : Int) (b2 : Bool) (i3 : Int) (i4 : Int) (b5 : Bool) (h0 : Does cE 192 [] 0 [.v (.int .i64 (u))] (.v (.agg #[(.int .u64 (i0)), (.int .u64 (i1)), (.bool (b2))])) [] 0) (h1 : (0 : Int) ≤ IntKind.i64.wrap (sc - x) ∧ IntKind.i64.wrap (sc - x) < ((13 : Nat) : Int)) (h2 : (0 + (IntKind.i64.wrap (sc - x)).toNat * 1).succ.le pow10.length) (h3 : Does cE 222 [] 0 [.v (.agg #[(.int .u64 (i0)), (.int .u64 (i1)), (.bool (b2))]), .v (.int .u64 (pow10.getD (0 + (IntKind.i64.wrap (sc - x)).toNat * 1) 0))] (.v (.agg #[(.int .u64 (i3)), (.int .u64 (i4)), (.bool (b5))])) [] 0) : Does cE 174 [] 0 [.v (dc u x), .v (it sc)] (.v (.agg #[(.int .u64 (i3)), (.int .u64 (i4)), (.bool (b5))])) [] 0 :=
  does_path (ct := ct) ctOk mixed (fn := Tryz.f174) rfl (by kernel_rfl) 2000 [.c (.v (.agg #[(.int .u64 (i0)), (.int .u64 (i1)), (.bool (b2))])) [] 0, .c (.v (.agg #[(.int .u64 (i3)), (.int .u64 (i4)), (.bool (b5))])) [] 0] (by kernel_rfl) (cj h0 (cj h1 (cj h2 (cj h3 cj0))))
end Go.Proofs.YtnchjdhepakokaaGreatDoorC
