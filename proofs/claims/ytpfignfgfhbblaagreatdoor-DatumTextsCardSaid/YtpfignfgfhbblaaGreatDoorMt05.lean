import Derived.Test.YtpfignfgfhbblaaGreatDoorMt04
import Derived.SizedLaws
import Derived.ChangeSlices
import Derived.Test.YtpfignfgfhbblaaGreatDoorProg
import Derived.KernelRfl
import Derived.Lib.ItoaNum
import Derived.Lib.DecodeN
/- The symbolic machine whole: tables of calls, functions, pieces of a body, formats of rows. -/
set_option linter.unusedVariables false
set_option linter.unusedSimpArgs false
namespace Go.Proofs.YtpfignfgfhbblaaGreatDoorSx
open Go.RowKit Go.Proofs.YtpfignfgfhbblaaGreatDoorW.PrintLast Go.Proofs.YtpfignfgfhbblaaGreatDoorW.PrintWords
noncomputable section
/-! ### Formats -/
def intF (k : IntKind) (c : Bool) (hc : c = true → k = .u8) : Fmt where
  α := Int
  d := 0
  sz := 1
  enc z := [.int k z]
  dec
    | [.int k' z] => bif decide (k' = k) then some z else none
    | _ => none
  str := bif c then some (fun s => s.data.toList.map fun b => (b.toNat : Int)) else none
  toS := bif c then some (fun l => l.foldl (fun r n => r.push (UInt8.ofNat n.toNat)) ByteArray.empty) else none
  pos := Nat.one_pos
  len _ := rfl
  inv vs a h := by
    split at h
    · rename_i k' z
      cases hk : decide (k' = k) with
      | false => simp [hk] at h
      | true =>
        simp only [hk, cond_true, Option.some.injEq] at h
        subst h
        rw [of_decide_eq_true hk]
    · cases h
  one a v hv := by
    simp only [List.mem_singleton] at hv
    rw [hv]
    rfl
  strOk f h := by
    cases c with
    | false => cases h
    | true =>
      have e := hc rfl
      subst e
      simp only [cond_true, Option.some.injEq] at h
      subst h
      refine ⟨rfl, fun s => ⟨?_, ?_⟩⟩
      · simp only [byteCells]
        induction s.data.toList with
        | nil => rfl
        | cons b l ih => simp only [List.map_cons, List.flatMap_cons, ih]; rfl
      · rw [List.length_map, Array.length_toList]
        rfl
  toSOk f h := by
    cases c with
    | false => cases h
    | true =>
      have e := hc rfl
      subst e
      simp only [cond_true, Option.some.injEq] at h
      subst h
      refine ⟨rfl, fun l => ⟨l, ?_, rfl⟩⟩
      induction l with
      | nil => rfl
      | cons b l ih => simp only [List.map_cons, List.flatMap_cons, ih]; rfl
def strF : Fmt where
  α := ByteArray
  d := ByteArray.empty
  sz := 1
  enc z := [.string z]
  dec
    | [.string z] => some z
    | _ => none
  str := none
  toS := none
  pos := Nat.one_pos
  len _ := rfl
  inv vs a h := by
    split at h
    · simp only [Option.some.injEq] at h
      rw [h]
    · cases h
  one a v hv := by
    simp only [List.mem_singleton] at hv
    rw [hv]
    rfl
  strOk f h := by cases h
  toSOk f h := by cases h
def u8F : Fmt := intF .u8 true (fun _ => rfl)
def numF (k : IntKind) : Fmt := intF k false (fun h => by cases h)
/-- Whole numbers, bytes, strings, as the type says. -/
def fmOf (P : Program) (e : TypeId) : Fmt := match P.underlying e with
  | some (.int .u8) => u8F
  | some (.int k) => numF k
  | some .string => strF
  | _ => numF .i64
def envOf (P : Program) : Env := { P := P, fm := fmOf P, gl := fun _ => .no }
/-! ### Tables -/
def argsS (l : List SV) (n : Nat) : List SV := l ++ List.replicate (n - l.length) .na
section
variable {E : Env}
def bodyOf (E : Env) (ct : Table E) (fuel : Nat) (fn : Func) (args : List SV) (b : Tab E) (key : Nat) (d : List (Dec E)) : Option (Res E) := match fn.body with
  | none => none
  | some c => match runC E ct fuel ⟨[.code c], .normal, ⟨argsS args fn.ntmps, [], b, [], d, key⟩⟩ with
    | some ⟨[], .ret, σ⟩ => match resultOf E fn σ with
      | some v => some ⟨v, σ.u, σ.n, σ.c, σ.d⟩
      | none => none
    | some ⟨[], .normal, σ⟩ => match resultOf E fn σ with
      | some v => some ⟨v, σ.u, σ.n, σ.c, σ.d⟩
      | none => none
    | _ => none
def NeedC (g : Nat) : Prop := False
def NeedE (g : Nat) : Prop := False
/-- Calls: told by the script ('.c'), or entered ('.e'), so deep at the most. 'df': what a function not told comes to, for trying. -/
def callT (E : Env) (fuel : Nat) (df : Nat → Option (SV × Tab E × Nat)) : Nat → Table E
  | 0 => ⟨fun g l ats b key d => match d with
    | .c res T n :: r => contract E g l ats b key res T n r
    | _ => none, fun _ => false⟩
  | m + 1 => ⟨fun g l ats b key d => match d with
    | .c res T n :: r => contract E g l ats b key res T n r
    | .e :: r => match E.P.funcs[g]? with
      | some fn => bif fn.name == "runtime.NumGoroutine" then none else bodyOf E (callT E fuel df m) fuel fn l b key r
      | none => none
    | [] => match df g with
      | some (v, T, n) => match absArgs E b l ats 0 with
        | some A => some ⟨resMap1 A.bk.length key A.bk v, freshT A.bk.length key T, key + (n - A.bk.length), A.c ++ [NeedC g], []⟩
        | none => none
      | none => match E.P.funcs[g]? with
        | some fn => match bodyOf E (callT E fuel df m) fuel fn l b key [] with
          | some R => some ⟨R.v, R.u, R.n, NeedE g :: R.c, R.d⟩
          | none => none
        | none => none
    | _ => none, fun g => (df g).isSome⟩
theorem callT_tells (fuel : Nat) (df : Nat → Option (SV × Tab E × Nat)) : ∀ (m : Nat), TellsOk E (callT E fuel df m)
  | 0 => by
    intro g l ats b b' key d ht h
    unfold told at ht
    split at ht
    · exact contract_congr h
    · simp [callT] at ht
    · cases ht
  | m + 1 => by
    intro g l ats b b' key d ht h
    unfold told at ht
    split at ht
    · exact contract_congr h
    · simp only [callT] at ht ⊢
      cases hd : df g with
      | none => simp [hd] at ht
      | some p =>
        obtain ⟨v, T, n⟩ := p
        simp only
        rw [absArgs_congr h]
    · cases ht
theorem args_slots {U : Nat → Prop} {μ : Nat → Value} {l : List SV} {vs : List Value} (h : Slots U μ l vs) (n : Nat) : Slots U μ (argsS l n) (vs.toArray ++ Array.replicate (n - vs.toArray.size) undef).toList := by
  have h1 := slots_x U μ (List.replicate (n - l.length) undef)
  rw [List.length_replicate] at h1
  have := h.append h1
  simpa [argsS, h.length] using this
theorem body_ok {ct : Table E} (hct : TableOk E ct) (hmx : E.P.follows .mixedOrders = true) {fuel : Nat} {g : Nat} {fn : Func} (hf : E.P.funcs[g]? = some fn) (hnm : (fn.name == "runtime.NumGoroutine") = false) {args : List SV} {b : Tab E} {key : Nat} {d : List (Dec E)} {R : Res E}
    (h : bodyOf E ct fuel fn args b key d = some R) (hc : Conj R.c) {S : Nat → Prop} {w0 w : World} {U : Nat → Prop} {μ : Nat → Value} {vs : List Value} (hfr : Free U key R.n) (hm : Mem S w0 U μ b w) (hs : Slots U μ args vs) :
    (callFunc g vs.toArray).run E.P w = .ok (.enter g vs.toArray) w ∧ Calls E.P g vs.toArray w fun e w' => ∃ u μ', e = .returned u ∧ (∀ k, U k → μ' k = μ k) ∧ rel (Up U key R.n) μ' R.v u ∧ Mem S w0 (Up U key R.n) μ' (R.u ++ b) w' := by
  unfold bodyOf at h
  cases hb : fn.body with
  | none => simp [hb] at h
  | some c =>
    simp only [hb] at h
    have h1 : fn.name ≠ "runtime.NumGoroutine" := by simpa using hnm
    refine ⟨by simp [callFunc, hf, h1, hb, program, Sem.run], ?_⟩
    have hu : ∀ k, Up U key key k ↔ U k := fun k => ⟨upU_self U key k, fun hk => .inl hk⟩
    have fin : ∀ (y : Cfg E) (v : SV), runC E ct fuel ⟨[.code c], .normal, ⟨argsS args fn.ntmps, [], b, [], d, key⟩⟩ = some y → y.k = [] → (y.e = .normal ∨ y.e = .ret) → resultOf E fn y.σ = some v → R = ⟨v, y.σ.u, y.σ.n, y.σ.c, y.σ.d⟩ → y.σ.b = b →
        Calls E.P g vs.toArray w fun e w' => ∃ u μ', e = .returned u ∧ (∀ k, U k → μ' k = μ k) ∧ rel (Up U key R.n) μ' R.v u ∧ Mem S w0 (Up U key R.n) μ' (R.u ++ b) w' := by
      intro y v hr hk he hv hR hyb
      subst hR
      refine calls_of_wp hf hb ?_
      refine run_sound (S := S) (w0 := w0) (B := U) (n0 := key) (μ := μ) hct hmx (x := ⟨[.code c], .normal, ⟨argsS args fn.ntmps, [], b, [], d, key⟩⟩) hr ⟨rfl, ?_, ?_, Nat.le_refl _⟩ hfr hc (fun μ' a' w' hμ hS => ?_)
      · exact slots_mono (fun k hk => .inl hk) (fun _ _ => rfl) _ _ (args_slots hs fn.ntmps)
      · exact hm.up key
      · obtain ⟨u, r1, r2⟩ := resultOf_run hS hv
        rw [hk]
        have hm' := hS.m
        rw [hyb] at hm'
        rcases he with he | he <;> rw [he] <;> exact ⟨hS.d, u, r1, u, μ', rfl, fun k hk => hμ k (.inl hk), r2, hm'⟩
    have keepB : ∀ (n : Nat) (x y : Cfg E), runC E ct n x = some y → y.σ.b = x.σ.b := by
      have ops : ∀ (ops : Array Oper) (l : List Oper) (σ τ : St E), runOps E ct ops l σ = some τ → τ.b = σ.b := by
        intro ops l
        induction l with
        | nil => intro σ τ h; simp only [runOps, Option.some.injEq] at h; rw [h]
        | cons o l ih =>
          intro σ τ h
          unfold runOps at h
          split at h
          · rename_i R he
            cases hn : Nat.ble σ.n R.n with
            | false => simp [hn] at h
            | true =>
              simp only [hn, cond_true] at h
              have h' := ih _ _ h
              exact h'
          · cases h
      have efs : ∀ (ops : Array Oper) (W n : Nat) (l : List Oper) (i : Nat) (σ τ : St E) (L : List (Ef E)), efsOf E ct ops W n l i σ = some (L, τ) → τ.b = σ.b := by
        intro ops W n l
        induction l with
        | nil => intro i σ τ L h; simp only [efsOf, Option.some.injEq, Prod.mk.injEq] at h; rw [h.2]
        | cons o l ih =>
          intro i σ τ L h
          unfold efsOf at h
          split at h
          · rename_i R he
            cases hb : Nat.ble R.n (keyAt W n i + W) with
            | false => simp [hb] at h
            | true =>
              simp only [hb, cond_true] at h
              split at h
              · rename_i L' τ' h'
                simp only [Option.some.injEq, Prod.mk.injEq] at h
                obtain ⟨_, rfl⟩ := h
                have h'' := ih _ _ _ _ h'
                exact h''
              · cases h
          · cases h
      have drawn : ∀ (ops : Array Oper) (σ τ : St E), runDrawn E ct ops σ = some τ → τ.b = σ.b := by
        intro ops σ τ h
        obtain ⟨hw, W, h⟩ := drawn_width h
        obtain ⟨L, τ', he, hok, rfl⟩ := drawnW_some h
        have h' := efs _ _ _ _ _ _ _ _ he
        exact h'
      have code : ∀ (k : List It) (σ : St E) (c : Code) (c' : Cfg E), moveCode E ct k σ c = .go c' → c'.σ.b = σ.b := by
        intro k σ c c' h
        cases c with
        | region id o dr =>
          cases dr with
          | true =>
            simp only [moveCode] at h
            cases hr : runDrawn E ct o σ with
            | none => simp [hr] at h
            | some τ =>
              simp only [hr, Mv.go.injEq] at h
              subst h
              exact drawn _ _ _ hr
          | false =>
            simp only [moveCode] at h
            cases hr : runOps E ct o o.toList σ with
            | none => simp [hr] at h
            | some τ =>
              simp only [hr, Mv.go.injEq] at h
              subst h
              exact ops _ _ _ _ hr
        | cond x y z =>
          simp only [moveCode] at h
          split at h
          · simp only [Mv.go.injEq] at h; subst h; rfl
          · simp only [Mv.go.injEq] at h; subst h; rfl
          · cases h
        | skip => simp only [moveCode, Mv.go.injEq] at h; subst h; rfl
        | label l => simp only [moveCode, Mv.go.injEq] at h; subst h; rfl
        | seq x y => simp only [moveCode, Mv.go.injEq] at h; subst h; rfl
        | block id x => simp only [moveCode, Mv.go.injEq] at h; subst h; rfl
        | exit id => simp only [moveCode, Mv.go.injEq] at h; subst h; rfl
        | goto l => simp only [moveCode, Mv.go.injEq] at h; subst h; rfl
        | ret => simp only [moveCode, Mv.go.injEq] at h; subst h; rfl
        | loop x =>
          simp only [moveCode] at h
          split at h
          · simp only [Mv.go.injEq] at h; subst h; rfl
          · cases h
        | scope x =>
          simp only [moveCode] at h
          split at h
          · simp only [Mv.go.injEq] at h; subst h; rfl
          · cases h
        | _ => simp [moveCode] at h
      have move : ∀ (c c' : Cfg E), moveC E ct c = .go c' → c'.σ.b = c.σ.b := by
        intro c c' h
        obtain ⟨k, e, σ⟩ := c
        cases k with
        | nil => simp [moveC] at h
        | cons x k =>
          cases x with
          | code c =>
            cases e with
            | normal => exact code _ _ _ _ h
            | _ => simp only [moveC, Mv.go.injEq] at h; subst h; rfl
          | blk id =>
            cases e with
            | exit j =>
              simp only [moveC] at h
              cases hj : Nat.beq j id <;> simp only [hj, cond_true, cond_false, Mv.go.injEq] at h <;> subst h <;> rfl
            | _ => simp only [moveC, Mv.go.injEq] at h; subst h; rfl
          | rd c n =>
            cases e with
            | normal =>
              simp only [moveC] at h
              split at h
              · split at h
                · simp only [Mv.go.injEq] at h; subst h; rfl
                · cases h
              · cases h
            | _ => simp only [moveC, Mv.go.injEq] at h; subst h; rfl
          | sc c n =>
            cases e with
            | goto l =>
              simp only [moveC] at h
              split at h
              · simp only [Mv.go.injEq] at h; subst h; rfl
              · cases h
            | _ => cases n <;> simp only [moveC, Mv.go.injEq] at h <;> subst h <;> rfl
          | mk =>
            cases e with
            | normal =>
              simp only [moveC] at h
              split at h
              · simp only [Mv.go.injEq] at h; subst h; rfl
              · cases h
            | _ => simp [moveC] at h
      intro n
      induction n with
      | zero => intro x y h; simp only [runC, Option.some.injEq] at h; rw [h]
      | succ n ih =>
        intro x y h
        unfold runC at h
        cases hm : moveC E ct x with
        | stop => simp only [hm, Option.some.injEq] at h; rw [h]
        | fail => simp [hm] at h
        | go c' =>
          simp only [hm] at h
          exact (ih _ _ h).trans (move _ _ hm)
    split at h
    · rename_i σ hr
      cases hv : resultOf E fn σ with
      | none => simp [hv] at h
      | some v =>
        simp only [hv, Option.some.injEq] at h
        exact fin _ v hr rfl (.inr rfl) hv h.symm (keepB _ _ _ hr)
    · rename_i σ hr
      cases hv : resultOf E fn σ with
      | none => simp [hv] at h
      | some v =>
        simp only [hv, Option.some.injEq] at h
        exact fin _ v hr rfl (.inl rfl) hv h.symm (keepB _ _ _ hr)
    · cases h
theorem callT_ok (hmx : E.P.follows .mixedOrders = true) (fuel : Nat) (df : Nat → Option (SV × Tab E × Nat)) : ∀ (m : Nat), TableOk E (callT E fuel df m)
  | 0 => by
    refine ⟨callT_tells fuel df 0, ?_⟩
    intro g l ats b key d R h hc S w0 U μ w vs hf hm hs
    unfold callT at h
    simp only at h
    split at h
    · exact contract_ok h hc hf hm hs
    · cases h
  | m + 1 => by
    refine ⟨callT_tells fuel df (m + 1), ?_⟩
    intro g l ats b key d R h hc S w0 U μ w vs hf hm hs
    unfold callT at h
    simp only at h
    split at h
    · exact contract_ok h hc hf hm hs
    · split at h
      · rename_i fn hfn
        cases hnm : (fn.name == "runtime.NumGoroutine") with
        | true => simp [hnm] at h
        | false =>
          simp only [hnm, cond_false] at h
          exact .inr (body_ok (callT_ok hmx fuel df m) hmx hfn hnm h hc hf hm hs)
      · cases h
    · split at h
      · rename_i v T n hv
        split at h
        · simp only [Option.some.injEq] at h
          subst h
          exact absurd (Conj.app hc).2 (by simp [Conj, NeedC])
        · cases h
      · split at h
        · split at h
          · simp only [Option.some.injEq] at h
            subst h
            exact absurd (Conj.cons hc).1 (by simp [NeedE])
          · cases h
        · cases h
    · cases h
/-! ### Pieces of a body -/
/-- How the body is to end. -/
abbrev Post (E : Env) (fn : Func) (S : Nat → Prop) (w0 : World) (vals : Nat → Value) (K0 : Nat) (res : SV) (T' : Tab E) (n' : Nat) : Exit → Act → World → Prop :=
  bodyPost E.P fn fun e w' => ∃ u μ', e = .returned u ∧ (∀ k, k < K0 → μ' k = vals k) ∧ rel (fun k => k < n') μ' res u ∧ Mem S w0 (fun k => k < n') μ' T' w'
/-- From here the function comes to res, and T' speaks of the world behind it. -/
def Fin (E : Env) (fn : Func) (K0 : Nat) (res : SV) (T' : Tab E) (n' : Nat) (k : List It) (s : List SV) (b : Tab E) (n : Nat) : Prop :=
  ∀ S w0 vals μ a w, (∀ k, k < K0 → μ k = vals k) → Sim S w0 (fun k => k < n) n μ ⟨s, [], b, [], [], n⟩ a w → kont E.P (Post E fn S w0 vals K0 res T' n') k .normal a w
inductive Seg (E : Env) where
  | fin (res : SV) (T' : Tab E) (n' : Nat)
  | at (k : List It) (s : List SV) (b : Tab E) (n : Nat)
def keepS (keep : List Nat) : Nat → List SV → List SV
  | _, [] => []
  | i, v :: r => (bif keep.contains i then v else .na) :: keepS keep (i + 1) r
theorem keepS_slots {U : Nat → Prop} {μ : Nat → Value} {keep : List Nat} : ∀ {i : Nat} {s : List SV} {us : List Value}, Slots U μ s us → Slots U μ (keepS keep i s) us
  | _, [], us, h => h
  | i, v :: s, us, h => by
    obtain ⟨u, r, rfl, h1, h2⟩ := h.consr
    refine slots_cons.2 ⟨?_, keepS_slots h2⟩
    cases keep.contains i with
    | true => exact h1
    | false => exact rel_x
def segOf (E : Env) (ct : Table E) (fn : Func) (fuel : Nat) (K0 : Nat) (keep : List Nat) (k : List It) (s : List SV) (b : Tab E) (n : Nat) (d : List (Dec E)) : Option (Seg E × List Prop) := match runC E ct fuel ⟨k, .normal, ⟨s, [], b, [], d, n⟩⟩ with
  | some ⟨[], .ret, σ⟩ => match resultOf E fn σ with
    | some v => match normOf K0 [v] (σ.u ++ σ.b) with
      | some ([v'], T', n') => some (.fin v' T' n', σ.c)
      | _ => none
    | none => none
  | some ⟨[], .normal, σ⟩ => match resultOf E fn σ with
    | some v => match normOf K0 [v] (σ.u ++ σ.b) with
      | some ([v'], T', n') => some (.fin v' T' n', σ.c)
      | _ => none
    | none => none
  | some ⟨k', .normal, σ⟩ => match normOf K0 (keepS keep 0 σ.s) (σ.u ++ σ.b) with
    | some (s', b', n') => some (.at k' s' b' n', σ.c)
    | none => none
  | _ => none
section
variable {ct : Table E} {fn : Func} {K0 n n' m : Nat} {keep : List Nat} {k k' : List It} {s s' : List SV} {b b' : Tab E} {p : List Prop} {res : SV} {T' : Tab E}
theorem up_lt (n m : Nat) : ∀ k, Up (fun k => k < n) n m k → k < n ∨ k < m := by
  intro k hk
  rcases hk with hk | hk
  · exact .inl hk
  · exact .inr hk.2
theorem free_lt (n m : Nat) : Free (fun k => k < n) n m := fun k h1 _ h2 => by omega
theorem seg_fin (hct : TableOk E ct) (hmx : E.P.follows .mixedOrders = true) (hK : K0 ≤ n) (fuel : Nat) (d : List (Dec E)) (h : segOf E ct fn fuel K0 keep k s b n d = some (.fin res T' n', p)) (hp : Conj p) : Fin E fn K0 res T' n' k s b n := by
  intro S w0 vals μ a w hv0 hS
  have fin : ∀ (y : Cfg E) (v : SV), runC E ct fuel ⟨k, .normal, ⟨s, [], b, [], d, n⟩⟩ = some y → y.k = [] → (y.e = .normal ∨ y.e = .ret) → resultOf E fn y.σ = some v → normOf K0 [v] (y.σ.u ++ y.σ.b) = some ([res], T', n') → y.σ.c = p →
      kont E.P (Post E fn S w0 vals K0 res T' n') k .normal a w := by
    intro y v hr hk he hv hnorm hc
    refine run_sound (S := S) (w0 := w0) (B := fun k => k < n) (n0 := n) (μ := μ) hct hmx (x := ⟨k, .normal, ⟨s, [], b, [], d, n⟩⟩) hr ⟨hS.d, hS.s, hS.m, hS.le⟩ (free_lt _ _) (by rw [hc]; exact hp) (fun μ' a' w' hμ hS' => ?_)
    obtain ⟨u, r1, r2⟩ := resultOf_run hS' hv
    obtain ⟨μ'', q1, q2, q3, q4⟩ := normOf_ok hnorm (slots_cons.2 ⟨r2, slots_nil⟩) hS'.m
    have q2' := (slots_cons.1 q2).1
    rw [hk]
    rcases he with he | he <;> rw [he] <;> exact ⟨hS'.d, u, r1, u, μ'', rfl, fun k hk => (q1 k hk).trans ((hμ k (.inl (Nat.lt_of_lt_of_le hk hK))).trans (hv0 k hk)), q2', q3⟩
  unfold segOf at h
  split at h
  · rename_i σ hr
    cases hv : resultOf E fn σ with
    | none => simp [hv] at h
    | some v =>
      simp only [hv] at h
      split at h
      · rename_i v' T2 n2 hn
        simp only [Option.some.injEq, Prod.mk.injEq, Seg.fin.injEq] at h
        obtain ⟨⟨rfl, rfl, rfl⟩, rfl⟩ := h
        exact fin _ v hr rfl (.inr rfl) hv hn rfl
      · cases h
  · rename_i σ hr
    cases hv : resultOf E fn σ with
    | none => simp [hv] at h
    | some v =>
      simp only [hv] at h
      split at h
      · rename_i v' T2 n2 hn
        simp only [Option.some.injEq, Prod.mk.injEq, Seg.fin.injEq] at h
        obtain ⟨⟨rfl, rfl, rfl⟩, rfl⟩ := h
        exact fin _ v hr rfl (.inl rfl) hv hn rfl
      · cases h
  · split at h <;> simp at h
  · cases h
theorem seg_at (hct : TableOk E ct) (hmx : E.P.follows .mixedOrders = true) (hK : K0 ≤ n) (fuel : Nat) (d : List (Dec E)) (h : segOf E ct fn fuel K0 keep k s b n d = some (.at k' s' b' m, p)) (hp : Conj p) (hF : Fin E fn K0 res T' n' k' s' b' m) : Fin E fn K0 res T' n' k s b n := by
  intro S w0 vals μ a w hv0 hS
  unfold segOf at h
  split at h
  · rename_i σ hr
    cases hv : resultOf E fn σ with
    | none => simp [hv] at h
    | some v => simp only [hv] at h; split at h <;> simp at h
  · rename_i σ hr
    cases hv : resultOf E fn σ with
    | none => simp [hv] at h
    | some v => simp only [hv] at h; split at h <;> simp at h
  · rename_i k'' σ _ hr
    split at h
    · rename_i s2 b2 n2 hn
      simp only [Option.some.injEq, Prod.mk.injEq, Seg.at.injEq] at h
      obtain ⟨⟨rfl, rfl, rfl, rfl⟩, rfl⟩ := h
      refine run_sound (S := S) (w0 := w0) (B := fun k => k < n) (n0 := n) (μ := μ) hct hmx (x := ⟨k, .normal, ⟨s, [], b, [], d, n⟩⟩) hr ⟨hS.d, hS.s, hS.m, hS.le⟩ (free_lt _ _) hp (fun μ' a' w' hμ hS' => ?_)
      obtain ⟨μ'', q1, q2, q3, q4⟩ := normOf_ok hn (keepS_slots hS'.s) hS'.m
      refine hF S w0 vals μ'' a' w' (fun k hk => (q1 k hk).trans ((hμ k (.inl (Nat.lt_of_lt_of_le hk hK))).trans (hv0 k hk))) ⟨hS'.d, ?_, ?_, Nat.le_refl _⟩
      · exact slots_mono (fun k hk => .inl hk) (fun _ _ => rfl) _ _ q2
      · exact q3.mono (fun k hk => .inl hk) (fun _ _ => rfl)
    · cases h
  · cases h
/-- Into a loop, round it; into a scope, round it. -/
def inK : List It → Nat → List It
  | .code (.loop c) :: k, n => .rd c n :: k
  | k, _ => k
def bodyK : List It → Nat → List It
  | .code (.loop c) :: k, n => .code c :: .rd c n :: k
  | k, _ => k
def scK : List It → Nat → List It
  | .code (.scope c) :: k, n => .code c :: .sc c n :: k
  | k, _ => k
def stackOf : Option (Cfg E) → List It
  | some c => c.k
  | none => []
theorem fin_loop {K : List It} (m : Nat) (h : Fin E fn K0 res T' n' (inK K m) s b n) : Fin E fn K0 res T' n' K s b n := by
  intro S w0 vals μ a w hv hS
  have := h S w0 vals μ a w hv hS
  unfold inK at this
  split at this
  · exact loop_in m this
  · exact this
theorem fin_round {K : List It} {m : Nat} (h : Fin E fn K0 res T' n' (bodyK K m) s b n) : Fin E fn K0 res T' n' (inK K (m + 1)) s b n := by
  intro S w0 vals μ a w hv hS
  have := h S w0 vals μ a w hv hS
  unfold bodyK at this
  unfold inK
  split at this
  · exact this
  · exact this
theorem fin_scope {K : List It} (m : Nat) (h : Fin E fn K0 res T' n' (scK K m) s b n) : Fin E fn K0 res T' n' K s b n := by
  intro S w0 vals μ a w hv hS
  have := h S w0 vals μ a w hv hS
  unfold scK at this
  split at this
  · exact scope_in m this
  · exact this
theorem does_of_fin {f : Nat} {c : Code} {T : Tab E} {l : List SV} (hf : E.P.funcs[f]? = some fn) (hn : (fn.name == "runtime.NumGoroutine") = false) (hb : fn.body = some c) (h : Fin E fn n res T' n' [.code c] (argsS l fn.ntmps) T n) : Does E f T n l res T' n' := by
  intro S w μ vs hm hs
  have h1 : fn.name ≠ "runtime.NumGoroutine" := by simpa using hn
  refine .inr ⟨by simp [callFunc, hf, h1, hb, program, Sem.run], ?_⟩
  refine calls_of_wp hf hb ?_
  exact h S w μ μ _ w (fun _ _ => rfl) ⟨rfl, slots_mono (fun k hk => .inl hk) (fun _ _ => rfl) _ _ (args_slots hs fn.ntmps), hm.mono (fun k hk => .inl hk) (fun _ _ => rfl), Nat.le_refl _⟩
end
/-- A whole path: what it gives, on which conditions. -/
def pathOf (E : Env) (ct : Table E) (fn : Func) (fuel : Nat) (T : Tab E) (n : Nat) (l : List SV) (d : List (Dec E)) : Option (SV × Tab E × Nat × List Prop) := match fn.body with
  | none => none
  | some c => match segOf E ct fn fuel n [] [.code c] (argsS l fn.ntmps) T n d with
    | some (.fin r T' n', p) => some (r, T', n', p)
    | _ => none
theorem does_path {ct : Table E} (hct : TableOk E ct) (hmx : E.P.follows .mixedOrders = true) {f : Nat} {fn : Func} {T T' : Tab E} {n n' : Nat} {l : List SV} {r : SV} {p : List Prop} (hf : E.P.funcs[f]? = some fn) (hn : (fn.name == "runtime.NumGoroutine") = false) (fuel : Nat) (d : List (Dec E))
    (h : pathOf E ct fn fuel T n l d = some (r, T', n', p)) (hp : Conj p) : Does E f T n l r T' n' := by
  unfold pathOf at h
  cases hb : fn.body with
  | none => simp [hb] at h
  | some c =>
    simp only [hb] at h
    split at h
    · rename_i r2 T2 n2 p2 hs
      simp only [Option.some.injEq, Prod.mk.injEq] at h
      obtain ⟨rfl, rfl, rfl, rfl⟩ := h
      exact does_of_fin hf hn hb (seg_fin hct hmx (Nat.le_refl _) fuel d hs hp)
    · cases h
end
end
end Go.Proofs.YtpfignfgfhbblaaGreatDoorSx
/- More on what called functions come to: less said, a nil row, from a contract to a call. -/
set_option linter.unusedVariables false
set_option linter.unusedSimpArgs false
namespace Go.Proofs.YtpfignfgfhbblaaGreatDoorSx
open Go.RowKit Go.Proofs.YtpfignfgfhbblaaGreatDoorW.PrintLast Go.Proofs.YtpfignfgfhbblaaGreatDoorW.PrintWords
noncomputable section
theorem Mem.sub {E : Env} {S : Nat → Prop} {w0 w : World} {U : Nat → Prop} {μ : Nat → Value} {b b' : Tab E} (h : Mem S w0 U μ b w) (hb : ∀ k x, look b' k = some x → look b k = some x) : Mem S w0 U μ b' w where
  obj := fun k x hk => h.obj k x (hb k x hk)
  sep := fun k k' x x' g hk hk' => h.sep k k' x x' g (hb k x hk) (hb k' x' hk')
  kept := h.kept
  dom := h.dom
theorem Does.sub {E : Env} {g n n' : Nat} {T T' T2 : Tab E} {args : List SV} {res : SV} (h : Does E g T n args res T' n') (hne : T' ≠ []) (hb : ∀ k x, look T2 k = some x → look T' k = some x) : Does E g T n args res T2 n' := by
  intro S w μ vs hm hs
  rcases h S w μ vs hm hs with ⟨u, h1, h2, h3, h4⟩ | ⟨h1, h2⟩
  · exact (hne h3).elim
  · refine .inr ⟨h1, h2.mono fun e w' hh => ?_⟩
    obtain ⟨u, μ', e1, e2, e3, e4⟩ := hh
    exact ⟨u, μ', e1, e2, e3, Mem.sub e4 hb⟩
theorem Does.nil {E : Env} {g n n' : Nat} {T T' : Tab E} {args : List SV} {res : SV} (h : Does E g T n args res T' n') (hn : n' = n) : Does E g T n args res [] n' := by
  intro S w μ vs hm hs
  rcases h S w μ vs hm hs with ⟨u, h1, h2, h3, h4⟩ | ⟨h1, h2⟩
  · exact .inl ⟨u, h1, h2, rfl, h4⟩
  · refine .inr ⟨h1, h2.mono fun e w' hh => ?_⟩
    obtain ⟨u, μ', e1, e2, e3, e4⟩ := hh
    exact ⟨u, μ', e1, e2, e3, Mem.sub e4 (fun k x h => by simp [look] at h)⟩
/-- The call is entered. -/
def Enters (E : Env) (g : Nat) : Prop := ∀ (vs : Array Value) (w : World), (callFunc g vs).run E.P w = .ok (.enter g vs) w
theorem enters {E : Env} {g : Nat} {fn : Func} (hf : E.P.funcs[g]? = some fn) (hn : (fn.name == "runtime.NumGoroutine") = false) (hb : fn.body.isNone = false) : Enters E g := by
  intro vs w
  have h1 : fn.name ≠ "runtime.NumGoroutine" := by simpa using hn
  have h2 : ¬ fn.body = none := by intro h; simp [h] at hb
  simp [callFunc, hf, h1, h2, program, Sem.run]
theorem Does.calls {E : Env} {g n n' : Nat} {T T' : Tab E} {args : List SV} {res : SV} (h : Does E g T n args res T' n') (he : Enters E g) {S : Nat → Prop} {w : World} {μ : Nat → Value} {vs : List Value} (hm : Mem S w (fun k => k < n) μ T w) (hs : Slots (fun k => k < n) μ args vs) :
    Calls E.P g vs.toArray w fun e w' => ∃ u μ', e = .returned u ∧ (∀ k, k < n → μ' k = μ k) ∧ rel (fun k => k < n') μ' res u ∧ Mem S w (fun k => k < n') μ' T' w' := by
  rcases h S w μ vs hm hs with ⟨u, h1, _⟩ | ⟨_, h2⟩
  · rw [he] at h1
    cases h1
  · exact h2
/-- A function of one row that gives the row's copy: of one that is nil, and of one that is not. -/
theorem does_split {E : Env} {g : Nat} {e : TypeId} {l : List (E.fm e).α} (he : Enters E g) (hA : Does E g [(0, .ro e l true)] 1 [.o 0] (.o 1) [(0, .ro e l true), (1, .own e l)] 2) (hB : Does E g [] 0 [.v (.slice none 0 0)] (.v (.slice none 0 0)) [] 0) :
    Does E g [(0, .ro e l false)] 1 [.o 0] (.o 1) [(1, .own e l)] 2 := by
  intro S w μ vs hm hs
  obtain ⟨hu, hro⟩ := hm.obj 0 _ rfl
  rcases hro.2 with ⟨h1, h2, _⟩ | hnn
  · have hl : l = [] := List.eq_nil_of_length_eq_zero h2
    obtain ⟨u, r, rfl, hr, hr2⟩ := hs.consr
    have hr3 := hr2.nilr
    subst hr3
    unfold rel at hr
    have hu' : u = .slice none 0 0 := hr.2.1.trans h1
    subst hu'
    have hm0 : Mem S w (fun k => k < 0) μ ([] : Tab E) w := ⟨fun k x h => by simp [look] at h, fun k k' x x' g h => by simp [look] at h, hm.kept, hm.dom⟩
    refine .inr ⟨he _ _, (hB.calls he hm0 (slots_cons.2 ⟨rel_v.2 rfl, slots_nil⟩)).mono fun e' w' hh => ?_⟩
    obtain ⟨u, μ', e1, e2, e3, e4⟩ := hh
    rw [rel_v.1 e3] at e1
    refine ⟨.slice none 0 0, upd μ 1 (.slice none 0 0), e1, fun k hk => (if_neg (by omega) : upd μ 1 (.slice none 0 0) k = μ k), ?_, ?_⟩
    · unfold rel
      exact ⟨by omega, upd_same.symm, _, _, _, upd_same⟩
    · subst hl
      refine ⟨fun k x hk => ?_, fun k k' x x' g hk hk' ho ho' hb hb' => ?_, e4.kept, e4.dom⟩
      · rw [look_cons] at hk
        by_cases hk1 : k = 1
        · rw [if_pos hk1] at hk
          cases hk
          subst hk1
          refine ⟨by omega, ?_, fun g hg => ?_⟩
          · rw [upd_same]
            exact World.ownsRow_nil _ 0 e _
          · rw [upd_same] at hg
            simp [blk] at hg
        · rw [if_neg hk1] at hk
          simp [look] at hk
      · rw [look_cons] at hk hk'
        split at hk <;> split at hk'
        · omega
        · simp [look] at hk'
        · simp [look] at hk
        · simp [look] at hk
  · have hm' : Mem S w (fun k => k < 1) μ [(0, (.ro e l true : SObj E))] w := by
      refine ⟨fun k x hk => ?_, fun k k' x x' g hk hk' ho ho' hb hb' => ?_, hm.kept, hm.dom⟩
      · rw [look_cons] at hk
        by_cases hk0 : k = 0
        · rw [if_pos hk0] at hk
          cases hk
          subst hk0
          exact ⟨by omega, hro.1, .inr hnn⟩
        · rw [if_neg hk0] at hk
          simp [look] at hk
      · rw [look_cons] at hk
        split at hk
        · cases hk; cases ho
        · simp [look] at hk
    exact Does.sub hA (by simp) (fun k x hk => by
      rw [look_cons] at hk
      split at hk
      · rename_i hk1
        cases hk
        subst hk1
        rfl
      · simp [look] at hk) S w μ vs hm' hs
/-- What is not told of a slot may be told. -/
def Weak : List SV → List SV → Prop
  | [], [] => True
  | x :: s, y :: s' => (x = .na ∨ x = y) ∧ Weak s s'
  | _, _ => False
theorem weak_slots {U : Nat → Prop} {μ : Nat → Value} : ∀ {s s' : List SV} {us : List Value}, Weak s s' → Slots U μ s' us → Slots U μ s us
  | [], [], _, _, h => h
  | x :: s, y :: s', us, hw, h => by
    obtain ⟨u, r, rfl, h1, h2⟩ := h.consr
    refine slots_cons.2 ⟨?_, weak_slots hw.2 h2⟩
    rcases hw.1 with e | e
    · rw [e]; exact rel_x
    · rw [e]; exact h1
  | [], _ :: _, _, hw, _ => hw.elim
  | _ :: _, [], _, hw, _ => hw.elim
theorem fin_weak {E : Env} {fn : Func} {K0 n n' : Nat} {k : List It} {s s' : List SV} {b : Tab E} {res : SV} {T' : Tab E} (h : Fin E fn K0 res T' n' k s b n) (hw : Weak s s') : Fin E fn K0 res T' n' k s' b n := by
  intro S w0 vals μ a w hv hS
  exact h S w0 vals μ a w hv ⟨hS.d, weak_slots hw hS.s, hS.m, hS.le⟩
/-- The stack at a place of a function's code: the way there (which part of a sequence or test), the rounds that are left to the loops around it. -/
def stackAt : List Nat → Code → List Nat → List It → List It
  | [], c, _, k => .code c :: k
  | i :: p, .seq a b, ms, k => match i with
    | 0 => stackAt p a ms (.code b :: k)
    | _ => stackAt p b ms k
  | i :: p, .cond _ a b, ms, k => match i with
    | 0 => stackAt p a ms k
    | _ => stackAt p b ms k
  | _ :: p, .block id b, ms, k => stackAt p b ms (.blk id :: k)
  | _ :: p, .loop b, ms, k => match ms with
    | m :: ms => stackAt p b ms (.rd b m :: k)
    | [] => []
  | _ :: p, .scope b, ms, k => match ms with
    | m :: ms => stackAt p b ms (.sc b m :: k)
    | [] => []
  | _, _, _, _ => []
/-- A law over numbers alone: from its contract to its call. -/
def GlobIn (E : Env) (w : World) : Prop := (∀ g vs, glAll (E.gl g) = some vs → ∃ t f, w.heap[g]? = some (.cells vs.toArray t f)) ∧ ∀ g p, E.ga g = some p → g < w.heap.size ∧ ∃ v, w.cell? ⟨g, 0, none⟩ = some v ∧ p v
theorem GlobIn.ok {E : Env} {w : World} (h : GlobIn E w) : GlobOk E (fun g => g < w.heap.size) w := ⟨fun g vs hv => by
  obtain ⟨t, f, hb⟩ := h.1 g vs hv
  exact ⟨(Array.getElem?_eq_some_iff.1 hb).1, t, f, hb⟩, h.2⟩
theorem law_calls {E : Env} {g n' : Nat} {T' : Tab E} {l : List Value} {v : Value} (he : Enters E g) (h : Does E g [] 0 (l.map .v) (.v v) T' n') (w : World) (hgl : GlobIn E w) : Calls E.P g l.toArray w fun e w' => e = .returned v ∧ Below w.heap.size w w' := by
  have hm : Mem (fun g => g < w.heap.size) w (fun k => k < 0) (fun _ => undef) ([] : Tab E) w := ⟨fun k x h => by simp [look] at h, fun k k' x x' g h => by simp [look] at h, Kept.refl _ _, fun g hg => hg, hgl.ok⟩
  refine (h.calls he hm (slots_vals _ _ l)).mono fun e w' hh => ?_
  obtain ⟨u, μ', e1, e2, e3, e4⟩ := hh
  rw [rel_v.1 e3] at e1
  exact ⟨e1, e4.kept.below (fun g hg => hg)⟩
theorem slots_back (U : Nat → Prop) (μ : Nat → Value) : ∀ (l us : List Value), Slots U μ (l.map .v) us → us = l
  | [], us, h => h
  | _ :: r, us, h => by
    obtain ⟨u, t, rfl, e1, e2⟩ := h
    rw [rel_v.1 e1, slots_back U μ r t e2]
theorem mem_after {E : Env} {S : Nat → Prop} {w w' : World} {μ : Nat → Value} {T : Tab E} (hm : Mem S w (fun k => k < 0) μ T w) (h : Below w.heap.size w w') : Mem S w (fun k => k < 0) μ ([] : Tab E) w' :=
  ⟨fun k x h => by simp [look] at h, fun k k' x x' g h => by simp [look] at h, ⟨h.os, h.tape, h.output, h.size, fun k hk => h.block k (hm.dom.1 k hk)⟩, hm.dom⟩
/-- What a memory says of the package variables of its own world. -/
theorem Mem.globs {E : Env} {S : Nat → Prop} {w0 w : World} {U : Nat → Prop} {μ : Nat → Value} {T : Tab E} (hm : Mem S w0 U μ T w) : GlobIn E w :=
  have h := hm.dom.2.kept hm.dom.1 hm.kept
  ⟨fun g vs hv => (h.1 g vs hv).2, h.2⟩
/-- A callee off the shelf. -/
theorem does_lib {E : Env} {g : Nat} {l : List Value} {v : Value} (he : Enters E g) (h : ∀ w, GlobIn E w → Calls E.P g l.toArray w fun e w' => e = .returned v ∧ Below w.heap.size w w') : Does E g [] 0 (l.map .v) (.v v) [] 0 := by
  intro S w μ vs hm hs
  have e := slots_back _ _ _ _ hs
  subst e
  refine .inr ⟨he _ _, (h w (hm.globs)).mono fun e w' hh => ?_⟩
  exact ⟨v, μ, hh.1, fun _ _ => rfl, rel_v.2 rfl, mem_after hm hh.2⟩
/-- A callee off the shelf of whose answer not all is told. -/
theorem does_libR {E : Env} {g : Nat} {l : List Value} {res : SV} (he : Enters E g) (h : ∀ w, GlobIn E w → Calls E.P g l.toArray w fun e w' => ∃ u, e = .returned u ∧ (∀ U μ, rel U μ res u) ∧ Below w.heap.size w w') : Does E g [] 0 (l.map .v) res [] 0 := by
  intro S w μ vs hm hs
  have e := slots_back _ _ _ _ hs
  subst e
  refine .inr ⟨he _ _, (h w (hm.globs)).mono fun e w' hh => ?_⟩
  obtain ⟨u, e1, e2, e3⟩ := hh
  exact ⟨u, μ, e1, fun _ _ => rfl, e2 _ _, mem_after hm e3⟩
/-- A callee that an older machine has walked. -/
theorem does_run {E : Env} {g : Nat} {l : List Value} {v : Value} (h : ∀ w : World, (callFunc g l.toArray).run E.P w = .ok (.value v) w ∨ (callFunc g l.toArray).run E.P w = .ok (.enter g l.toArray) w ∧ Calls E.P g l.toArray w fun e w' => e = .returned v ∧ Below w.heap.size w w') : Does E g [] 0 (l.map .v) (.v v) [] 0 := by
  intro S w μ vs hm hs
  have e := slots_back _ _ _ _ hs
  subst e
  rcases h w with h1 | ⟨h1, h2⟩
  · exact .inl ⟨v, h1, rel_v.2 rfl, rfl, rfl⟩
  · refine .inr ⟨h1, h2.mono fun e w' hh => ?_⟩
    exact ⟨v, μ, hh.1, fun _ _ => rfl, rel_v.2 rfl, mem_after hm hh.2⟩
end
end Go.Proofs.YtpfignfgfhbblaaGreatDoorSx
/- A slice among a law's arguments, of any elements: opened as one list of them, read only. -/
namespace Go.Proofs.YtpfignfgfhbblaaGreatDoorSx
open Go.RowKit Go.ChangeShapes Go.WideShapes
set_option linter.unusedVariables false
section
variable {H : Type} {enc : TypeId × Value → H} {P : Program} {w : World} {base : Nat} {spare : Nat → Bool} {held : Bool}
theorem cells_at {a : Addr} {n : Nat} {vs : List Value} (h : w.cells? base a n = some vs) : vs.length = n ∧ ∀ j u, vs[j]? = some u → w.cell? (a.add j) = some u := by
  unfold World.cells? at h
  split at h
  · have hl := mapM_some_length h
    simp at hl
    refine ⟨hl, fun j u hu => ?_⟩
    have hj : j < n := by
      have := (List.getElem?_eq_some_iff.1 hu).1
      omega
    have := mapM_some_get h j j (by simp [hj])
    rw [this, hu]
  · cases h
/-- One element's data, told by what it is. -/
def Reads (enc : TypeId × Value → H) (P : Program) (w : World) (base : Nat) (spare : Nat → Bool) (held : Bool) (e : TypeId) (F : Fmt) (G : F.α → Prop) : Prop :=
  ∀ n cs x, cs.length = F.sz → DataW.trod enc P w base spare held n e cs = some x → ∃ a, F.enc a = cs ∧ G a
def Opened (w : World) (F : Fmt) (a : Option Addr) (len cap : Nat) (l : List F.α) : Prop :=
  (a = none ∧ len = 0 ∧ cap = 0 ∧ l = []) ∨ ∃ x, a = some x ∧ len ≤ cap ∧ l.length = len ∧ ∀ j u, (cellsF F l)[j]? = some u → w.cell? (x.add j) = some u
theorem addr_add2 (x : Addr) (i j : Nat) : (x.add i).add j = x.add (i + j) := by
  unfold Addr.add
  split <;> (simp_all <;> split <;> simp_all [Nat.add_assoc])
theorem open_row {t e : TypeId} {F : Fmt} {G : F.α → Prop} {a : Option Addr} {len cap : Nat} {d : DataW H} {ps : List MemPlace} (ht : P.underlying t = some (.slice e)) (hsz : P.cellsOf e = F.sz)
    (hone : Reads enc P w base spare held e F G) (h : DataW.Trod enc P w base spare held t (.slice a len cap) d ps) :
    ∃ l : List F.α, l.length = len ∧ (∀ x ∈ l, G x) ∧ Opened w F a len cap l ∧ ((d = .nil ∧ len = 0) ∨ ∃ es rs, d = .slice es rs ∧ es.length = len) := by
  obtain ⟨fuel, hf⟩ := h
  rcases DataW.trod_slice ht hf with ⟨hcs, hx⟩ | ⟨x, l, c, elems, rest, n, _, hcs, hx, _, hl, hm, hlen, hel, _, _⟩
  · simp [Value.cells] at hcs
    obtain ⟨rfl, rfl, rfl⟩ := hcs
    exact ⟨[], rfl, fun x hx => by simp at hx, .inl ⟨rfl, rfl, rfl, rfl⟩, .inl ⟨(Prod.mk.inj hx).1, rfl⟩⟩
  · simp [Value.cells] at hcs
    obtain ⟨rfl, rfl, rfl⟩ := hcs
    rw [hsz] at hel
    have key : ∀ k, k ≤ len → ∃ L : List F.α, L.length = k ∧ (∀ y ∈ L, G y) ∧ ∀ j u, (cellsF F L)[j]? = some u → w.cell? (x.add j) = some u := by
      intro k
      induction k with
      | zero => exact fun _ => ⟨[], rfl, fun y hy => by simp at hy, fun j u hu => by simp [cellsF] at hu⟩
      | succ k ih =>
        intro hk
        obtain ⟨L, i1, i2, i3⟩ := ih (by omega)
        have he := hel k (by omega)
        cases hc : w.cells? base (x.add (k * F.sz)) F.sz with
        | none =>
          rw [hc] at he
          simp only [Option.bind_none] at he
          have : k < elems.length := by omega
          simp [List.getElem?_eq_getElem this] at he
        | some cs =>
          rw [hc] at he
          simp only [Option.bind_some] at he
          obtain ⟨c1, c2⟩ := cells_at hc
          obtain ⟨b, hb1, hb2⟩ := hone n cs elems[k] c1 (by rw [he]; exact List.getElem?_eq_getElem (by omega))
          refine ⟨L ++ [b], by simp [i1], fun y hy => ?_, fun j u hu => ?_⟩
          · rcases List.mem_append.1 hy with hy | hy
            · exact i2 y hy
            · simp at hy
              subst hy
              exact hb2
          · rw [cellsF_app] at hu
            have hcl := cellsF_length F L
            have hb3 : cellsF F [b] = cs := by simp [cellsF, hb1]
            rw [hb3] at hu
            by_cases hj : j < (cellsF F L).length
            · rw [List.getElem?_append_left hj] at hu
              exact i3 j u hu
            · rw [List.getElem?_append_right (by omega), hcl, i1] at hu
              have := c2 _ u hu
              rw [addr_add2] at this
              rw [← this]
              congr 2
              rw [hcl, i1] at hj
              omega
    obtain ⟨L, i1, i2, i3⟩ := key len (Nat.le_refl _)
    refine ⟨L, i1, i2, .inr ⟨x, rfl, hl, i1, i3⟩, .inr ⟨_, _, (Prod.mk.inj hx).1, by simpa using hlen⟩⟩
theorem reads_num {e : TypeId} {k : IntKind} (he : P.underlying e = some (.int k)) : Reads enc P w base spare held e (numF k) (fun n => (Lit.int k n).wf = true) := by
  intro n cs x _ h
  obtain ⟨z, rfl, _, hw⟩ := DataW.trod_int he h
  exact ⟨z, rfl, hw⟩
theorem reads_u8 {e : TypeId} (he : P.underlying e = some (.int .u8)) : Reads enc P w base spare held e u8F (fun n => (Lit.int .u8 n).wf = true) := by
  intro n cs x _ h
  obtain ⟨z, rfl, _, hw⟩ := DataW.trod_int he h
  exact ⟨z, rfl, hw⟩
theorem reads_str {e : TypeId} (he : P.underlying e = some .string) : Reads enc P w base spare held e strF (fun s => s.size ≤ maxLen) := by
  intro n cs x _ h
  obtain ⟨z, rfl, _, hw⟩ := DataW.trod_string he h
  exact ⟨z, rfl, hw⟩
theorem sized_row {ts : List TypeId} {ds : List (DataW H)} {t e : TypeId} {d : DataW H} {j len B : Nat} (hsz : (DataW.weightsEach P ts ds).all (· ≤ reachBytes) = true) (ht : ts[j]? = some t) (hd : ds[j]? = some d) (hu : P.underlying t = some (.slice e)) (hB : P.bytesOf e = B)
    (h : (d = .nil ∧ len = 0) ∨ ∃ es rs, d = .slice es rs ∧ es.length = len) : len * B ≤ 140737488351232 := by
  rcases h with ⟨_, rfl⟩ | ⟨es, rs, rfl, rfl⟩
  · simp
  · have z := sized_slice hsz ht hd hu
    rw [hB] at z
    exact Nat.le_trans (Nat.mul_le_mul_right _ (Nat.le_add_right _ _)) z
theorem ro_of_opened {F : Fmt} {a : Option Addr} {len cap : Nat} {l : List F.α} (h : Opened w F a len cap l) :
    Ro (fun g => g < w.heap.size) w (.slice a len cap) F.sz l.length (cellsF F l) false := by
  refine ⟨cellsF_length _ _, ?_⟩
  rcases h with ⟨rfl, rfl, rfl, rfl⟩ | ⟨x, rfl, h1, h2, h3⟩
  · exact .inl ⟨rfl, rfl, rfl⟩
  · by_cases h0 : len = 0
    · exact .inr (.inl ⟨by omega, x, cap, by rw [h0]⟩)
    · have hpos := F.pos
      have hlen := cellsF_length F l
      have hlt : 0 < (cellsF F l).length := by rw [hlen]; exact Nat.mul_pos (by omega) hpos
      have hc := h3 0 _ (List.getElem?_eq_getElem hlt)
      rw [show x.add 0 = x by unfold Addr.add; simp] at hc
      have hsp := World.cell?_spot hc
      have hb := World.block_lt_of_cell? w x hc
      obtain ⟨g, off, spot⟩ := x
      simp only at hsp hb
      subst hsp
      refine .inr (.inr ⟨g, off, cap, by rw [h2], by omega, hb, fun j u hu => ?_⟩)
      have := h3 j u hu
      rwa [addr_add] at this
end
section
variable {E : Env}
inductive ArgR (E : Env) where
  | val (v : Value)
  | row (e : TypeId) (v : Value) (l : List (E.fm e).α)
def argSR : Nat → List (ArgR E) → List SV
  | _, [] => []
  | j, .val v :: r => .v v :: argSR j r
  | j, .row _ _ _ :: r => .o j :: argSR (j + 1) r
def argTR : Nat → List (ArgR E) → Tab E
  | _, [] => []
  | j, .val _ :: r => argTR j r
  | j, .row e _ l :: r => (j, .ro e l false) :: argTR (j + 1) r
def argVR : List (ArgR E) → List Value
  | [] => []
  | .val v :: r => v :: argVR r
  | .row _ v _ :: r => v :: argVR r
def rowsR : List (ArgR E) → List Value
  | [] => []
  | .val _ :: r => rowsR r
  | .row _ v _ :: r => v :: rowsR r
def rosR (w : World) : List (ArgR E) → Prop
  | [] => True
  | .val _ :: r => rosR w r
  | .row e v l :: r => Ro (fun g => g < w.heap.size) w v (E.fm e).sz l.length (cellsF (E.fm e) l) false ∧ rosR w r
theorem argsR_ok {w : World} {μ : Nat → Value} {N : Nat} : ∀ (ds : List (ArgR E)) (j : Nat), rosR w ds → j + (rowsR ds).length ≤ N → (∀ i u, (rowsR ds)[i]? = some u → μ (j + i) = u) →
    Slots (fun k => k < N) μ (argSR j ds) (argVR ds) ∧ ∀ k x, YtpfignfgfhbblaaGreatDoorSx.look (argTR j ds) k = some x → j ≤ k ∧ k < N ∧ Holds (fun g => g < w.heap.size) w (fun k => k < N) μ w k x ∧ owning x = false
  | [], j, _, _, _ => ⟨slots_nil, fun k x h => by simp [argTR, look] at h⟩
  | .val v :: r, j, hw, hN, hμ => by
    have ih := argsR_ok r j hw hN hμ
    exact ⟨slots_cons.2 ⟨rel_v.2 rfl, ih.1⟩, ih.2⟩
  | .row e v l :: r, j, hw, hN, hμ => by
    simp only [rowsR, List.length_cons] at hN
    obtain ⟨hro, hw⟩ := hw
    have ih := argsR_ok r (j + 1) hw (N := N) (μ := μ) (by omega) (fun i u hi => by
      have := hμ (i + 1) u (by simpa [rowsR] using hi)
      rw [← this]
      congr 1
      omega)
    have h0 := hμ 0 _ rfl
    rw [Nat.add_zero] at h0
    refine ⟨slots_cons.2 ⟨?_, ih.1⟩, fun k x hk => ?_⟩
    · unfold rel
      refine ⟨by omega, h0.symm, ?_⟩
      rw [h0]
      rcases hro.2 with ⟨h1, _⟩ | ⟨_, a, c, h1⟩ | ⟨g, off, cap, h1, _⟩ <;> exact ⟨_, _, _, h1⟩
    · unfold argTR at hk
      rw [look_cons] at hk
      by_cases hkj : k = j
      · rw [if_pos hkj] at hk
        cases hk
        subst hkj
        refine ⟨Nat.le_refl _, by omega, ?_, rfl⟩
        show Ro _ w (μ k) (E.fm e).sz l.length (cellsF (E.fm e) l) false
        rw [h0]
        exact hro
      · rw [if_neg hkj] at hk
        obtain ⟨a1, a2, a3⟩ := ih.2 k x hk
        exact ⟨by omega, a2, a3⟩
/-- From a law's contract to its call, where arguments are slices that are only read. -/
theorem law_ros {g n' : Nat} {T' : Tab E} {v : Value} (ds : List (ArgR E)) (he : Enters E g) (h : Does E g (argTR 0 ds) (rowsR ds).length (argSR 0 ds) (.v v) T' n') (w : World) (hgl : GlobIn E w) (hw : rosR w ds) :
    Calls E.P g (argVR ds).toArray w fun e w' => e = .returned v ∧ Below w.heap.size w w' := by
  have hok := argsR_ok (w := w) (μ := fun i => (rowsR ds).getD i undef) (N := (rowsR ds).length) ds 0 hw (by omega) (fun i u hi => by simp [List.getD, hi])
  have hm : Mem (fun g => g < w.heap.size) w (fun k => k < (rowsR ds).length) (fun i => (rowsR ds).getD i undef) (argTR 0 ds) w := by
    refine ⟨fun k x hk => ?_, fun k k' x x' g hk hk' ho _ _ _ => ?_, Kept.refl _ _, fun g hg => hg, hgl.ok⟩
    · obtain ⟨_, a2, a3, _⟩ := hok.2 k x hk
      exact ⟨a2, a3⟩
    · have := (hok.2 k x hk).2.2.2
      rw [ho] at this
      cases this
  refine (h.calls he hm hok.1).mono fun e w' hh => ?_
  obtain ⟨u, μ', e1, e2, e3, e4⟩ := hh
  rw [rel_v.1 e3] at e1
  exact ⟨e1, e4.kept.below (fun g hg => hg)⟩
end
end Go.Proofs.YtpfignfgfhbblaaGreatDoorSx
/- What the calls are seen in: the program, how rows lie, what package-level variables hold; short words for values. -/
namespace Go.Proofs.YtpfignfgfhbblaaGreatDoorC
open Go.Proofs Go.Proofs.YtpfignfgfhbblaaGreatDoorSx
set_option maxRecDepth 100000
set_option linter.unusedVariables false
abbrev it (n : Int) : Value := .int .i64 n
abbrev iu (n : Int) : Value := .int .u64 n
abbrev ib (n : Int) : Value := .int .u8 n
abbrev nilS : Value := .slice none 0 0
abbrev st (b : ByteArray) : Value := .string b
abbrev bg (h l : Int) (s : Bool) : Value := .agg #[iu h, iu l, .bool s]
abbrev dc (u s : Int) : Value := .agg #[it u, it s]
/-- A value of a row: kind, numbers, bytes. -/
abbrev vl (k n m : Int) (b : ByteArray) : Value := .agg #[it k, it n, it m, st b]
def pow10 : List Int := [1, 10, 100, 1000, 10000, 100000, 1000000, 10000000, 100000000, 1000000000, 10000000000, 100000000000, 1000000000000]
def valF : Fmt where
  α := Int × Int × Int × ByteArray
  d := (0, 0, 0, ByteArray.empty)
  sz := 4
  enc z := [.int .i64 z.1, .int .i64 z.2.1, .int .i64 z.2.2.1, .string z.2.2.2]
  dec
    | [.int .i64 a, .int .i64 b, .int .i64 c, .string s] => some (a, b, c, s)
    | _ => none
  str := none
  toS := none
  pos := by decide
  len _ := rfl
  inv vs a h := by
    split at h
    · simp only [Option.some.injEq] at h
      rw [← h]
    · cases h
  one a v hv := by
    simp only [List.mem_cons, List.not_mem_nil, or_false] at hv
    rcases hv with h | h | h | h <;> rw [h] <;> rfl
  strOk f h := by cases h
  toSOk f h := by cases h
/-- A lexer's token: kind, text, value, place. -/
def tokF : Fmt where
  α := Int × ByteArray × (Int × Int × Int × ByteArray) × Int
  d := (0, ByteArray.empty, (0, 0, 0, ByteArray.empty), 0)
  sz := 7
  enc z := [.int .i64 z.1, .string z.2.1, .int .i64 z.2.2.1.1, .int .i64 z.2.2.1.2.1, .int .i64 z.2.2.1.2.2.1, .string z.2.2.1.2.2.2, .int .i64 z.2.2.2]
  dec
    | [.int .i64 a, .string s, .int .i64 k, .int .i64 n, .int .i64 m, .string b, .int .i64 p] => some (a, s, (k, n, m, b), p)
    | _ => none
  str := none
  toS := none
  pos := by decide
  len _ := rfl
  inv vs a h := by
    split at h
    · simp only [Option.some.injEq] at h
      rw [← h]
    · cases h
  one a v hv := by
    simp only [List.mem_cons, List.not_mem_nil, or_false] at hv
    rcases hv with h | h | h | h | h | h | h <;> rw [h] <;> rfl
  strOk f h := by cases h
  toSOk f h := by cases h
/-- The two tables of unicode/utf8. -/
def firstL : List Int := (List.range 256).map fun c => (Lib.firstT c : Int)
def accL : List Int := (List.range 16).flatMap fun i => [(Lib.accLo i : Int), (Lib.accHi i : Int)]
noncomputable def cE : Env where
  P := Tryz.prog
  fm := fun e => bif Nat.beq e 5 then u8F else bif Nat.beq e 9 then strF else bif Nat.beq e 23 then valF else bif Nat.beq e 45 then tokF else bif Nat.beq e 47 then tokF else numF .i64
  gl := fun g => bif Nat.beq g 4 then .ints .u64 Lib.pow10Tab else bif Nat.beq g 0 then .ints .u8 firstL else bif Nat.beq g 1 then .ints .u8 accL else .no
  ga := fun g => bif Nat.beq g 2 then some (fun v => ∃ m, v = .int .i64 m) else bif Nat.beq g 5 then some (fun v => v = .nilIface ∨ ∃ te pe, v = .iface te pe) else bif Nat.beq g 6 then some (fun v => v = .nilIface ∨ ∃ te pe, v = .iface te pe) else none
theorem mixed : cE.P.follows .mixedOrders = true := by kernel_rfl
abbrev bd (fn : Func) : Code := fn.body.getD .skip
noncomputable def ct : Table cE := callT cE 2000 (fun _ => none) 8
theorem ctOk : TableOk cE ct := callT_ok mixed 2000 _ 8
def rep {α : Type} (n : Nat) (l : List α) : List α := (List.replicate n l).flatten
abbrev strL (s : ByteArray) : List Int := s.data.toList.map fun b => (b.toNat : Int)
abbrev bytesOf (l : List Int) : ByteArray := l.foldl (fun r n => r.push (UInt8.ofNat n.toNat)) ByteArray.empty
end Go.Proofs.YtpfignfgfhbblaaGreatDoorC
/- Short words for paths, and for what a test decides. -/
namespace Go.Proofs.YtpfignfgfhbblaaGreatDoorC
open Go.Proofs Go.Proofs.YtpfignfgfhbblaaGreatDoorSx
set_option linter.unusedVariables false
theorem pth {f : Nat} {fn : Func} {T T' : Tab cE} {n n' : Nat} {l : List SV} {r : SV} {p : List Prop} (hf : cE.P.funcs[f]? = some fn) (hn : (fn.name == "runtime.NumGoroutine") = false) (d : List (Dec cE)) (h : pathOf cE ct fn 2000 T n l d = some (r, T', n', p)) (hp : Conj p) : Does cE f T n l r T' n' := does_path ctOk mixed hf hn 2000 d h hp
theorem sfin {fn : Func} {K0 n n' : Nat} {keep : List Nat} {k : List It} {s : List SV} {b T' : Tab cE} {res : SV} {p : List Prop} (hK : K0 ≤ n) (d : List (Dec cE)) (h : segOf cE ct fn 2000 K0 keep k s b n d = some (.fin res T' n', p)) (hp : Conj p) : Fin cE fn K0 res T' n' k s b n := seg_fin ctOk mixed hK 2000 d h hp
theorem sat {fn : Func} {K0 n n' m : Nat} {keep : List Nat} {k k' : List It} {s s' : List SV} {b b' T' : Tab cE} {res : SV} {p : List Prop} (hK : K0 ≤ n) (d : List (Dec cE)) (h : segOf cE ct fn 2000 K0 keep k s b n d = some (.at k' s' b' m, p)) (hp : Conj p) (hF : Fin cE fn K0 res T' n' k' s' b' m) : Fin cE fn K0 res T' n' k s b n := seg_at ctOk mixed hK 2000 d h hp hF
theorem tbif {g n n' : Nat} {T T' : Tab cE} {xs : List SV} {c : Bool} {a b : Value} (h1 : c = true → Does cE g T n xs (.v a) T' n') (h0 : c = false → Does cE g T n xs (.v b) T' n') : Does cE g T n xs (.v (bif c then a else b)) T' n' := by
  cases c with
  | true => exact h1 rfl
  | false => exact h0 rfl
theorem dbif3 {g n : Nat} {T : Tab cE} {xs : List SV} {c : Bool} {a b : SV × Tab cE × Nat} (h1 : c = true → Does cE g T n xs a.1 a.2.1 a.2.2) (h0 : c = false → Does cE g T n xs b.1 b.2.1 b.2.2) : Does cE g T n xs (bif c then a else b).1 (bif c then a else b).2.1 (bif c then a else b).2.2 := by
  cases c with
  | true => exact h1 rfl
  | false => exact h0 rfl
theorem fbif {fn : Func} {K0 n n' : Nat} {k : List It} {s : List SV} {B T' : Tab cE} {c : Bool} {x y : Value} (h1 : c = true → Fin cE fn K0 (.v x) T' n' k s B n) (h0 : c = false → Fin cE fn K0 (.v y) T' n' k s B n) : Fin cE fn K0 (.v (bif c then x else y)) T' n' k s B n := by
  cases c with
  | true => exact h1 rfl
  | false => exact h0 rfl
theorem fbif3 {fn : Func} {K0 n : Nat} {k : List It} {s : List SV} {B : Tab cE} {c : Bool} {x y : SV × Tab cE × Nat} (h1 : c = true → Fin cE fn K0 x.1 x.2.1 x.2.2 k s B n) (h0 : c = false → Fin cE fn K0 y.1 y.2.1 y.2.2 k s B n) : Fin cE fn K0 (bif c then x else y).1 (bif c then x else y).2.1 (bif c then x else y).2.2 k s B n := by
  cases c with
  | true => exact h1 rfl
  | false => exact h0 rfl
end Go.Proofs.YtpfignfgfhbblaaGreatDoorC
/- Words for whole functions: labels' stacks, nil slices told as rows of the call's own, other keys. -/
set_option linter.unusedVariables false
set_option linter.unusedSimpArgs false
namespace Go.Proofs.YtpfignfgfhbblaaGreatDoorSx
open Go.RowKit Go.Proofs.YtpfignfgfhbblaaGreatDoorW.PrintLast Go.Proofs.YtpfignfgfhbblaaGreatDoorW.PrintWords
noncomputable section
/-- The stack at a label of a scope, behind a jump. -/
def labK (K : List It) (l m : Nat) : List It := match K with
  | .code (.scope c) :: k => .mk :: .code ((findLabel c l).getD .skip) :: .sc c m :: k
  | k => k
section
variable {E : Env} {fn : Func} {K0 n n' m : Nat} {k : List It} {s s' : List SV} {b b' T' : Tab E} {res : SV}
theorem set_self {us : List Value} {i : Nat} {u : Value} (h : us[i]? = some u) : us.set i u = us := by
  apply List.ext_getElem?
  intro j
  rw [List.getElem?_set]
  split
  · rename_i e
    subst e
    split
    · exact h.symm
    · rename_i hn
      rw [List.getElem?_eq_none (by omega)] at h
      cases h
  · rfl
theorem fin_nil (i : Nat) (e : TypeId) (hK : K0 ≤ n) (hs : s[i]? = some (.v (.slice none 0 0))) (h : Fin E fn K0 res T' n' k (s.set i (.o n)) ((n, .own e []) :: b) (n + 1)) : Fin E fn K0 res T' n' k s b n := by
  intro S w0 vals μ a w hv hS
  have hU : ∀ j, Up (fun k => k < n) n n j → j < n := fun j hj => by
    rcases hj with hj | hj
    · exact hj
    · omega
  have hUn : ∀ j, Up (fun k => k < n) n n j → Up (fun k => k < n + 1) (n + 1) (n + 1) j := fun j hj => .inl (by have := hU j hj; omega)
  have hold : ∀ j, Up (fun k => k < n) n n j → upd μ n (.slice none 0 0) j = μ j := fun j hj => by
    have := hU j hj
    exact if_neg (by omega)
  have hsl := slots_mono hUn hold _ _ hS.s
  obtain ⟨u, hu, hr⟩ := hS.s.get i _ hs
  have hu' := rel_v.1 hr
  subst hu'
  have hr' : rel (Up (fun k => k < n + 1) (n + 1) (n + 1)) (upd μ n (.slice none 0 0)) (.o n) (.slice none 0 0) := by
    unfold rel
    exact ⟨.inl (by omega), upd_same.symm, _, _, _, upd_same⟩
  have hsl' := hsl.set i hr'
  rw [set_self hu] at hsl'
  have hm := hS.m.mono hUn hold
  refine h S w0 vals (upd μ n (.slice none 0 0)) a w (fun j hj => ?_) ⟨hS.d, hsl', ?_, Nat.le_refl _⟩
  · have : j ≠ n := by omega
    rw [upd, if_neg this]
    exact hv j hj
  · refine ⟨fun j x hx => ?_, fun j j' x x' g hj hj' ho ho' hb hb' => ?_, hm.kept, hm.dom⟩
    · rw [List.nil_append, look_cons] at hx
      split at hx
      · rename_i e1
        cases hx
        subst e1
        refine ⟨.inl (by omega), ?_, fun g hg => ?_⟩
        · rw [upd_same]
          exact World.ownsRow_nil _ 0 e _
        · rw [upd_same] at hg
          simp [blk] at hg
      · exact hm.obj j x hx
    · rw [List.nil_append, look_cons] at hj hj'
      split at hj
      · rename_i e1
        subst e1
        rw [upd_same] at hb
        simp [blk] at hb
      · split at hj'
        · rename_i e2
          subst e2
          rw [upd_same] at hb'
          simp [blk] at hb'
        · exact hm.sep j j' x x' g hj hj' ho ho' hb hb'
theorem fin_ren (hn : normOf K0 s b = some (s', b', m)) (hF : Fin E fn K0 res T' n' k s' b' m) : Fin E fn K0 res T' n' k s b n := by
  intro S w0 vals μ a w hv hS
  obtain ⟨μ', q1, q2, q3, q4⟩ := normOf_ok hn hS.s hS.m
  refine hF S w0 vals μ' a w (fun k hk => (q1 k hk).trans (hv k hk)) ⟨hS.d, ?_, ?_, Nat.le_refl _⟩
  · exact slots_mono (fun k hk => .inl hk) (fun _ _ => rfl) _ _ q2
  · exact q3.mono (fun k hk => .inl hk) (fun _ _ => rfl)
end
/-- A nil slice among two results, told as a row of the call's own. -/
theorem Does.nilt {E : Env} {g n n' : Nat} {T T' : Tab E} {args : List SV} {x : Value} (e : TypeId) (h : Does E g T n args (.v (.tuple #[.slice none 0 0, x])) T' n') (hE : Enters E g) (hn : n ≤ n') : Does E g T n args (.t [.o n', .v x]) ((n', .own e []) :: T') (n' + 1) := by
  intro S w μ vs hm hs
  refine .inr ⟨hE _ _, (h.calls hE hm hs).mono fun e' w' hh => ?_⟩
  obtain ⟨u, μ', e1, e2, e3, e4⟩ := hh
  have hold : ∀ j, j < n' → upd μ' n' (.slice none 0 0) j = μ' j := fun j hj => if_neg (by omega)
  have hm' := e4.mono (U' := fun k => k < n' + 1) (fun j hj => by omega) hold
  refine ⟨u, upd μ' n' (.slice none 0 0), e1, fun k hk => (hold k (by omega)).trans (e2 k hk), ?_, ?_⟩
  · have hu := rel_v.1 e3
    subst hu
    unfold rel
    refine ⟨[.slice none 0 0, x], rfl, slots_cons.2 ⟨?_, slots_cons.2 ⟨rel_v.2 rfl, slots_nil⟩⟩⟩
    unfold rel
    exact ⟨by omega, upd_same.symm, _, _, _, upd_same⟩
  · refine ⟨fun j y hx => ?_, fun j j' y y' g hj hj' ho ho' hb hb' => ?_, hm'.kept, hm'.dom⟩
    · rw [look_cons] at hx
      split at hx
      · rename_i e1
        cases hx
        subst e1
        refine ⟨by omega, ?_, fun g hg => ?_⟩
        · rw [upd_same]
          exact World.ownsRow_nil _ 0 e _
        · rw [upd_same] at hg
          simp [blk] at hg
      · exact hm'.obj j y hx
    · rw [look_cons] at hj hj'
      split at hj
      · rename_i e1
        subst e1
        rw [upd_same] at hb
        simp [blk] at hb
      · split at hj'
        · rename_i e2
          subst e2
          rw [upd_same] at hb'
          simp [blk] at hb'
        · exact hm'.sep j j' y y' g hj hj' ho ho' hb hb'
end
end Go.Proofs.YtpfignfgfhbblaaGreatDoorSx
/- Short words for functions that a program has walked whole: tests, guards, what they come to. -/
namespace Go.Proofs.YtpfignfgfhbblaaGreatDoorC
open Go.Proofs Go.Proofs.YtpfignfgfhbblaaGreatDoorSx
set_option linter.unusedVariables false
abbrev Rs := SV × Tab cE × Nat
noncomputable def grd (p : Prop) (a : Option Rs) : Option Rs := open Classical in if p then a else none
theorem grd_pos {p : Prop} {a : Option Rs} (h : p) : grd p a = a := by unfold grd; exact if_pos h
theorem ogrd {p : Prop} {a : Option Rs} {r : Rs} {G : Prop} (h : grd p a = some r) (k : p → a = some r → G) : G := by
  unfold grd at h
  split at h
  · rename_i hp
    exact k hp h
  · cases h
theorem obif {c : Bool} {a b : Option Rs} {r : Rs} {G : Prop} (h : (bif c then a else b) = some r) (h1 : c = true → a = some r → G) (h0 : c = false → b = some r → G) : G := by
  cases c with
  | true => exact h1 rfl h
  | false => exact h0 rfl h
abbrev FinR (fn : Go.Func) (K0 : Nat) (r : Rs) (k : List It) (s : List SV) (b : Tab cE) (n : Nat) : Prop := Fin cE fn K0 r.1 r.2.1 r.2.2 k s b n
theorem osome {fn : Go.Func} {K0 : Nat} {k : List It} {s : List SV} {b : Tab cE} {n : Nat} {v : SV} {t : Tab cE} {m : Nat} {r : Rs} (h : some (v, t, m) = some r) (g : Fin cE fn K0 v t m k s b n) : FinR fn K0 r k s b n := by
  cases h
  exact g
theorem bt {α : Type} {c : Bool} {a b r : α} (h : c = true) (k : a = r) : (bif c then a else b) = r := by subst h; exact k
theorem bf {α : Type} {c : Bool} {a b r : α} (h : c = false) (k : b = r) : (bif c then a else b) = r := by subst h; exact k
theorem gp {p : Prop} {a r : Option Rs} (h : p) (k : a = r) : grd p a = r := (grd_pos h).trans k
theorem room1 {n : Nat} (h : n ≤ 140737488355328) : Room n 1 := by unfold Room maxLen; omega
/-- A string's bytes (a word that is not opened while the program is walked). -/
def bL (s : ByteArray) : List UInt8 := s.data.toList
theorem Does.of {g n : Nat} {T : Tab cE} {l : List SV} {r : Rs} {v : SV} {t : Tab cE} {m : Nat} (h : Does cE g T n l r.1 r.2.1 r.2.2) (e : r = (v, t, m)) : Does cE g T n l v t m := by subst e; exact h
end Go.Proofs.YtpfignfgfhbblaaGreatDoorC
/- datum.quoted, walked. Printed by a program (wip/tools); Lean checks each. -/
namespace Go.Proofs.YtpfignfgfhbblaaGreatDoorC
open Go.Proofs Go.Proofs.YtpfignfgfhbblaaGreatDoorSx Go.Lib
set_option maxRecDepth 100000
set_option linter.unusedVariables false
inductive quP_S where
  | st
  | l1 (xi0 : Int) (xl1 : List Int)
noncomputable def quP_K1 : List It := stackAt [1] (bd Tryz.f92) [] []
def quP_Fin (s : ByteArray) (f : Nat) (r : Rs) : quP_S → Prop
  | .st => FinR Tryz.f92 0 r [.code (bd Tryz.f92)] (argsS [.v (st s)] Tryz.f92.ntmps) [] 0
  | .l1 xi0 xl1 => ∀ m0 : Nat, f ≤ m0 → FinR Tryz.f92 0 r (labK (quP_K1) 0 m0) ([.v (.string (s)), .na, .na, .na, .o 0, .v (.int .i64 (xi0))] ++ List.replicate 38 .na) [(0, .own 5 (xl1))] 1
noncomputable def quP_st (s : ByteArray) (rec : quP_S → Option Rs) : Option Rs :=
  bif (decide ((1 : Int) ≥ (s.size : Int))) then some ((.v (.tuple #[(.string ((ByteArray.mk #[]))), (.bool (false))]) : SV), ([] : Tab cE), 0)
  else grd ((0 : Int) ≤ (1 : Int) ∧ (1 : Int) < (s.size : Int)) (bif ((((s.data.toList.getD (Int.toNat (1 : Int)) (0 : UInt8)).toNat : Nat) : Int) != (39 : Int)) then grd (Room (([] : List Int).length + [(((s.data.toList.getD (Int.toNat (1 : Int)) (0 : UInt8)).toNat : Nat) : Int)].length) (1 : Nat)) (rec (.l1 (IntKind.i64.wrap ((1 : Int) + (1 : Int))) ([] ++ [(((s.data.toList.getD (Int.toNat (1 : Int)) (0 : UInt8)).toNat : Nat) : Int)])))
      else bif (decide (IntKind.i64.wrap ((1 : Int) + (1 : Int)) < (s.size : Int))) then grd ((0 : Int) ≤ IntKind.i64.wrap ((1 : Int) + (1 : Int)) ∧ IntKind.i64.wrap ((1 : Int) + (1 : Int)) < (s.size : Int)) (bif ((((s.data.toList.getD (IntKind.i64.wrap ((1 : Int) + (1 : Int))).toNat (0 : UInt8)).toNat : Nat) : Int) == (39 : Int)) then grd (Room (([] : List Int).length + [(((s.data.toList.getD (Int.toNat (1 : Int)) (0 : UInt8)).toNat : Nat) : Int)].length) (1 : Nat)) (rec (.l1 (IntKind.i64.wrap (IntKind.i64.wrap ((1 : Int) + (1 : Int)) + (1 : Int))) ([] ++ [(((s.data.toList.getD (Int.toNat (1 : Int)) (0 : UInt8)).toNat : Nat) : Int)])))
            else some ((.v (.tuple #[(.string (bytesOf [])), (.bool (IntKind.i64.wrap ((1 : Int) + (1 : Int)) == (s.size : Int)))]) : SV), ([] : Tab cE), 0))
        else some ((.v (.tuple #[(.string (bytesOf [])), (.bool (IntKind.i64.wrap ((1 : Int) + (1 : Int)) == (s.size : Int)))]) : SV), ([] : Tab cE), 0))
noncomputable def quP_l1 (s : ByteArray) (rec : quP_S → Option Rs) (xi0 : Int) (xl1 : List Int) : Option Rs :=
  bif (decide (xi0 ≥ (s.size : Int))) then some ((.v (.tuple #[(.string ((ByteArray.mk #[]))), (.bool (false))]) : SV), ([] : Tab cE), 0)
  else grd ((0 : Int) ≤ xi0 ∧ xi0 < (s.size : Int)) (bif ((((s.data.toList.getD xi0.toNat (0 : UInt8)).toNat : Nat) : Int) != (39 : Int)) then grd (Room (xl1.length + [(((s.data.toList.getD xi0.toNat (0 : UInt8)).toNat : Nat) : Int)].length) (1 : Nat)) (rec (.l1 (IntKind.i64.wrap (xi0 + (1 : Int))) (xl1 ++ [(((s.data.toList.getD xi0.toNat (0 : UInt8)).toNat : Nat) : Int)])))
      else bif (decide (IntKind.i64.wrap (xi0 + (1 : Int)) < (s.size : Int))) then grd ((0 : Int) ≤ IntKind.i64.wrap (xi0 + (1 : Int)) ∧ IntKind.i64.wrap (xi0 + (1 : Int)) < (s.size : Int)) (bif ((((s.data.toList.getD (IntKind.i64.wrap (xi0 + (1 : Int))).toNat (0 : UInt8)).toNat : Nat) : Int) == (39 : Int)) then grd (Room (xl1.length + [(((s.data.toList.getD xi0.toNat (0 : UInt8)).toNat : Nat) : Int)].length) (1 : Nat)) (rec (.l1 (IntKind.i64.wrap (IntKind.i64.wrap (xi0 + (1 : Int)) + (1 : Int))) (xl1 ++ [(((s.data.toList.getD xi0.toNat (0 : UInt8)).toNat : Nat) : Int)])))
            else some ((.v (.tuple #[(.string (bytesOf xl1)), (.bool (IntKind.i64.wrap (xi0 + (1 : Int)) == (s.size : Int)))]) : SV), ([] : Tab cE), 0))
        else some ((.v (.tuple #[(.string (bytesOf xl1)), (.bool (IntKind.i64.wrap (xi0 + (1 : Int)) == (s.size : Int)))]) : SV), ([] : Tab cE), 0))
noncomputable def quP (s : ByteArray) : Nat → quP_S → Option Rs
  | 0, _ => none
  | f + 1, .st => quP_st s (fun q => quP s f q)
  | f + 1, .l1 xi0 xl1 => quP_l1 s (fun q => quP s f q) xi0 xl1
theorem quP_st_fin (s : ByteArray) (rec : quP_S → Option Rs) (f : Nat) (ih : ∀ q r, rec q = some r → quP_Fin s f r q) (r : Rs) (h : quP_st s rec = some r) : quP_Fin s (f + 1) r .st := by
  unfold quP_st at h
  show FinR _ _ _ _ _ _ _
  refine obif h (fun c1 h => ?_) (fun c1 h => ?_)
  · exact osome h (sfin (keep := []) (by decide) [.n (f + 1), .t] (by kernel_rfl) (cj c1 cj0))
  · refine ogrd h (fun c2 h => ?_)
    refine obif h (fun c3 h => ?_) (fun c3 h => ?_)
    · refine ogrd h (fun c4 h => ?_)
      exact sat (keep := [0, 4, 5]) (by decide) [.n (f + 1), .f, .t] (by kernel_rfl) (cj c1 (cj c2 (cj c3 (cj c4 cj0)))) (ih _ _ h (f) (by omega))
    · refine obif h (fun c5 h => ?_) (fun c5 h => ?_)
      · refine ogrd h (fun c6 h => ?_)
        refine obif h (fun c7 h => ?_) (fun c7 h => ?_)
        · refine ogrd h (fun c8 h => ?_)
          exact sat (keep := [0, 4, 5]) (by decide) [.n (f + 1), .f, .f, .t, .t, .t, .t, .t, .t] (by kernel_rfl) (cj c1 (cj c2 (cj c3 (cj c5 (cj c5 (cj c5 (cj c6 (cj c5 (cj c5 (cj c7 (cj c8 cj0))))))))))) (ih _ _ h (f) (by omega))
        · exact osome h (sfin (keep := []) (by decide) [.n (f + 1), .f, .f, .t, .t, .t, .t, .t, .f] (by kernel_rfl) (cj c1 (cj c2 (cj c3 (cj c5 (cj c5 (cj c5 (cj c6 (cj c5 (cj c5 (cj c7 cj0)))))))))))
      · exact osome h (sfin (keep := []) (by decide) [.n (f + 1), .f, .f, .f, .f, .f, .f, .f, .l] (by kernel_rfl) (cj c1 (cj c2 (cj c3 (cj c5 (cj c5 (cj c5 (cj c5 (cj c5 cj0)))))))))
theorem quP_l1_fin (s : ByteArray) (rec : quP_S → Option Rs) (f : Nat) (ih : ∀ q r, rec q = some r → quP_Fin s f r q) (xi0 : Int) (xl1 : List Int) (r : Rs) (h : quP_l1 s rec xi0 xl1 = some r) : quP_Fin s (f + 1) r (.l1 xi0 xl1) := by
  unfold quP_l1 at h
  intro m0 m0h
  obtain ⟨m0, rfl⟩ : ∃ k, m0 = k + 1 := ⟨m0 - 1, by omega⟩
  refine obif h (fun c1 h => ?_) (fun c1 h => ?_)
  · exact osome h (sfin (keep := []) (by decide) [.l, .t] (by kernel_rfl) (cj c1 cj0))
  · refine ogrd h (fun c2 h => ?_)
    refine obif h (fun c3 h => ?_) (fun c3 h => ?_)
    · refine ogrd h (fun c4 h => ?_)
      exact sat (keep := [0, 4, 5]) (by decide) [.l, .f, .t] (by kernel_rfl) (cj c1 (cj c2 (cj c3 (cj c4 cj0)))) (ih _ _ h (m0) (by omega))
    · refine obif h (fun c5 h => ?_) (fun c5 h => ?_)
      · refine ogrd h (fun c6 h => ?_)
        refine obif h (fun c7 h => ?_) (fun c7 h => ?_)
        · refine ogrd h (fun c8 h => ?_)
          exact sat (keep := [0, 4, 5]) (by decide) [.l, .f, .f, .t, .t, .t, .t, .t, .t] (by kernel_rfl) (cj c1 (cj c2 (cj c3 (cj c5 (cj c5 (cj c5 (cj c6 (cj c5 (cj c5 (cj c7 (cj c8 cj0))))))))))) (ih _ _ h (m0) (by omega))
        · exact osome h (sfin (keep := []) (by decide) [.l, .f, .f, .t, .t, .t, .t, .t, .f] (by kernel_rfl) (cj c1 (cj c2 (cj c3 (cj c5 (cj c5 (cj c5 (cj c6 (cj c5 (cj c5 (cj c7 cj0)))))))))))
      · exact osome h (sfin (keep := []) (by decide) [.l, .f, .f, .f, .f, .f, .f, .f, .l] (by kernel_rfl) (cj c1 (cj c2 (cj c3 (cj c5 (cj c5 (cj c5 (cj c5 (cj c5 cj0)))))))))
theorem quP_ok (s : ByteArray) : ∀ f q r, quP s f q = some r → quP_Fin s f r q := by
  intro f
  induction f with
  | zero => intro q r h; cases h
  | succ f ih =>
    intro q r h
    cases q with
    | st => exact quP_st_fin s _ f ih r h
    | l1 xi0 xl1 => exact quP_l1_fin s _ f ih xi0 xl1 r h
theorem quP_does (s : ByteArray) (k : Nat) {r : Rs} (h : quP s k .st = some r) : Does cE 92 [] 0 [.v (st s)] r.1 r.2.1 r.2.2 :=
  does_of_fin (fn := Tryz.f92) (c := bd Tryz.f92) rfl (by kernel_rfl) rfl (quP_ok s k .st r h)
end Go.Proofs.YtpfignfgfhbblaaGreatDoorC
/- Each path of each function: on which conditions it is taken, what it gives. Printed by a program (wip/tools/sxexp2.lean); Lean checks each. -/
namespace Go.Proofs.YtpfignfgfhbblaaGreatDoorC
open Go.Proofs Go.Proofs.YtpfignfgfhbblaaGreatDoorSx
set_option maxRecDepth 100000
set_option linter.unusedVariables false
theorem of_1 (n : Int) (h0 : decide (n < 0) = true) : Does cE 106 [] 0 [.v (it n)] (.v (.agg #[(.int .u64 (0)), (.int .u64 (IntKind.u64.wrap (0 - IntKind.u64.wrap n))), (.bool (true))])) [] 0 :=
  does_path (ct := ct) ctOk mixed (fn := Tryz.f106) rfl (by kernel_rfl) 2000 [.t] (by kernel_rfl) (cj h0 cj0)
theorem of_2 (n : Int) (h0 : decide (n < 0) = false) : Does cE 106 [] 0 [.v (it n)] (.v (.agg #[(.int .u64 (0)), (.int .u64 (IntKind.u64.wrap n)), (.bool (false))])) [] 0 :=
  does_path (ct := ct) ctOk mixed (fn := Tryz.f106) rfl (by kernel_rfl) 2000 [.f] (by kernel_rfl) (cj h0 cj0)
theorem times_1 (h l n : Int) (s : Bool) (i0 : Int) (i1 : Int) (h0 : Does cE 137 [] 0 [.v (.int .u64 (l)), .v (.int .u64 (n))] (.v (.tuple #[(.int .u64 (i0)), (.int .u64 (i1))])) [] 0) : Does cE 150 [] 0 [.v (bg h l s), .v (iu n)] (.v (.agg #[(.int .u64 (IntKind.u64.wrap (i0 + IntKind.u64.wrap (h * n)))), (.int .u64 (i1)), (.bool (s))])) [] 0 :=
  does_path (ct := ct) ctOk mixed (fn := Tryz.f150) rfl (by kernel_rfl) 2000 [.c (.v (.tuple #[(.int .u64 (i0)), (.int .u64 (i1))])) [] 0] (by kernel_rfl) (cj h0 cj0)
theorem cmp64_1 (x y : Int) (h0 : (x != x) = true) (h1 : (y != y) = true) : Does cE 207 [] 0 [.v (iu x), .v (iu y)] (.v (.int .i64 (0))) [] 0 :=
  does_path (ct := ct) ctOk mixed (fn := Tryz.f207) rfl (by kernel_rfl) 2000 [.e, .e, .t, .t] (by kernel_rfl) (cj h0 (cj h1 cj0))
theorem cmp64_2 (x y : Int) (h0 : (x != x) = true) (h1 : (y != y) = false) : Does cE 207 [] 0 [.v (iu x), .v (iu y)] (.v (.int .i64 (-1))) [] 0 :=
  does_path (ct := ct) ctOk mixed (fn := Tryz.f207) rfl (by kernel_rfl) 2000 [.e, .e, .t, .f] (by kernel_rfl) (cj h0 (cj h1 cj0))
theorem cmp64_3 (x y : Int) (h0 : (x != x) = false) (h1 : (y != y) = true) : Does cE 207 [] 0 [.v (iu x), .v (iu y)] (.v (.int .i64 (1))) [] 0 :=
  does_path (ct := ct) ctOk mixed (fn := Tryz.f207) rfl (by kernel_rfl) 2000 [.e, .e, .f, .t] (by kernel_rfl) (cj h0 (cj h1 cj0))
theorem cmp64_4 (x y : Int) (h0 : (x != x) = false) (h1 : (y != y) = false) (h2 : decide (x < y) = true) : Does cE 207 [] 0 [.v (iu x), .v (iu y)] (.v (.int .i64 (-1))) [] 0 :=
  does_path (ct := ct) ctOk mixed (fn := Tryz.f207) rfl (by kernel_rfl) 2000 [.e, .e, .f, .f, .t] (by kernel_rfl) (cj h0 (cj h1 (cj h2 cj0)))
theorem cmp64_5 (x y : Int) (h0 : (x != x) = false) (h1 : (y != y) = false) (h2 : decide (x < y) = false) (h3 : decide (x > y) = true) : Does cE 207 [] 0 [.v (iu x), .v (iu y)] (.v (.int .i64 (1))) [] 0 :=
  does_path (ct := ct) ctOk mixed (fn := Tryz.f207) rfl (by kernel_rfl) 2000 [.e, .e, .f, .f, .f, .t] (by kernel_rfl) (cj h0 (cj h1 (cj h2 (cj h3 cj0))))
theorem cmp64_6 (x y : Int) (h0 : (x != x) = false) (h1 : (y != y) = false) (h2 : decide (x < y) = false) (h3 : decide (x > y) = false) : Does cE 207 [] 0 [.v (iu x), .v (iu y)] (.v (.int .i64 (0))) [] 0 :=
  does_path (ct := ct) ctOk mixed (fn := Tryz.f207) rfl (by kernel_rfl) 2000 [.e, .e, .f, .f, .f, .f] (by kernel_rfl) (cj h0 (cj h1 (cj h2 (cj h3 cj0))))
theorem cmpb_1 (h l g k : Int) (s t : Bool) (i0 : Int) (i1 : Int) (i2 : Int) (h0 : Does cE 207 [] 0 [.v (.int .u64 (h)), .v (.int .u64 (g))] (.v (.int .i64 (i0))) [] 0) (h1 : Does cE 207 [] 0 [.v (.int .u64 (l)), .v (.int .u64 (k))] (.v (.int .i64 (i1))) [] 0) (h2 : Does cE 138 [(0, .ro 3 ([i0, i1]) false)] 1 [.o 0] (.v (.int .i64 (i2))) [] 1) : Does cE 182 [] 0 [.v (bg h l s), .v (bg g k t)] (.v (.int .i64 (i2))) [] 0 :=
  does_path (ct := ct) ctOk mixed (fn := Tryz.f182) rfl (by kernel_rfl) 2000 [.c (.v (.int .i64 (i0))) [] 0, .c (.v (.int .i64 (i1))) [] 0, .c (.v (.int .i64 (i2))) [] 1] (by kernel_rfl) (cj h0 (cj h1 (cj h2 cj0)))
theorem plus_1 (h l g k : Int) (s t : Bool) (i0 : Int) (i1 : Int) (h0 : (s == t) = true) (h1 : Does cE 181 [] 0 [.v (.int .u64 (l)), .v (.int .u64 (k)), .v (.int .u64 (0))] (.v (.tuple #[(.int .u64 (i0)), (.int .u64 (i1))])) [] 0) : Does cE 151 [] 0 [.v (bg h l s), .v (bg g k t)] (.v (.agg #[(.int .u64 (IntKind.u64.wrap (IntKind.u64.wrap (h + g) + i1))), (.int .u64 (i0)), (.bool (s))])) [] 0 :=
  does_path (ct := ct) ctOk mixed (fn := Tryz.f151) rfl (by kernel_rfl) 2000 [.t, .c (.v (.tuple #[(.int .u64 (i0)), (.int .u64 (i1))])) [] 0] (by kernel_rfl) (cj h0 (cj h1 cj0))
theorem plus_2 (h l g k : Int) (s t : Bool) (i0 : Int) (i1 : Int) (i2 : Int) (h0 : (s == t) = false) (h1 : Does cE 182 [] 0 [.v (.agg #[(.int .u64 (h)), (.int .u64 (l)), (.bool (s))]), .v (.agg #[(.int .u64 (g)), (.int .u64 (k)), (.bool (t))])] (.v (.int .i64 (i0))) [] 0) (h2 : decide (i0 < 0) = true) (h3 : Does cE 183 [] 0 [.v (.int .u64 (k)), .v (.int .u64 (l)), .v (.int .u64 (0))] (.v (.tuple #[(.int .u64 (i1)), (.int .u64 (i2))])) [] 0) : Does cE 151 [] 0 [.v (bg h l s), .v (bg g k t)] (.v (.agg #[(.int .u64 (IntKind.u64.wrap (IntKind.u64.wrap (g - h) - i2))), (.int .u64 (i1)), (.bool (t))])) [] 0 :=
  does_path (ct := ct) ctOk mixed (fn := Tryz.f151) rfl (by kernel_rfl) 2000 [.f, .c (.v (.int .i64 (i0))) [] 0, .t, .c (.v (.tuple #[(.int .u64 (i1)), (.int .u64 (i2))])) [] 0] (by kernel_rfl) (cj h0 (cj h1 (cj h2 (cj h3 cj0))))
theorem plus_3 (h l g k : Int) (s t : Bool) (i0 : Int) (i1 : Int) (i2 : Int) (h0 : (s == t) = false) (h1 : Does cE 182 [] 0 [.v (.agg #[(.int .u64 (h)), (.int .u64 (l)), (.bool (s))]), .v (.agg #[(.int .u64 (g)), (.int .u64 (k)), (.bool (t))])] (.v (.int .i64 (i0))) [] 0) (h2 : decide (i0 < 0) = false) (h3 : Does cE 183 [] 0 [.v (.int .u64 (l)), .v (.int .u64 (k)), .v (.int .u64 (0))] (.v (.tuple #[(.int .u64 (i1)), (.int .u64 (i2))])) [] 0) : Does cE 151 [] 0 [.v (bg h l s), .v (bg g k t)] (.v (.agg #[(.int .u64 (IntKind.u64.wrap (IntKind.u64.wrap (h - g) - i2))), (.int .u64 (i1)), (.bool (s))])) [] 0 :=
  does_path (ct := ct) ctOk mixed (fn := Tryz.f151) rfl (by kernel_rfl) 2000 [.f, .c (.v (.int .i64 (i0))) [] 0, .f, .c (.v (.tuple #[(.int .u64 (i1)), (.int .u64 (i2))])) [] 0] (by kernel_rfl) (cj h0 (cj h1 (cj h2 (cj h3 cj0))))
theorem back_1 (h l sc : Int) (s : Bool) (h0 : (h != 0) = true) : Does cE 152 [] 0 [.v (bg h l s), .v (it sc)] (.v (.tuple #[(.agg #[(.int .i64 (0)), (.int .i64 (0))]), (.int .i64 (32))])) [] 0 :=
  does_path (ct := ct) ctOk mixed (fn := Tryz.f152) rfl (by kernel_rfl) 2000 [.t] (by kernel_rfl) (cj h0 cj0)
theorem back_2 (h l sc : Int) (s : Bool) (h0 : (h != 0) = false) (h1 : s = true) (h2 : decide (l ≤ 9223372036854775808) = true) : Does cE 152 [] 0 [.v (bg h l s), .v (it sc)] (.v (.tuple #[(.agg #[(.int .i64 (IntKind.i64.wrap (IntKind.u64.wrap (0 - l)))), (.int .i64 (sc))]), (.int .i64 (0))])) [] 0 :=
  does_path (ct := ct) ctOk mixed (fn := Tryz.f152) rfl (by kernel_rfl) 2000 [.f, .t, .t, .t, .t, .t] (by kernel_rfl) (cj h0 (cj h1 (cj h1 (cj h1 (cj h1 (cj h2 cj0))))))
theorem back_3 (h l sc : Int) (s : Bool) (h0 : (h != 0) = false) (h1 : s = true) (h2 : decide (l ≤ 9223372036854775808) = false) (h3 : (!s) = true) (h4 : decide (l < 9223372036854775808) = true) : Does cE 152 [] 0 [.v (bg h l s), .v (it sc)] (.v (.tuple #[(.agg #[(.int .i64 (IntKind.i64.wrap l)), (.int .i64 (sc))]), (.int .i64 (0))])) [] 0 :=
  does_path (ct := ct) ctOk mixed (fn := Tryz.f152) rfl (by kernel_rfl) 2000 [.f, .t, .t, .t, .t, .f, .t, .t, .t, .t, .t] (by kernel_rfl) (cj h0 (cj h1 (cj h1 (cj h1 (cj h1 (cj h2 (cj h3 (cj h3 (cj h3 (cj h3 (cj h4 cj0)))))))))))
theorem back_4 (h l sc : Int) (s : Bool) (h0 : (h != 0) = false) (h1 : s = true) (h2 : decide (l ≤ 9223372036854775808) = false) (h3 : (!s) = true) (h4 : decide (l < 9223372036854775808) = false) : Does cE 152 [] 0 [.v (bg h l s), .v (it sc)] (.v (.tuple #[(.agg #[(.int .i64 (0)), (.int .i64 (0))]), (.int .i64 (32))])) [] 0 :=
  does_path (ct := ct) ctOk mixed (fn := Tryz.f152) rfl (by kernel_rfl) 2000 [.f, .t, .t, .t, .t, .f, .t, .t, .t, .t, .f] (by kernel_rfl) (cj h0 (cj h1 (cj h1 (cj h1 (cj h1 (cj h2 (cj h3 (cj h3 (cj h3 (cj h3 (cj h4 cj0)))))))))))
theorem back_5 (h l sc : Int) (s : Bool) (h0 : (h != 0) = false) (h1 : s = true) (h2 : decide (l ≤ 9223372036854775808) = false) (h3 : (!s) = false) : Does cE 152 [] 0 [.v (bg h l s), .v (it sc)] (.v (.tuple #[(.agg #[(.int .i64 (0)), (.int .i64 (0))]), (.int .i64 (32))])) [] 0 :=
  does_path (ct := ct) ctOk mixed (fn := Tryz.f152) rfl (by kernel_rfl) 2000 [.f, .t, .t, .t, .t, .f, .f, .f, .f, .f, .l] (by kernel_rfl) (cj h0 (cj h1 (cj h1 (cj h1 (cj h1 (cj h2 (cj h3 (cj h3 (cj h3 (cj h3 cj0))))))))))
theorem back_6 (h l sc : Int) (s : Bool) (h0 : (h != 0) = false) (h1 : s = false) (h2 : (!s) = true) (h3 : decide (l < 9223372036854775808) = true) : Does cE 152 [] 0 [.v (bg h l s), .v (it sc)] (.v (.tuple #[(.agg #[(.int .i64 (IntKind.i64.wrap l)), (.int .i64 (sc))]), (.int .i64 (0))])) [] 0 :=
  does_path (ct := ct) ctOk mixed (fn := Tryz.f152) rfl (by kernel_rfl) 2000 [.f, .f, .f, .f, .f, .l, .t, .t, .t, .t, .t] (by kernel_rfl) (cj h0 (cj h1 (cj h1 (cj h1 (cj h1 (cj h2 (cj h2 (cj h2 (cj h2 (cj h3 cj0))))))))))
theorem back_7 (h l sc : Int) (s : Bool) (h0 : (h != 0) = false) (h1 : s = false) (h2 : (!s) = true) (h3 : decide (l < 9223372036854775808) = false) : Does cE 152 [] 0 [.v (bg h l s), .v (it sc)] (.v (.tuple #[(.agg #[(.int .i64 (0)), (.int .i64 (0))]), (.int .i64 (32))])) [] 0 :=
  does_path (ct := ct) ctOk mixed (fn := Tryz.f152) rfl (by kernel_rfl) 2000 [.f, .f, .f, .f, .f, .l, .t, .t, .t, .t, .f] (by kernel_rfl) (cj h0 (cj h1 (cj h1 (cj h1 (cj h1 (cj h2 (cj h2 (cj h2 (cj h2 (cj h3 cj0))))))))))
theorem back_8 (h l sc : Int) (s : Bool) (h0 : (h != 0) = false) (h1 : s = false) (h2 : (!s) = false) : Does cE 152 [] 0 [.v (bg h l s), .v (it sc)] (.v (.tuple #[(.agg #[(.int .i64 (0)), (.int .i64 (0))]), (.int .i64 (32))])) [] 0 :=
  does_path (ct := ct) ctOk mixed (fn := Tryz.f152) rfl (by kernel_rfl) 2000 [.f, .f, .f, .f, .f, .l, .f, .f, .f, .f, .l] (by kernel_rfl) (cj h0 (cj h1 (cj h1 (cj h1 (cj h1 (cj h2 (cj h2 (cj h2 (cj h2 cj0)))))))))end Go.Proofs.YtpfignfgfhbblaaGreatDoorC
/- Each path of each function: on which conditions it is taken, what it gives. Printed by a program (wip/tools/sxexp2.lean); Lean checks each. -/
namespace Go.Proofs.YtpfignfgfhbblaaGreatDoorC
open Go.Proofs Go.Proofs.YtpfignfgfhbblaaGreatDoorSx
set_option maxRecDepth 100000
set_option linter.unusedVariables false
abbrev wv (l : List Int) (s : Bool) : Value := .agg #[iu (l.getD 0 0), iu (l.getD 1 0), iu (l.getD 2 0), iu (l.getD 3 0), iu (l.getD 4 0), iu (l.getD 5 0), .bool s]
abbrev wc (l : List Int) (s : Bool) : List SV := [.v (iu (l.getD 0 0)), .v (iu (l.getD 1 0)), .v (iu (l.getD 2 0)), .v (iu (l.getD 3 0)), .v (iu (l.getD 4 0)), .v (iu (l.getD 5 0)), .v (.bool s)]
abbrev wT (a b o : List Int) (s t u : Bool) : Tab cE := [(0, .box 142 (wc a s)), (1, .box 142 (wc b t)), (2, .box 142 [.v (iu 0), .v (iu 0), .v (iu 0), .v (iu 0), .v (iu 0), .v (iu 0), .v (.bool false)]), (3, .box 142 (wc o u))]
noncomputable def plK : List It := stackAt [1, 1, 1, 0, 1, 0] (bd Tryz.f101) [] []
noncomputable def tmK : List It := stackAt [1, 1, 0, 1, 0] (bd Tryz.f102) [] []
noncomputable def tnK (m : Nat) : List It := stackAt [1, 1, 0, 1, 0, 0, 1, 0, 0, 1, 1, 0] (bd Tryz.f102) [m] []
noncomputable def zeK : List It := stackAt [1, 0, 1, 0] (bd Tryz.f104) [] []
noncomputable def poK : List It := stackAt [1, 1, 0, 1, 0] (bd Tryz.f89) [] []
noncomputable def scK1 : List It := stackAt [1, 0, 1, 0] (bd Tryz.f155) [] []
noncomputable def orK : List It := stackAt [1, 1, 0, 1, 0] (bd Tryz.f138) [] []
noncomputable def baK : List It := stackAt [1, 0, 1, 0] (bd Tryz.f105) [] []
abbrev ps4 : List SV := [.na, .na, .p 0 0, .p 1 0, .p 2 0, .p 3 0]

theorem pla_1 (a b : List Int) (s t : Bool) (res : SV) (T' : Tab cE) (n' : Nat) (hF : Fin cE Tryz.f101 0 res T' n' plK [.na, .na, .p 0 0, .p 1 0, .p 2 0, .p 3 0, .v (.int .u64 (0)), .v (.int .i64 (0)), .na, .na, .na, .na, .na, .na, .na, .na, .na, .na, .na, .na, .na, .na, .na, .na, .na, .na, .na, .na, .na, .na, .na, .na] [(0, .box 142 [.v (.int .u64 (a.getD 0 0)), .v (.int .u64 (a.getD 1 0)), .v (.int .u64 (a.getD 2 0)), .v (.int .u64 (a.getD 3 0)), .v (.int .u64 (a.getD 4 0)), .v (.int .u64 (a.getD 5 0)), .v (.bool (s))]), (1, .box 142 [.v (.int .u64 (b.getD 0 0)), .v (.int .u64 (b.getD 1 0)), .v (.int .u64 (b.getD 2 0)), .v (.int .u64 (b.getD 3 0)), .v (.int .u64 (b.getD 4 0)), .v (.int .u64 (b.getD 5 0)), .v (.bool (t))]), (2, .box 142 [.v (.int .u64 (0)), .v (.int .u64 (0)), .v (.int .u64 (0)), .v (.int .u64 (0)), .v (.int .u64 (0)), .v (.int .u64 (0)), .v (.bool (false))]), (3, .box 142 [.v (.int .u64 (0)), .v (.int .u64 (0)), .v (.int .u64 (0)), .v (.int .u64 (0)), .v (.int .u64 (0)), .v (.int .u64 (0)), .v (.bool (false))])] 4) : Fin cE Tryz.f101 0 res T' n' [.code (bd Tryz.f101)] (argsS [.v (wv a s), .v (wv b t)] Tryz.f101.ntmps) [] 0 :=
  seg_at (keep := [2, 3, 4, 5, 6, 7]) (ct := ct) ctOk mixed (by decide) 2000 [] (by kernel_rfl) cj0 hF
theorem plb_1 (a b o : List Int) (s t : Bool) (c : Int) (i m : Nat) (res : SV) (T' : Tab cE) (n' : Nat) (h0 : decide ((i : Int) < 6) = true) (h1 : (0 : Int) ≤ (i : Int) ∧ (i : Int) < ((6 : Nat) : Int)) (h2 : i.succ.le (intPre IntKind.u64 (List.drop (0 + 0) (wc a s))).length) (h3 : i.succ.le (intPre IntKind.u64 (List.drop (0 + 0) (wc b t))).length) (h4 : i.succ.le (intPre IntKind.u64 (List.drop (0 + 0) (wc o false))).length) (hF : Fin cE Tryz.f101 0 res T' n' (inK plK (m)) [.na, .na, .p 0 0, .p 1 0, .p 2 0, .p 3 0, .v (.int .u64 (IntKind.u64.wrap ((IntKind.u64.wrap (IntKind.u64.wrap (c + (intPre IntKind.u64 (List.drop (0 + 0) (wc a s))).getD i 0) + (intPre IntKind.u64 (List.drop (0 + 0) (wc b t))).getD i 0)).tdiv 4294967296))), .v (.int .i64 (IntKind.i64.wrap ((i : Int) + 1))), .na, .na, .na, .na, .na, .na, .na, .na, .na, .na, .na, .na, .na, .na, .na, .na, .na, .na, .na, .na, .na, .na, .na, .na] [(0, .box 142 [.v (.int .u64 (a.getD 0 0)), .v (.int .u64 (a.getD 1 0)), .v (.int .u64 (a.getD 2 0)), .v (.int .u64 (a.getD 3 0)), .v (.int .u64 (a.getD 4 0)), .v (.int .u64 (a.getD 5 0)), .v (.bool (s))]), (1, .box 142 [.v (.int .u64 (b.getD 0 0)), .v (.int .u64 (b.getD 1 0)), .v (.int .u64 (b.getD 2 0)), .v (.int .u64 (b.getD 3 0)), .v (.int .u64 (b.getD 4 0)), .v (.int .u64 (b.getD 5 0)), .v (.bool (t))]), (2, .box 142 [.v (.int .u64 (0)), .v (.int .u64 (0)), .v (.int .u64 (0)), .v (.int .u64 (0)), .v (.int .u64 (0)), .v (.int .u64 (0)), .v (.bool (false))]), (3, .box 142 [.v (.int .u64 (((intPre IntKind.u64 (List.drop (0 + 0) (wc o false))).set i ((IntKind.u64.wrap (IntKind.u64.wrap (c + (intPre IntKind.u64 (List.drop (0 + 0) (wc a s))).getD i 0) + (intPre IntKind.u64 (List.drop (0 + 0) (wc b t))).getD i 0)).tmod 4294967296)).getD 0 0)), .v (.int .u64 (((intPre IntKind.u64 (List.drop (0 + 0) (wc o false))).set i ((IntKind.u64.wrap (IntKind.u64.wrap (c + (intPre IntKind.u64 (List.drop (0 + 0) (wc a s))).getD i 0) + (intPre IntKind.u64 (List.drop (0 + 0) (wc b t))).getD i 0)).tmod 4294967296)).getD 1 0)), .v (.int .u64 (((intPre IntKind.u64 (List.drop (0 + 0) (wc o false))).set i ((IntKind.u64.wrap (IntKind.u64.wrap (c + (intPre IntKind.u64 (List.drop (0 + 0) (wc a s))).getD i 0) + (intPre IntKind.u64 (List.drop (0 + 0) (wc b t))).getD i 0)).tmod 4294967296)).getD 2 0)), .v (.int .u64 (((intPre IntKind.u64 (List.drop (0 + 0) (wc o false))).set i ((IntKind.u64.wrap (IntKind.u64.wrap (c + (intPre IntKind.u64 (List.drop (0 + 0) (wc a s))).getD i 0) + (intPre IntKind.u64 (List.drop (0 + 0) (wc b t))).getD i 0)).tmod 4294967296)).getD 3 0)), .v (.int .u64 (((intPre IntKind.u64 (List.drop (0 + 0) (wc o false))).set i ((IntKind.u64.wrap (IntKind.u64.wrap (c + (intPre IntKind.u64 (List.drop (0 + 0) (wc a s))).getD i 0) + (intPre IntKind.u64 (List.drop (0 + 0) (wc b t))).getD i 0)).tmod 4294967296)).getD 4 0)), .v (.int .u64 (((intPre IntKind.u64 (List.drop (0 + 0) (wc o false))).set i ((IntKind.u64.wrap (IntKind.u64.wrap (c + (intPre IntKind.u64 (List.drop (0 + 0) (wc a s))).getD i 0) + (intPre IntKind.u64 (List.drop (0 + 0) (wc b t))).getD i 0)).tmod 4294967296)).getD 5 0)), .v (.bool (false))])] 4) : Fin cE Tryz.f101 0 res T' n' (bodyK plK m) (ps4 ++ [.v (iu c), .v (it i)] ++ List.replicate 24 .na) (wT a b o s t false) 4 :=
  seg_at (keep := [2, 3, 4, 5, 6, 7]) (ct := ct) ctOk mixed (by decide) 2000 [.t, .x, .x, .l, .x, .l] (by kernel_rfl) (cj h0 (cj h1 (cj h2 (cj h1 (cj h3 (cj h1 (cj h4 cj0))))))) hF
theorem plb_2 (a b o : List Int) (s t : Bool) (c : Int) (i m : Nat) (h0 : decide ((i : Int) < 6) = false) : Fin cE Tryz.f101 0 (.v (.agg #[(.int .u64 (o.getD 0 0)), (.int .u64 (o.getD 1 0)), (.int .u64 (o.getD 2 0)), (.int .u64 (o.getD 3 0)), (.int .u64 (o.getD 4 0)), (.int .u64 (o.getD 5 0)), (.bool (false))])) [] 0 (bodyK plK m) (ps4 ++ [.v (iu c), .v (it i)] ++ List.replicate 24 .na) (wT a b o s t false) 4 :=
  seg_fin (keep := [2, 3, 4, 5, 6, 7]) (ct := ct) ctOk mixed (by decide) 2000 [.f] (by kernel_rfl) (cj h0 cj0)
end Go.Proofs.YtpfignfgfhbblaaGreatDoorC
/- Each path of each function: on which conditions it is taken, what it gives. Printed by a program (wip/tools/sxexp2.lean); Lean checks each. -/
namespace Go.Proofs.YtpfignfgfhbblaaGreatDoorC
open Go.Proofs Go.Proofs.YtpfignfgfhbblaaGreatDoorSx
set_option maxRecDepth 100000
set_option linter.unusedVariables false
abbrev byT (h l g k : Int) (s t : Bool) (qh ql rh rl : Int) : Tab cE := [(0, .box 147 [.v (iu h), .v (iu l), .v (.bool s)]), (1, .box 147 [.v (iu g), .v (iu k), .v (.bool t)]), (2, .box 147 [.v (iu 0), .v (iu 0), .v (.bool false)]), (3, .box 147 [.v (iu qh), .v (iu ql), .v (.bool false)]), (4, .box 147 [.v (iu rh), .v (iu rl), .v (.bool false)])]
abbrev byS (i : Int) : List SV := [.na, .na, .p 0 0, .p 1 0, .p 2 0, .p 3 0, .p 4 0, .na, .na, .na, .na, .na, .na, .v (it i)] ++ List.replicate 109 .na
abbrev w0 : List SV := [.v (iu 0), .v (iu 0), .v (iu 0), .v (iu 0), .v (iu 0), .v (iu 0), .v (.bool false)]
abbrev paT (a b q r : List Int) (s t : Bool) : Tab cE := [(0, .box 142 (wc a s)), (1, .box 142 (wc b t)), (2, .box 142 w0), (3, .box 142 w0), (4, .box 142 (wc q false)), (5, .box 142 (wc r false))]
abbrev paS (i : Int) : List SV := [.na, .na, .p 0 0, .p 1 0, .p 2 0, .p 3 0, .p 4 0, .p 5 0, .v (it i)] ++ List.replicate 43 .na

end Go.Proofs.YtpfignfgfhbblaaGreatDoorC
