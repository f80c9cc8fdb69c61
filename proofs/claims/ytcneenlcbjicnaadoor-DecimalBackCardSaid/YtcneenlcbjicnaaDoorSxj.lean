/- The symbolic machine of a function's body, its calls, its pieces: what it comes to, the program comes to. -/
import Derived.Test.YtcneenlcbjicnaaDoorSxi
set_option linter.unusedVariables false
set_option linter.unusedSimpArgs false
namespace Go.Proofs.YtcneenlcbjicnaaDoorSx
open Go.RowKit Go.Proofs.YtcneenlcbjicnaaDoorW.PrintLast Go.Proofs.YtcneenlcbjicnaaDoorW.PrintWords
noncomputable section
/-! ### Scopes: jumps back, so many at the most -/
def scopeQ (P : Program) (c : Code) (Q : Exit → Act → World → Prop) : Nat → Exit → Act → World → Prop
  | 0 => Exit.noGoto Q
  | n + 1 => fun e a w => match e with
    | .goto l => match findLabel c l with
      | some rest => rest.wp P (scopeQ P c Q n) a w
      | none => False
    | e => Q e a w
theorem wp_scope_n {P : Program} {c : Code} {Q : Exit → Act → World → Prop} {a : Act} {w : World} (n : Nat) (h : c.wp P (scopeQ P c Q n) a w) : (Code.scope c).wp P Q a w := by
  intro b k cs
  have key : ∀ (n : Nat) (c' : Code) (a : Act) (w : World), c'.wp P (scopeQ P c Q n) a w → ∃ e a' w', Q e a' w' ∧ Arrives P (lone (b.at a (.code c' :: .inScope c :: k)) cs w) b k cs e a' w' := by
    intro n
    induction n with
    | zero =>
      intro c' a w h
      obtain ⟨e, a₁, w₁, hq, harr⟩ := h b (.inScope c :: k) cs
      cases e with
      | normal => exact ⟨.normal, a₁, w₁, hq, Steps.trans harr (.one step_inScope)⟩
      | exit id => exact ⟨.exit id, a₁, w₁, hq, fun k' hk => harr k' (by simp [exitTo, hk])⟩
      | goto l => exact hq.elim
      | ret => exact ⟨_, a₁, w₁, hq, harr⟩
      | panic ch => exact ⟨_, a₁, w₁, hq, harr⟩
      | outgrown => exact ⟨_, a₁, w₁, hq, harr⟩
    | succ n ih =>
      intro c' a w h
      obtain ⟨e, a₁, w₁, hq, harr⟩ := h b (.inScope c :: k) cs
      cases e with
      | normal => exact ⟨.normal, a₁, w₁, hq, Steps.trans harr (.one step_inScope)⟩
      | exit id => exact ⟨.exit id, a₁, w₁, hq, fun k' hk => harr k' (by simp [exitTo, hk])⟩
      | goto l =>
        simp only [scopeQ] at hq
        split at hq
        · rename_i rest hf
          obtain ⟨e₂, a₂, w₂, hq₂, harr₂⟩ := ih rest a₁ w₁ hq
          exact ⟨e₂, a₂, w₂, hq₂, .of_steps (harr _ (by simp [gotoIn, hf])) harr₂⟩
        · exact hq.elim
      | ret => exact ⟨_, a₁, w₁, hq, harr⟩
      | panic ch => exact ⟨_, a₁, w₁, hq, harr⟩
      | outgrown => exact ⟨_, a₁, w₁, hq, harr⟩
  obtain ⟨e, a', w', hq, harr⟩ := key n c a w h
  exact ⟨e, a', w', hq, .of_steps (.one step_scope) harr⟩

/-! ### A stack of what is still to come -/
inductive It where
  | code (c : Code)
  | blk (id : Nat)
  | rd (c : Code) (n : Nat)
  | sc (c : Code) (n : Nat)
  | mk
inductive Ex where
  | normal
  | exit (id : Nat)
  | goto (l : Nat)
  | ret
def Ex.out : Ex → Exit
  | .normal => .normal
  | .exit id => .exit id
  | .goto l => .goto l
  | .ret => .ret
/-- What is to hold where the stack's first item begins (or is left by an exit). -/
def kont (P : Program) (Q : Exit → Act → World → Prop) : List It → Exit → Act → World → Prop
  | [] => Q
  | .code c :: k => Exit.then (c.wp P (kont P Q k)) (kont P Q k)
  | .blk id :: k => Exit.inBlock id (kont P Q k)
  | .rd c n :: k => Exit.then (Code.rounds P c (kont P Q k) n) (kont P Q k)
  | .sc c n :: k => scopeQ P c (kont P Q k) n
  | .mk :: k => kont P Q k
structure Cfg (E : Env) where
  k : List It
  e : Ex
  σ : St E
/-- A condition: the script tells which way. -/
def condS {E : Env} (v : SV) (d : List (Dec E)) : Option (Bool × List Prop × List (Dec E)) := match v, d with
  | .v (.bool t), .t :: r => some (true, [t = true], r)
  | .v (.bool t), .f :: r => some (false, [t = false], r)
  | .v (.bool t), .l :: r => some (t, [], r)
  | .v (.bool t), [] => some (true, [t = true], [])
  | _, _ => none
inductive Mv (E : Env) where
  | stop
  | fail
  | go (c : Cfg E)
section
variable {E : Env}
def moveCode (E : Env) (ct : Table E) (k : List It) (σ : St E) : Code → Mv E
  | .skip => .go ⟨k, .normal, σ⟩
  | .label _ => .go ⟨k, .normal, σ⟩
  | .seq x y => .go ⟨.code x :: .code y :: k, .normal, σ⟩
  | .block id x => .go ⟨.code x :: .blk id :: k, .normal, σ⟩
  | .exit id => .go ⟨k, .exit id, σ⟩
  | .goto l => .go ⟨k, .goto l, σ⟩
  | .ret => .go ⟨k, .ret, σ⟩
  | .cond c x y => match condS (opd σ.s c) σ.d with
    | some (true, p, r) => .go ⟨.code x :: k, .normal, ⟨σ.s, σ.u, σ.b, σ.c ++ p, r, σ.n⟩⟩
    | some (false, p, r) => .go ⟨.code y :: k, .normal, ⟨σ.s, σ.u, σ.b, σ.c ++ p, r, σ.n⟩⟩
    | none => .fail
  | .region _ ops false => match runOps E ct ops ops.toList σ with
    | some τ => .go ⟨k, .normal, τ⟩
    | none => .fail
  | .region _ ops true => match runDrawn E ct ops σ with
    | some τ => .go ⟨k, .normal, τ⟩
    | none => .fail
  | .loop c => match σ.d with
    | .n m :: r => .go ⟨.rd c m :: k, .normal, ⟨σ.s, σ.u, σ.b, σ.c, r, σ.n⟩⟩
    | _ => .stop
  | .scope c => match σ.d with
    | .n m :: r => .go ⟨.code c :: .sc c m :: k, .normal, ⟨σ.s, σ.u, σ.b, σ.c, r, σ.n⟩⟩
    | _ => .stop
  | _ => .fail
def moveC (E : Env) (ct : Table E) : Cfg E → Mv E
  | ⟨[], _, _⟩ => .stop
  | ⟨.blk id :: k, .exit j, σ⟩ => bif Nat.beq j id then .go ⟨k, .normal, σ⟩ else .go ⟨k, .exit j, σ⟩
  | ⟨.blk _ :: k, .normal, σ⟩ => .go ⟨k, .normal, σ⟩
  | ⟨.blk _ :: k, .goto l, σ⟩ => .go ⟨k, .goto l, σ⟩
  | ⟨.blk _ :: k, .ret, σ⟩ => .go ⟨k, .ret, σ⟩
  | ⟨.rd c m :: k, .normal, σ⟩ => match σ.d with
    | .l :: r => match m with
      | m + 1 => .go ⟨.code c :: .rd c m :: k, .normal, ⟨σ.s, σ.u, σ.b, σ.c, r, σ.n⟩⟩
      | 0 => .fail
    | _ => .stop
  | ⟨.rd _ _ :: k, .exit j, σ⟩ => .go ⟨k, .exit j, σ⟩
  | ⟨.rd _ _ :: k, .goto l, σ⟩ => .go ⟨k, .goto l, σ⟩
  | ⟨.rd _ _ :: k, .ret, σ⟩ => .go ⟨k, .ret, σ⟩
  | ⟨.code _ :: k, .exit j, σ⟩ => .go ⟨k, .exit j, σ⟩
  | ⟨.code _ :: k, .goto l, σ⟩ => .go ⟨k, .goto l, σ⟩
  | ⟨.code _ :: k, .ret, σ⟩ => .go ⟨k, .ret, σ⟩
  | ⟨.code c :: k, .normal, σ⟩ => moveCode E ct k σ c
  | ⟨.sc _ m :: k, .normal, σ⟩ => match m with
    | 0 => .go ⟨k, .normal, σ⟩
    | _ + 1 => .go ⟨k, .normal, σ⟩
  | ⟨.sc _ m :: k, .exit j, σ⟩ => match m with
    | 0 => .go ⟨k, .exit j, σ⟩
    | _ + 1 => .go ⟨k, .exit j, σ⟩
  | ⟨.sc _ m :: k, .ret, σ⟩ => match m with
    | 0 => .go ⟨k, .ret, σ⟩
    | _ + 1 => .go ⟨k, .ret, σ⟩
  | ⟨.sc c m :: k, .goto l, σ⟩ => match m, findLabel c l with
    | m + 1, some rest => .go ⟨.mk :: .code rest :: .sc c m :: k, .normal, σ⟩
    | _, _ => .fail
  | ⟨.mk :: k, .normal, σ⟩ => match σ.d with
    | .l :: r => .go ⟨k, .normal, ⟨σ.s, σ.u, σ.b, σ.c, r, σ.n⟩⟩
    | _ => .stop
  | ⟨.mk :: _, _, _⟩ => .fail
def runC (E : Env) (ct : Table E) : Nat → Cfg E → Option (Cfg E)
  | 0, c => some c
  | n + 1, c => match moveC E ct c with
    | .stop => some c
    | .fail => none
    | .go c' => runC E ct n c'
theorem condS_sound {U : Nat → Prop} {μ : Nat → Value} {s : List SV} {a : Act} {c : Operand} {d r : List (Dec E)} {t : Bool} {p : List Prop} (hs : Slots U μ s a.tmps.toList) (h : condS (opd s c) d = some (t, p, r)) (hp : Conj p) : a.eval c = .bool t := by
  have hr := opd_rel hs c
  unfold condS at h
  split at h
  · rename_i u r' e
    rw [e] at hr
    simp only [Option.some.injEq, Prod.mk.injEq] at h
    obtain ⟨rfl, rfl, _⟩ := h
    have : u = true := hp
    subst this
    exact rel_v.1 hr
  · rename_i u r' e
    rw [e] at hr
    simp only [Option.some.injEq, Prod.mk.injEq] at h
    obtain ⟨rfl, rfl, _⟩ := h
    have : u = false := hp
    subst this
    exact rel_v.1 hr
  · rename_i u r' e
    rw [e] at hr
    simp only [Option.some.injEq, Prod.mk.injEq] at h
    obtain ⟨rfl, _, _⟩ := h
    exact rel_v.1 hr
  · rename_i u e
    rw [e] at hr
    simp only [Option.some.injEq, Prod.mk.injEq] at h
    obtain ⟨rfl, rfl, _⟩ := h
    have : u = true := hp
    subst this
    exact rel_v.1 hr
  · cases h
variable {ct : Table E} {Q : Exit → Act → World → Prop} {S : Nat → Prop} {w0 : World} {B : Nat → Prop} {n0 : Nat}
/-- A move's conditions and keys grow. -/
def Grows (σ τ : St E) : Prop := (Conj τ.c → Conj σ.c) ∧ σ.n ≤ τ.n
theorem Grows.refl (σ : St E) : Grows σ σ := ⟨id, Nat.le_refl _⟩
theorem moveCode_conds {k : List It} {σ : St E} {c : Code} {c' : Cfg E} (h : moveCode E ct k σ c = .go c') : Grows σ c'.σ := by
  cases c with
  | region id ops dr =>
    cases dr with
    | true =>
      simp only [moveCode] at h
      cases hr : runDrawn E ct ops σ with
      | none => simp [hr] at h
      | some τ =>
        simp only [hr, Mv.go.injEq] at h
        subst h
        exact drawn_conds hr
    | false =>
      simp only [moveCode] at h
      cases hr : runOps E ct ops ops.toList σ with
      | none => simp [hr] at h
      | some τ =>
        simp only [hr, Mv.go.injEq] at h
        subst h
        exact runOps_conds hr
  | cond x y z =>
    simp only [moveCode] at h
    split at h
    · simp only [Mv.go.injEq] at h
      subst h
      exact ⟨fun hc => (Conj.app hc).1, Nat.le_refl _⟩
    · simp only [Mv.go.injEq] at h
      subst h
      exact ⟨fun hc => (Conj.app hc).1, Nat.le_refl _⟩
    · cases h
  | skip => simp only [moveCode, Mv.go.injEq] at h; subst h; exact .refl _
  | label l => simp only [moveCode, Mv.go.injEq] at h; subst h; exact .refl _
  | seq x y => simp only [moveCode, Mv.go.injEq] at h; subst h; exact .refl _
  | block id x => simp only [moveCode, Mv.go.injEq] at h; subst h; exact .refl _
  | exit id => simp only [moveCode, Mv.go.injEq] at h; subst h; exact .refl _
  | goto l => simp only [moveCode, Mv.go.injEq] at h; subst h; exact .refl _
  | ret => simp only [moveCode, Mv.go.injEq] at h; subst h; exact .refl _
  | loop x =>
    simp only [moveCode] at h
    split at h
    · simp only [Mv.go.injEq] at h; subst h; exact ⟨id, Nat.le_refl _⟩
    · cases h
  | scope x =>
    simp only [moveCode] at h
    split at h
    · simp only [Mv.go.injEq] at h; subst h; exact ⟨id, Nat.le_refl _⟩
    · cases h
  | _ => simp [moveCode] at h
theorem move_conds {c c' : Cfg E} (h : moveC E ct c = .go c') : Grows c.σ c'.σ := by
  obtain ⟨k, e, σ⟩ := c
  cases k with
  | nil => simp [moveC] at h
  | cons x k =>
    cases x with
    | code c =>
      cases e with
      | normal => exact moveCode_conds h
      | exit j => simp only [moveC, Mv.go.injEq] at h; subst h; exact .refl _
      | goto j => simp only [moveC, Mv.go.injEq] at h; subst h; exact .refl _
      | ret => simp only [moveC, Mv.go.injEq] at h; subst h; exact .refl _
    | blk id =>
      cases e with
      | normal => simp only [moveC, Mv.go.injEq] at h; subst h; exact .refl _
      | exit j =>
        simp only [moveC] at h
        cases hj : Nat.beq j id <;> simp only [hj, cond_true, cond_false, Mv.go.injEq] at h <;> subst h <;> exact .refl _
      | goto j => simp only [moveC, Mv.go.injEq] at h; subst h; exact .refl _
      | ret => simp only [moveC, Mv.go.injEq] at h; subst h; exact .refl _
    | rd c n =>
      cases e with
      | normal =>
        simp only [moveC] at h
        split at h
        · split at h
          · simp only [Mv.go.injEq] at h; subst h; exact ⟨id, Nat.le_refl _⟩
          · cases h
        · cases h
      | exit j => simp only [moveC, Mv.go.injEq] at h; subst h; exact .refl _
      | goto j => simp only [moveC, Mv.go.injEq] at h; subst h; exact .refl _
      | ret => simp only [moveC, Mv.go.injEq] at h; subst h; exact .refl _
    | sc c n =>
      cases e with
      | goto l =>
        simp only [moveC] at h
        split at h
        · simp only [Mv.go.injEq] at h; subst h; exact .refl _
        · cases h
      | _ => cases n <;> simp only [moveC, Mv.go.injEq] at h <;> subst h <;> exact .refl _
    | mk =>
      cases e with
      | normal =>
        simp only [moveC] at h
        split at h
        · simp only [Mv.go.injEq] at h; subst h; exact ⟨id, Nat.le_refl _⟩
        · cases h
      | _ => simp [moveC] at h
theorem moveCode_sound (hct : TableOk E ct) (hmx : E.P.follows .mixedOrders = true) {k : List It} {σ : St E} {c : Code} {c' : Cfg E} {μ : Nat → Value} {a : Act} {w : World} (hS : Sim S w0 B n0 μ σ a w) (h : moveCode E ct k σ c = .go c') (hN : Free B n0 c'.σ.n) (hc : Conj c'.σ.c)
    (hQ : ∀ μ' a' w', (∀ k, Up B n0 σ.n k → μ' k = μ k) → Sim S w0 B n0 μ' c'.σ a' w' → kont E.P Q c'.k c'.e.out a' w') : c.wp E.P (kont E.P Q k) a w := by
  have same : ∀ k, Up B n0 σ.n k → μ k = μ k := fun _ _ => rfl
  cases c with
  | region id ops dr =>
    cases dr with
    | true =>
      simp only [moveCode] at h
      cases hr : runDrawn E ct ops σ with
      | none => simp [hr] at h
      | some τ =>
        simp only [hr, Mv.go.injEq] at h
        subst h
        exact drawn_sound hct hmx hS hr hN hc hQ
    | false =>
      simp only [moveCode] at h
      cases hr : runOps E ct ops ops.toList σ with
      | none => simp [hr] at h
      | some τ =>
        simp only [hr, Mv.go.injEq] at h
        subst h
        exact wp_region_list (runOps_sound hct hS hr hN hc hQ)
  | cond x y z =>
    simp only [moveCode] at h
    split at h
    · rename_i p r hcs
      simp only [Mv.go.injEq] at h
      subst h
      exact wp_cond_true (condS_sound hS.s hcs (Conj.app hc).2) (hQ μ a w same ⟨hS.d, hS.s, hS.m, hS.le⟩)
    · rename_i p r hcs
      simp only [Mv.go.injEq] at h
      subst h
      exact wp_cond_false (condS_sound hS.s hcs (Conj.app hc).2) (hQ μ a w same ⟨hS.d, hS.s, hS.m, hS.le⟩)
    · cases h
  | skip => simp only [moveCode, Mv.go.injEq] at h; subst h; exact wp_skip (hQ μ a w same hS)
  | label l => simp only [moveCode, Mv.go.injEq] at h; subst h; exact wp_label (hQ μ a w same hS)
  | seq x y => simp only [moveCode, Mv.go.injEq] at h; subst h; exact wp_seq (hQ μ a w same hS)
  | block id x => simp only [moveCode, Mv.go.injEq] at h; subst h; exact wp_block (hQ μ a w same hS)
  | exit id => simp only [moveCode, Mv.go.injEq] at h; subst h; exact wp_exit (hQ μ a w same hS)
  | goto l => simp only [moveCode, Mv.go.injEq] at h; subst h; exact wp_goto (hQ μ a w same hS)
  | ret => simp only [moveCode, Mv.go.injEq] at h; subst h; exact wp_ret (hQ μ a w same hS)
  | loop x =>
    simp only [moveCode] at h
    split at h
    · rename_i n r e
      simp only [Mv.go.injEq] at h
      subst h
      exact wp_loop_rounds n (hQ μ a w same ⟨hS.d, hS.s, hS.m, hS.le⟩)
    · cases h
  | scope x =>
    simp only [moveCode] at h
    split at h
    · rename_i n r e
      simp only [Mv.go.injEq] at h
      subst h
      exact wp_scope_n n (hQ μ a w same ⟨hS.d, hS.s, hS.m, hS.le⟩)
    · cases h
  | _ => simp [moveCode] at h
theorem move_sound (hct : TableOk E ct) (hmx : E.P.follows .mixedOrders = true) {c c' : Cfg E} {μ : Nat → Value} {a : Act} {w : World} (hS : Sim S w0 B n0 μ c.σ a w) (h : moveC E ct c = .go c') (hN : Free B n0 c'.σ.n) (hc : Conj c'.σ.c)
    (hQ : ∀ μ' a' w', (∀ k, Up B n0 c.σ.n k → μ' k = μ k) → Sim S w0 B n0 μ' c'.σ a' w' → kont E.P Q c'.k c'.e.out a' w') : kont E.P Q c.k c.e.out a w := by
  have same : ∀ k, Up B n0 c.σ.n k → μ k = μ k := fun _ _ => rfl
  obtain ⟨k, e, σ⟩ := c
  cases k with
  | nil => simp [moveC] at h
  | cons x k =>
    cases x with
    | code c =>
      cases e with
      | normal => exact moveCode_sound hct hmx hS h hN hc hQ
      | exit j => simp only [moveC, Mv.go.injEq] at h; subst h; exact hQ μ a w same hS
      | goto j => simp only [moveC, Mv.go.injEq] at h; subst h; exact hQ μ a w same hS
      | ret => simp only [moveC, Mv.go.injEq] at h; subst h; exact hQ μ a w same hS
    | blk id =>
      cases e with
      | normal => simp only [moveC, Mv.go.injEq] at h; subst h; exact hQ μ a w same hS
      | exit j =>
        simp only [moveC] at h
        cases hj : Nat.beq j id with
        | true =>
          simp only [hj, cond_true, Mv.go.injEq] at h
          subst h
          have : j = id := Nat.eq_of_beq_eq_true hj
          subst this
          have := hQ μ a w same hS
          simpa [kont, Ex.out, Exit.inBlock] using this
        | false =>
          simp only [hj, cond_false, Mv.go.injEq] at h
          subst h
          have hne : j ≠ id := fun e => by subst e; simp at hj
          have := hQ μ a w same hS
          simpa [kont, Ex.out, Exit.inBlock, hne] using this
      | goto j => simp only [moveC, Mv.go.injEq] at h; subst h; exact hQ μ a w same hS
      | ret => simp only [moveC, Mv.go.injEq] at h; subst h; exact hQ μ a w same hS
    | rd c n =>
      cases e with
      | normal =>
        simp only [moveC] at h
        split at h
        · split at h
          · simp only [Mv.go.injEq] at h
            subst h
            exact hQ μ a w same ⟨hS.d, hS.s, hS.m, hS.le⟩
          · cases h
        · cases h
      | exit j => simp only [moveC, Mv.go.injEq] at h; subst h; exact hQ μ a w same hS
      | goto j => simp only [moveC, Mv.go.injEq] at h; subst h; exact hQ μ a w same hS
      | ret => simp only [moveC, Mv.go.injEq] at h; subst h; exact hQ μ a w same hS
    | sc c n =>
      cases e with
      | goto l =>
        simp only [moveC] at h
        split at h
        · rename_i m rest hf
          simp only [Mv.go.injEq] at h
          subst h
          have h1 := hQ μ a w same hS
          show scopeQ E.P c (kont E.P Q k) (m + 1) (.goto l) a w
          simp only [scopeQ, hf]
          exact h1
        · cases h
      | normal => cases n <;> simp only [moveC, Mv.go.injEq] at h <;> subst h <;> exact hQ μ a w same hS
      | exit j => cases n <;> simp only [moveC, Mv.go.injEq] at h <;> subst h <;> exact hQ μ a w same hS
      | ret => cases n <;> simp only [moveC, Mv.go.injEq] at h <;> subst h <;> exact hQ μ a w same hS
    | mk =>
      cases e with
      | normal =>
        simp only [moveC] at h
        split at h
        · simp only [Mv.go.injEq] at h
          subst h
          exact hQ μ a w same ⟨hS.d, hS.s, hS.m, hS.le⟩
        · cases h
      | _ => simp [moveC] at h
theorem run_conds : ∀ {n : Nat} {x y : Cfg E}, runC E ct n x = some y → Grows x.σ y.σ
  | 0, x, y, h => by simp only [runC, Option.some.injEq] at h; subst h; exact .refl _
  | n + 1, x, y, h => by
    unfold runC at h
    cases hm : moveC E ct x with
    | stop => simp only [hm, Option.some.injEq] at h; subst h; exact .refl _
    | fail => simp [hm] at h
    | go c' =>
      simp only [hm] at h
      have h1 := move_conds hm
      have h2 := run_conds h
      exact ⟨fun hc => h1.1 (h2.1 hc), Nat.le_trans h1.2 h2.2⟩
/-- What the machine comes to, the program comes to. -/
theorem run_sound (hct : TableOk E ct) (hmx : E.P.follows .mixedOrders = true) : ∀ {n : Nat} {x y : Cfg E} {μ : Nat → Value} {a : Act} {w : World}, runC E ct n x = some y → Sim S w0 B n0 μ x.σ a w → Free B n0 y.σ.n → Conj y.σ.c →
    (∀ μ' a' w', (∀ k, Up B n0 x.σ.n k → μ' k = μ k) → Sim S w0 B n0 μ' y.σ a' w' → kont E.P Q y.k y.e.out a' w') → kont E.P Q x.k x.e.out a w
  | 0, x, y, μ, a, w, h, hS, hN, hc, hQ => by simp only [runC, Option.some.injEq] at h; subst h; exact hQ μ a w (fun _ _ => rfl) hS
  | n + 1, x, y, μ, a, w, h, hS, hN, hc, hQ => by
    unfold runC at h
    cases hm : moveC E ct x with
    | stop => simp only [hm, Option.some.injEq] at h; subst h; exact hQ μ a w (fun _ _ => rfl) hS
    | fail => simp [hm] at h
    | go c' =>
      simp only [hm] at h
      have hg := move_conds hm
      have hg2 := run_conds h
      refine move_sound hct hmx hS hm (fun k h1 h2 => hN k h1 (Nat.lt_of_lt_of_le h2 hg2.2)) (hg2.1 hc) (fun μ' a' w' hk hS' => run_sound hct hmx h hS' hN hc (fun μ'' a'' w'' hk' hS'' => ?_))
      exact hQ μ'' a'' w'' (fun k hkn => (hk' k (up_mono hg.2 k hkn)).trans (hk k hkn)) hS''
/-- Into a loop, round it; into a scope. -/
theorem loop_in {c : Code} {k : List It} {a : Act} {w : World} (n : Nat) (h : kont E.P Q (.rd c n :: k) .normal a w) : kont E.P Q (.code (.loop c) :: k) .normal a w := wp_loop_rounds n h
theorem loop_round {c : Code} {k : List It} {a : Act} {w : World} {n : Nat} (h : kont E.P Q (.code c :: .rd c n :: k) .normal a w) : kont E.P Q (.rd c (n + 1) :: k) .normal a w := h
theorem scope_in {c : Code} {k : List It} {a : Act} {w : World} (n : Nat) (h : kont E.P Q (.code c :: .sc c n :: k) .normal a w) : kont E.P Q (.code (.scope c) :: k) .normal a w := wp_scope_n n h

/-! ### Results -/
def resS (E : Env) (s : List SV) (b : Tab E) : ResultVar → Option SV
  | .tmp t => some (s.getD t .na)
  | .cell x t => match s.getD x .na with
    | .p k off => match look b k with
      | some (.box _ cs) => loadS E.P t cs off
      | _ => none
    | _ => none
def resAll (E : Env) (s : List SV) (b : Tab E) : List ResultVar → Option (List SV)
  | [] => some []
  | r :: l => match resS E s b r, resAll E s b l with
    | some u, some us => some (u :: us)
    | _, _ => none
def tupled (l : List SV) : SV := match l with
  | [v] => v
  | l => match allV l with
    | some vs => .v (.tuple vs.toArray)
    | none => .t l
def resultOf (E : Env) (fn : Func) (σ : St E) : Option SV := match resAll E σ.s (σ.u ++ σ.b) fn.results.toList with
  | some l => some (tupled l)
  | none => none
variable {w : World} {μ : Nat → Value} {σ : St E} {a : Act}
theorem resAll_run (hS : Sim S w0 B n0 μ σ a w) :
    ∀ {rs : List ResultVar} {vs : List SV}, resAll E σ.s (σ.u ++ σ.b) rs = some vs → ∃ us, Slots (Up B n0 σ.n) μ vs us ∧ ∀ (f : ResultVar → Sem Value) (hf : ∀ u, f (.tmp u) = pure (a.tmps.getD u undef)) (hcl : ∀ x t, f (.cell x t) = (do loadVar t (← asAddr (a.tmps.getD x undef)))), (rs.mapM f).run E.P w = .ok us w
  | [], vs, h => by simp only [resAll, Option.some.injEq] at h; subst h; exact ⟨[], slots_nil, fun f hf hcl => by simp⟩
  | r :: rs, vs, h => by
    simp only [resAll] at h
    cases h1 : resS E σ.s (σ.u ++ σ.b) r with
    | none => simp [h1] at h
    | some u =>
      cases h2 : resAll E σ.s (σ.u ++ σ.b) rs with
      | none => simp [h1, h2] at h
      | some us =>
        simp only [h1, h2, Option.some.injEq] at h
        subst h
        obtain ⟨vs', ih2, ih1⟩ := resAll_run hS h2
        cases r with
        | tmp t =>
          simp only [resS, Option.some.injEq] at h1
          have hr := opd_rel hS.s (.tmp t)
          simp only [opd] at hr
          rw [h1] at hr
          refine ⟨a.tmps.getD t undef :: vs', slots_cons.2 ⟨hr, ih2⟩, fun f hf hcl => ?_⟩
          have ih := ih1 f hf hcl
          rw [List.mapM_cons, hf]
          simp [ih]
        | cell x t =>
          simp only [resS] at h1
          have hr := opd_rel hS.s (.tmp x)
          simp only [opd] at hr
          split at h1
          · rename_i k off e
            rw [e] at hr
            split at h1
            · rename_i bt cs hb
              obtain ⟨g, us', g1, g2, g3, g4, g5⟩ := box_reads hS.m hb (.inl rfl)
              obtain ⟨uu, hu1, hu2⟩ := loadS_rel g3 h1
              unfold rel at hr
              obtain ⟨_, g', g1', hr⟩ := hr
              rw [g1] at g1'
              cases g1'
              have hld := run_loadVar (P := E.P) g5 hu1
              rw [Nat.zero_add] at hld
              refine ⟨uu :: vs', slots_cons.2 ⟨hu2, ih2⟩, fun f hf hcl => ?_⟩
              have ih := ih1 f hf hcl
              have hr' : a.tmps.getD x undef = .pointer (some ⟨g, off, none⟩) := hr
              rw [List.mapM_cons, hcl, hr']
              simp [asAddr, hld, ih]
            · cases h1
          · cases h1
def tupV : List Value → Value
  | [u] => u
  | us => .tuple us.toArray
theorem tupled_rel {U : Nat → Prop} {vs : List SV} {us : List Value} (h : Slots U μ vs us) : rel U μ (tupled vs) (tupV us) := by
  have gen : rel U μ (match allV vs with
    | some vs => SV.v (.tuple vs.toArray)
    | none => .t vs) (.tuple us.toArray) := by
    cases hv : allV vs with
    | some l => rw [allV_slots h hv]; exact rel_v.2 rfl
    | none => simp only; unfold rel; exact ⟨us, rfl, h⟩
  match vs, us, h, gen with
  | [], us, h, gen =>
    have e := h.nilr
    subst e
    exact gen
  | [v], us, h, gen =>
    obtain ⟨u, r, h1, h2, h3⟩ := h.consr
    rw [h3.nilr] at h1
    subst h1
    exact h2
  | v :: v' :: vs, us, h, gen =>
    obtain ⟨u, r, h1, h2, h3⟩ := h.consr
    obtain ⟨u', r', h1', h2', h3'⟩ := h3.consr
    subst h1'
    subst h1
    exact gen
theorem resultOf_run (hS : Sim S w0 B n0 μ σ a w) {fn : Func} {v : SV} (h : resultOf E fn σ = some v) : ∃ u, (results fn a.tmps).run E.P w = .ok u w ∧ rel (Up B n0 σ.n) μ v u := by
  unfold resultOf at h
  cases hr : resAll E σ.s (σ.u ++ σ.b) fn.results.toList with
  | none => simp [hr] at h
  | some l =>
    simp only [hr, Option.some.injEq] at h
    subst h
    obtain ⟨us, h2, h1⟩ := resAll_run hS hr
    refine ⟨tupV us, ?_, tupled_rel h2⟩
    unfold results
    have hmap : fn.results = fn.results.toList.toArray := by simp
    rw [hmap, List.mapM_toArray]
    simp only [Sem.run_bind, Sem.run_map]
    rw [h1 _ (fun u => rfl) (fun x t => rfl)]
    match us with
    | [] => simp [tupV]
    | [v] => simp [tupV]
    | x :: y :: l => simp [tupV]
end
end
end Go.Proofs.YtcneenlcbjicnaaDoorSx
