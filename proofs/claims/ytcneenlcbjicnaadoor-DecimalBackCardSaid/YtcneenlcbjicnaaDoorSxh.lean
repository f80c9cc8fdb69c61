/- The symbolic machine's regions: in the text's order, and in any order. -/
import Derived.Test.YtcneenlcbjicnaaDoorSxg
set_option linter.unusedVariables false
set_option linter.unusedSimpArgs false
namespace Go.Proofs.YtcneenlcbjicnaaDoorSx
open Go.RowKit Go.Proofs.YtcneenlcbjicnaaDoorW.PrintLast Go.Proofs.YtcneenlcbjicnaaDoorW.PrintWords
noncomputable section

/-! ### Guards; one step -/
/-- The slot that a guard looks at. -/
def gslot (ops : Array Oper) (o : Oper) : Option Tmp := match o.guard with
  | none => none
  | some (j, _) => match ops[j]? with
    | some oj => oj.dst
    | none => none
def isBoolV : Value → Bool
  | .bool _ => true
  | _ => false
/-- Is the operation wanted? -/
def wantS {E : Env} (ops : Array Oper) (o : Oper) (g : SV) (d : List (Dec E)) : Option (Bool × List Prop × List (Dec E)) := match o.guard with
  | none => some (true, [], d)
  | some (j, want) => match gslot ops o with
    | none => none
    | some _ => match g, d with
      | .v (.bool t), .t :: r => some (bif want then true else false, [t = true], r)
      | .v (.bool t), .f :: r => some (bif want then false else true, [t = false], r)
      | .v (.bool t), [] => some (bif want then true else false, [t = true], [])
      | .v (.bool t), .l :: r => some (bif t then want else !want, [], r)
      | .v (.bool _), _ => none
      | .v u, d => bif isBoolV u then none else some (false, [], d)
      | _, _ => none
def gval (s : List SV) : Option Tmp → SV
  | some t => s.getD t .na
  | none => .na
theorem wantS_sound {E : Env} {U : Nat → Prop} {μ : Nat → Value} {s : List SV} {a : Act} {ops : Array Oper} {o : Oper} {d r : List (Dec E)} {t : Bool} {c : List Prop} (hs : Slots U μ s a.tmps.toList) (h : wantS ops o (gval s (gslot ops o)) d = some (t, c, r)) (hc : Conj c) :
    Region.wanted o (yielded ops a.tmps) = t := by
  unfold wantS at h
  unfold Region.wanted
  cases hg : o.guard with
  | none => simp only [hg, Option.some.injEq, Prod.mk.injEq] at h ⊢; exact h.1
  | some p =>
    obtain ⟨j, want⟩ := p
    simp only [hg] at h ⊢
    cases hgs : gslot ops o with
    | none => simp [hgs] at h
    | some x =>
      simp only [hgs, gval] at h
      have hj : (ops[j]?).bind (·.dst) = some x := by
        simp only [gslot, hg] at hgs
        cases ho : ops[j]? with
        | none => simp [ho] at hgs
        | some oj => simpa [ho] using hgs
      unfold yielded
      rw [hj]
      simp only [Option.bind_some]
      rw [List.getD_eq_getElem?_getD] at h
      cases hsx : s[x]? with
      | none => simp [hsx] at h
      | some sv =>
        obtain ⟨u, hu, hr⟩ := hs.get x sv hsx
        have hu' : a.tmps[x]? = some u := by simpa using hu
        rw [hu']
        simp only [hsx, Option.getD_some] at h
        split at h
        · rename_i b r'
          simp only [Option.some.injEq, Prod.mk.injEq] at h
          obtain ⟨h1, h2, h3⟩ := h
          subst h2
          have hb : b = true := hc
          have hr' : u = .bool b := rel_v.1 hr
          rw [hr', hb, ← h1]
          cases want <;> rfl
        · rename_i b r'
          simp only [Option.some.injEq, Prod.mk.injEq] at h
          obtain ⟨h1, h2, h3⟩ := h
          subst h2
          have hb : b = false := hc
          have hr' : u = .bool b := rel_v.1 hr
          rw [hr', hb, ← h1]
          cases want <;> rfl
        · rename_i b
          simp only [Option.some.injEq, Prod.mk.injEq] at h
          obtain ⟨h1, h2, h3⟩ := h
          subst h2
          have hb : b = true := hc
          have hr' : u = .bool b := rel_v.1 hr
          rw [hr', hb, ← h1]
          cases want <;> rfl
        · rename_i b r'
          simp only [Option.some.injEq, Prod.mk.injEq] at h
          obtain ⟨h1, h2, h3⟩ := h
          have hr' : u = .bool b := rel_v.1 hr
          rw [hr', ← h1]
          cases want <;> cases b <;> rfl
        · cases h
        · rename_i u' _ _ _ _ _
          have hr' : u = u' := rel_v.1 hr
          cases hb : isBoolV u' with
          | true => simp [hb] at h
          | false =>
            simp only [hb, cond_false, Option.some.injEq, Prod.mk.injEq] at h
            rw [← h.1, hr']
            cases u' <;> first | rfl | (simp [isBoolV] at hb)
        · cases h
def putS (s : List SV) (d : Option Tmp) (v : SV) : List SV := match d with
  | some d => s.set d v
  | none => s
/-- One step: the guard, the operation. -/
def stepE (E : Env) (ct : Table E) (ops : Array Oper) (o : Oper) (key : Nat) (g : SV) (rd : Operand → SV) (b : Tab E) (d : List (Dec E)) : Option (Res E) :=
  match wantS ops o g d with
  | none => none
  | some (true, c, r) => match exec E ct rd b key o r with
    | some R => some ⟨R.v, R.u, R.n, c ++ R.c, R.d⟩
    | none => none
  | some (false, c, r) => some ⟨.v undef, [], key, c, r⟩
section
variable {E : Env} {ct : Table E} {Q : Exit → Act → World → Prop} {S : Nat → Prop} {w0 w : World} {U : Nat → Prop} {μ : Nat → Value} {s : List SV} {b : Tab E} {a : Act} {o : Oper} {ops : Array Oper} {K : Act → World → Prop} {key : Nat}
theorem stepE_sound (hct : TableOk E ct) (hs : Slots U μ s a.tmps.toList) (hm : Mem S w0 U μ b w) {d : List (Dec E)} {R : Res E} (h : stepE E ct ops o key (gval s (gslot ops o)) (opd s) b d = some R) (hf : Free U key R.n) (hc : Conj R.c) (hK : Leads S w0 U μ b key a o R K) :
    if Region.wanted o (yielded ops a.tmps) = true then Oper.wp E.P o a w K Q else K (a.put o.dst undef) w := by
  unfold stepE at h
  cases hw : wantS ops o (gval s (gslot ops o)) d with
  | none => simp [hw] at h
  | some p =>
    obtain ⟨t, c, r⟩ := p
    cases t with
    | true =>
      simp only [hw] at h
      cases he : exec E ct (opd s) b key o r with
      | none => simp [he] at h
      | some R1 =>
        simp only [he, Option.some.injEq] at h
        subst h
        have h1 := Conj.app hc
        rw [wantS_sound hs hw h1.1, if_pos rfl]
        exact exec_sound hct hs hm he hf h1.2 hK
    | false =>
      simp only [hw, Option.some.injEq] at h
      subst h
      rw [wantS_sound hs hw hc, if_neg (by simp)]
      exact hK μ undef w (fun _ _ => rfl) (rel_v.2 rfl) (hm.up key)
end
/-! ### The text's order -/
/-- A running call: its slots, what it has turned, what was there. -/
structure St (E : Env) where
  s : List SV
  u : Tab E
  b : Tab E
  c : List Prop
  d : List (Dec E)
  n : Nat
structure Sim {E : Env} (S : Nat → Prop) (w0 : World) (B : Nat → Prop) (n0 : Nat) (μ : Nat → Value) (σ : St E) (a : Act) (w : World) : Prop where
  d : a.defers = []
  s : Slots (Up B n0 σ.n) μ σ.s a.tmps.toList
  m : Mem S w0 (Up B n0 σ.n) μ (σ.u ++ σ.b) w
  le : n0 ≤ σ.n
theorem up_up {B : Nat → Prop} {n0 n m : Nat} (h0 : n0 ≤ n) (h : n ≤ m) : Up (Up B n0 n) n m = Up B n0 m := by
  funext k
  refine propext ⟨fun hk => ?_, fun hk => ?_⟩
  · rcases hk with (hk | hk) | hk
    · exact .inl hk
    · exact .inr ⟨hk.1, by omega⟩
    · exact .inr ⟨by omega, hk.2⟩
  · rcases hk with hk | hk
    · exact .inl (.inl hk)
    · by_cases c : k < n
      · exact .inl (.inr ⟨hk.1, c⟩)
      · exact .inr ⟨by omega, hk.2⟩
theorem free_up {B : Nat → Prop} {n0 n m N : Nat} (hN : Free B n0 N) (h0 : n0 ≤ n) (h : m ≤ N) : Free (Up B n0 n) n m := by
  intro k h1 h2 h3
  rcases h3 with h3 | h3
  · exact hN k (by omega) (by omega) h3
  · omega
theorem up_mono {B : Nat → Prop} {n0 n m : Nat} (h : n ≤ m) : ∀ k, Up B n0 n k → Up B n0 m k := by
  intro k hk
  rcases hk with hk | hk
  · exact .inl hk
  · exact .inr ⟨hk.1, by omega⟩
theorem put_slots {U : Nat → Prop} {μ : Nat → Value} {s : List SV} {a : Act} {v : SV} {u : Value} (h : Slots U μ s a.tmps.toList) (hr : rel U μ v u) (d : Option Tmp) : Slots U μ (putS s d v) (a.put d u).tmps.toList := by
  cases d with
  | none => simpa [putS, Act.put] using h
  | some d =>
    simp only [putS, Act.put, Array.toList_setIfInBounds]
    exact h.set d hr
def runOps (E : Env) (ct : Table E) (ops : Array Oper) : List Oper → St E → Option (St E)
  | [], σ => some σ
  | o :: l, σ => match stepE E ct ops o σ.n (gval σ.s (gslot ops o)) (opd σ.s) (σ.u ++ σ.b) σ.d with
    | some R => bif Nat.ble σ.n R.n then runOps E ct ops l ⟨putS σ.s o.dst R.v, R.u ++ σ.u, σ.b, σ.c ++ R.c, R.d, R.n⟩ else none
    | none => none
theorem runOps_conds {E : Env} {ct : Table E} {ops : Array Oper} : ∀ {l : List Oper} {σ τ : St E}, runOps E ct ops l σ = some τ → (Conj τ.c → Conj σ.c) ∧ σ.n ≤ τ.n
  | [], σ, τ, h => by simp only [runOps, Option.some.injEq] at h; subst h; exact ⟨id, Nat.le_refl _⟩
  | o :: l, σ, τ, h => by
    unfold runOps at h
    split at h
    · rename_i R he
      cases hn : Nat.ble σ.n R.n with
      | false => simp [hn] at h
      | true =>
        simp only [hn, cond_true] at h
        have ih := runOps_conds h
        exact ⟨fun hc => (Conj.app (ih.1 hc)).1, Nat.le_trans (Nat.le_of_ble_eq_true hn) ih.2⟩
    · cases h
theorem runOps_sound {E : Env} {ct : Table E} {Q : Exit → Act → World → Prop} {S : Nat → Prop} {w0 : World} {B : Nat → Prop} {n0 : Nat} {ops : Array Oper} (hct : TableOk E ct) : ∀ {l : List Oper} {σ τ : St E} {μ : Nat → Value} {a : Act} {w : World}, Sim S w0 B n0 μ σ a w → runOps E ct ops l σ = some τ → Free B n0 τ.n → Conj τ.c →
    (∀ μ' a' w', (∀ k, Up B n0 σ.n k → μ' k = μ k) → Sim S w0 B n0 μ' τ a' w' → Q .normal a' w') → wpList E.P ops Q l a w
  | [], σ, τ, μ, a, w, hS, h, hN, hc, hQ => by
    simp only [runOps, Option.some.injEq] at h
    subst h
    exact hQ μ a w (fun _ _ => rfl) hS
  | o :: l, σ, τ, μ, a, w, hS, h, hN, hc, hQ => by
    unfold runOps at h
    split at h
    · rename_i R he
      cases hn : Nat.ble σ.n R.n with
      | false => simp [hn] at h
      | true =>
        simp only [hn, cond_true] at h
        have hle := Nat.le_of_ble_eq_true hn
        refine wpList_step fun K hK => ?_
        refine stepE_sound hct hS.s hS.m he (free_up hN hS.le (runOps_conds h).2) (Conj.app ((runOps_conds h).1 hc)).2 ?_
        intro μ' u w' hk hr hm
        rw [up_up hS.le hle] at hr hm
        refine hK _ _ (runOps_sound hct (μ := μ') (σ := ⟨putS σ.s o.dst R.v, R.u ++ σ.u, σ.b, σ.c ++ R.c, R.d, R.n⟩) ⟨?_, ?_, ?_, Nat.le_trans hS.le hle⟩ h hN hc (fun μ'' a'' w'' h1 h2 => hQ μ'' a'' w'' (fun k hkn => (h1 k (up_mono hle k hkn)).trans (hk k hkn)) h2))
        · cases hd : o.dst <;> simp [Act.put, hS.d]
        · exact put_slots (slots_mono (up_mono hle) hk _ _ hS.s) hr o.dst
        · simpa [List.append_assoc] using hm
    · cases h
/-! ### What an operation reads -/
/-- The objects that an operation looks at: none told: all. -/
def readsOf {E : Env} (ct : Table E) (rd : Operand → SV) (o : Oper) (d : List (Dec E)) : Option (List Nat) := match o.op with
  | .load _ x | .store _ x _ | .indexAddr _ x _ | .slice _ x _ _ _ | .convert _ _ x => some (keyS (rd x))
  | .binOp _ _ x y _ => some (keyS (rd x) ++ keyS (rd y))
  | .call c => match c.callee with
    | .builtin _ => some (c.args.toList.flatMap fun x => keyS (rd x))
    | .value f => match rd f with
      | .v (.func (.func g) _ _) => bif told ct g d then some (c.args.toList.flatMap fun x => keyS (rd x)) else none
      | _ => none
    | _ => none
  | _ => some []
section
variable {E : Env} {b b' : Tab E} {key : Nat}
theorem viewOf_congr {x : SV} (h : ∀ k ∈ keyS x, look b k = look b' k) (e : TypeId) : viewOf b e x = viewOf b' e x := by
  cases x with
  | o k => simp only [viewOf, h k (by simp [keyS])]
  | s k sz lo n => simp only [viewOf, h k (by simp [keyS])]
  | sb k lo n cap => simp only [viewOf, h k (by simp [keyS])]
  | v x =>
    cases x with
    | slice a n c => cases a <;> rfl
    | _ => rfl
  | _ => rfl
theorem lenS_congr {x : SV} (h : ∀ k ∈ keyS x, look b k = look b' k) : lenS b x = lenS b' x := by
  cases x with
  | o k => simp only [lenS, h k (by simp [keyS])]
  | _ => rfl
theorem isRow_congr {x : SV} (h : ∀ k ∈ keyS x, look b k = look b' k) : isRow b x = isRow b' x := by
  cases x with
  | o k => simp only [isRow, h k (by simp [keyS])]
  | _ => rfl
theorem srcS_congr {x : SV} (h : ∀ k ∈ keyS x, look b k = look b' k) (e tx : TypeId) : srcS b e tx x = srcS b' e tx x := by
  unfold srcS
  rw [viewOf_congr h]
theorem dstS_congr {x : SV} (h : ∀ k ∈ keyS x, look b k = look b' k) (e : TypeId) : dstS b e x = dstS b' e x := by
  cases x with
  | o k => simp only [dstS, h k (by simp [keyS])]
  | s k sz lo n => simp only [dstS, h k (by simp [keyS])]
  | sb k lo n cap => simp only [dstS, h k (by simp [keyS])]
  | v x =>
    cases x with
    | slice a n c => cases a <;> rfl
    | _ => rfl
  | _ => rfl
theorem xLoad_congr {x : SV} (h : ∀ k ∈ keyS x, look b k = look b' k) (t : TypeId) (d : List (Dec E)) : xLoad b key t x d = xLoad b' key t x d := by
  cases x with
  | p k o => simp only [xLoad, h k (by simp [keyS])]
  | q k sz i fo => simp only [xLoad, h k (by simp [keyS])]
  | v x =>
    cases x with
    | pointer a =>
      cases a with
      | none => rfl
      | some a =>
        obtain ⟨g, off, sp⟩ := a
        cases sp <;> rfl
    | _ => rfl
  | _ => rfl
theorem xStore_congr {x y : SV} (h : ∀ k ∈ keyS x, look b k = look b' k) (t : TypeId) (d : List (Dec E)) : xStore b key t x y d = xStore b' key t x y d := by
  cases x with
  | p k o => simp only [xStore, h k (by simp [keyS])]
  | q k sz i fo => simp only [xStore, h k (by simp [keyS])]
  | _ => rfl
theorem xIndexAddr_congr {x y : SV} (h : ∀ k ∈ keyS x, look b k = look b' k) (t : TypeId) (d : List (Dec E)) : xIndexAddr b key t x y d = xIndexAddr b' key t x y d := by
  cases x with
  | o k => simp only [xIndexAddr, h k (by simp [keyS])]
  | v x =>
    cases x with
    | pointer a =>
      cases a with
      | none => rfl
      | some a =>
        obtain ⟨g, off, sp⟩ := a
        cases sp <;> rfl
    | _ => rfl
  | _ => rfl
theorem xSlice_congr {x : SV} {lo hi : Option SV} (h : ∀ k ∈ keyS x, look b k = look b' k) (t : TypeId) (d : List (Dec E)) : xSlice b key t x lo hi d = xSlice b' key t x lo hi d := by
  cases x with
  | o k => simp only [xSlice, h k (by simp [keyS])]
  | s k sz lo n => simp only [xSlice, h k (by simp [keyS])]
  | _ => rfl
theorem xAppend_congr {x y : SV} (h : ∀ k ∈ keyS x, look b k = look b' k) (h' : ∀ k ∈ keyS y, look b k = look b' k) (t tx : TypeId) (d : List (Dec E)) : xAppend b key t tx x y d = xAppend b' key t tx x y d := by
  unfold xAppend
  simp only [dstS_congr h, srcS_congr h']
theorem execPure_congr {rd rd' : Operand → SV} {o : Oper} {d : List (Dec E)} (hsel : ∀ cs b, o.op ≠ .select cs b) (h : ∀ x ∈ o.op.operands, rd x = rd' x) : execPure E rd key o d = execPure E rd' key o d := by
  unfold execPure
  have h1 : o.op.operands.toList.map rd = o.op.operands.toList.map rd' := List.map_congr_left (fun x hx => h x (by simpa using hx))
  have h2 : execOp (fun x => valOf (rd x)) o = execOp (fun x => valOf (rd' x)) o :=
    execOp_congr o hsel (fun x hx => by rw [h x hx])
  rw [h1, h2]
theorem partsS_congr {rd rd' : Operand → SV} : ∀ {ps : List (Nat × Operand)}, (∀ p ∈ ps, rd p.2 = rd' p.2) → partsS rd ps = partsS rd' ps
  | [], _ => rfl
  | (i, x) :: r, h => by
    have h1 := h (i, x) List.mem_cons_self
    simp only at h1
    unfold partsS
    rw [h1, partsS_congr (fun p hp => h p (List.mem_cons_of_mem _ hp))]
theorem exec_congr {ct : Table E} {rd rd' : Operand → SV} {o : Oper} {d : List (Dec E)} (h : ∀ x ∈ o.op.operands, rd x = rd' x) (hct : TellsOk E ct) (hb : match readsOf ct rd o d with | some ks => ∀ k ∈ ks, look b k = look b' k | none => b = b') :
    exec E ct rd b key o d = exec E ct rd' b' key o d := by
  have hp := fun d => execPure_congr (E := E) (key := key) (rd := rd) (rd' := rd') (o := o) (d := d)
  unfold exec
  obtain ⟨dst, op, ty, pos, after, guard⟩ := o
  cases op with
  | move x => simp only [h x (by simp [Op.operands])]
  | assign x => simp only [h x (by simp [Op.operands])]
  | pick c x y => simp only [h c (by simp [Op.operands]), h x (by simp [Op.operands]), h y (by simp [Op.operands])]
  | alloc t => rfl
  | box t x => simp only [h x (by simp [Op.operands])]
  | load t x =>
    simp only [readsOf] at hb
    simp only [← h x (by simp [Op.operands]), xLoad_congr hb]
  | store t x y =>
    simp only [readsOf] at hb
    simp only [← h x (by simp [Op.operands]), ← h y (by simp [Op.operands]), xStore_congr hb]
  | nilCheck x =>
    simp only [← h x (by simp [Op.operands]), hp _ (by simp) h]
  | fieldAddr t x f => simp only [h x (by simp [Op.operands])]
  | indexAddr t x ix =>
    simp only [readsOf] at hb
    simp only [← h x (by simp [Op.operands]), ← h ix (by simp [Op.operands]), xIndexAddr_congr hb]
  | slice t x lo hi mx =>
    simp only [readsOf] at hb
    cases mx with
    | some m => exact hp _ (by simp) h
    | none =>
      have e1 : lo.map rd = lo.map rd' := by cases lo with
        | none => rfl
        | some y => simp only [Option.map_some, h y (by simp [Op.operands])]
      have e2 : hi.map rd = hi.map rd' := by cases hi with
        | none => rfl
        | some y => simp only [Option.map_some, h y (by simp [Op.operands])]
      simp only [← h x (by simp [Op.operands]), ← e1, ← e2, xSlice_congr hb, hp _ (by simp) h]
  | makeSlice t x y =>
    simp only [h x (by simp [Op.operands]), h y (by simp [Op.operands])]
    rfl
  | build t ps =>
    have e1 : partsS rd ps.toList = partsS rd' ps.toList := partsS_congr (fun p hp => h p.2 (by simp [Op.operands]; exact ⟨p.1, by simpa using hp⟩))
    simp only [xBuild, e1]
  | buildSlice t n ps =>
    have e1 : partsS rd ps.toList = partsS rd' ps.toList := partsS_congr (fun p hp => h p.2 (by simp [Op.operands]; exact ⟨p.1, by simpa using hp⟩))
    simp only [xBuildSlice, e1]
  | field t x f => simp only [← h x (by simp [Op.operands]), hp _ (by simp) h]
  | index t x ix => simp only [xIndexV, ← h x (by simp [Op.operands]), ← h ix (by simp [Op.operands]), hp _ (by simp) h]
  | extract x i => simp only [← h x (by simp [Op.operands]), hp _ (by simp) h]
  | call c =>
    obtain ⟨callee, args, ats⟩ := c
    cases callee with
    | value f =>
      have h1 : args.toList.map rd = args.toList.map rd' := List.map_congr_left (fun x hx => h x (by simp only [Op.operands, Call.operands]; simp; exact .inr (by simpa using hx)))
      simp only [← h f (by simp [Op.operands, Call.operands]), ← h1]
      simp only [readsOf] at hb
      generalize rd f = vf at hb ⊢
      cases vf with
      | v x =>
        cases x with
        | func fn fs cs =>
          cases fn with
          | func g =>
            simp only at hb ⊢
            cases ht : told ct g d with
            | true =>
              simp only [ht, cond_true] at hb
              rw [hct g _ _ b b' key d ht (fun k hk => by
                rw [List.flatMap_map] at hk
                exact hb k hk)]
            | false =>
              simp only [ht, cond_false] at hb
              rw [hb]
          | _ => rfl
        | _ => rfl
      | _ => rfl
    | builtin bi =>
      simp only [readsOf] at hb
      have ha : ∀ x ∈ args.toList, rd x = rd' x := fun x hx => h x (by simp only [Op.operands, Call.operands]; simp; simpa using hx)
      have hk : ∀ x ∈ args.toList, ∀ k ∈ keyS (rd x), look b k = look b' k := fun x hx k hk => hb k (List.mem_flatMap.2 ⟨x, hx, hk⟩)
      simp only
      generalize hal : args.toList = al at ha hk
      generalize htl : ats.toList = tl
      unfold xBuiltin
      split
      · rename_i x t
        rw [← ha x (by simp), lenS_congr (hk x (by simp))]
        simp only [hp _ (by simp) h]
      · rename_i x y t tx
        rw [← ha x (by simp), ← ha y (by simp), xAppend_congr (hk x (by simp)) (hk y (by simp))]
        rfl
      · exact hp _ (by simp) h
    | invoke r n => rfl
  | binOp op t x y yt =>
    simp only [readsOf, List.mem_append] at hb
    have e1 : nilEq b t (rd x) (rd y) = nilEq b' t (rd x) (rd y) := by
      unfold nilEq
      rw [isRow_congr (fun k hk => hb k (.inl hk)), isRow_congr (fun k hk => hb k (.inr hk))]
    simp only [xBin, ← h x (by simp [Op.operands]), ← h y (by simp [Op.operands]), e1, hp _ (by simp) h]
  | convert src dst' x =>
    simp only [readsOf] at hb
    simp only [xConv, ← h x (by simp [Op.operands]), hp _ (by simp) h, viewOf_congr hb]
  | select cs bl => rfl
  | _ => exact hp _ (by simp) h
end
end
end Go.Proofs.YtcneenlcbjicnaaDoorSx
