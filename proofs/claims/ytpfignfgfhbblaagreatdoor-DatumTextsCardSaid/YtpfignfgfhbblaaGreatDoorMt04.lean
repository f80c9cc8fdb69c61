import Derived.Test.YtpfignfgfhbblaaGreatDoorMt03
/- The symbolic machine's regions of any order: the text's order, and no two operations that are free of each other touch the same slot or object. -/
set_option linter.unusedVariables false
set_option linter.unusedSimpArgs false
namespace Go.Proofs.YtpfignfgfhbblaaGreatDoorSx
open Go.RowKit Go.Proofs.YtpfignfgfhbblaaGreatDoorW.PrintLast Go.Proofs.YtpfignfgfhbblaaGreatDoorW.PrintWords
noncomputable section
structure Ef (E : Env) where
  i : Nat
  t : Option Tmp
  v : SV
  u : Tab E
section
variable {E : Env}
def efS (b : Nat → Bool) (s : List SV) : List (Ef E) → List SV
  | [] => s
  | e :: l => efS b (bif b e.i then putS s e.t e.v else s) l
def efB (b : Nat → Bool) (x : Tab E) : List (Ef E) → Tab E
  | [] => x
  | e :: l => efB b (bif b e.i then e.u ++ x else x) l
def isT (t : Tmp) : Option Tmp → Bool
  | some u => Nat.beq u t
  | none => false
def isU (k : Nat) (u : Tab E) : Bool := u.any fun e => Nat.beq e.1 k
theorem putS_get {s : List SV} {d : Option Tmp} {v : SV} (t : Tmp) (h : isT t d = false) : (putS s d v).getD t .na = s.getD t .na := by
  cases d with
  | none => rfl
  | some u =>
    have : u ≠ t := fun e => by subst e; simp [isT] at h
    simp [putS, List.getD_eq_getElem?_getD, List.getElem?_set_ne this]
theorem putS_length {s : List SV} {d : Option Tmp} {v : SV} : (putS s d v).length = s.length := by cases d <;> simp [putS]
theorem efS_length {b : Nat → Bool} : ∀ {l : List (Ef E)} {s : List SV}, (efS b s l).length = s.length
  | [], _ => rfl
  | e :: l, s => by
    unfold efS
    rw [efS_length]
    cases b e.i <;> simp [putS_length]
theorem isU_look {u : Tab E} {k : Nat} (h : isU k u = false) : look u k = none := by
  induction u with
  | nil => rfl
  | cons e u ih =>
    obtain ⟨j, x⟩ := e
    simp only [isU, List.any_cons, Bool.or_eq_false_iff] at h
    unfold look
    rw [h.1]
    exact ih h.2
theorem upB_look {x u : Tab E} {k : Nat} (h : isU k u = false) : look (u ++ x) k = look x k := by
  rw [look_app, isU_look h]
theorem look_app_congr {x x' u : Tab E} {k : Nat} (h : look x k = look x' k) : look (u ++ x) k = look (u ++ x') k := by
  rw [look_app, look_app, h]
theorem isU_some {u : Tab E} {k : Nat} (h : isU k u = true) : ∃ y, look u k = some y := by
  induction u with
  | nil => simp [isU] at h
  | cons e u ih =>
    obtain ⟨j, x⟩ := e
    unfold look
    cases hj : Nat.beq j k with
    | true => exact ⟨x, rfl⟩
    | false =>
      simp only [isU, List.any_cons, hj, Bool.false_or] at h
      exact ih h
/-- Two choices that agree on the writers of a slot leave the same there. -/
theorem efS_agree {b b' : Nat → Bool} {t : Tmp} : ∀ {l : List (Ef E)} {s s' : List SV}, s.length = s'.length → s.getD t .na = s'.getD t .na → (∀ e ∈ l, isT t e.t = true → b e.i = b' e.i) → (efS b s l).getD t .na = (efS b' s' l).getD t .na
  | [], _, _, _, h, _ => h
  | e :: l, s, s', hl, h, hw => by
    unfold efS
    refine efS_agree ?_ ?_ (fun x hx => hw x (List.mem_cons_of_mem _ hx))
    · cases b e.i <;> cases b' e.i <;> simp [putS_length, hl]
    · cases ht : isT t e.t with
      | true =>
        rw [hw e List.mem_cons_self ht]
        cases b' e.i with
        | false => exact h
        | true =>
          cases he : e.t with
          | none => simp [he, isT] at ht
          | some u =>
            have : u = t := by simp [he, isT] at ht; exact ht
            subst this
            simp only [cond_true, putS, List.getD_eq_getElem?_getD]
            by_cases hlt : u < s.length
            · rw [List.getElem?_set_self hlt, List.getElem?_set_self (hl ▸ hlt)]
            · rw [List.getElem?_eq_none (by rw [List.length_set]; exact Nat.le_of_not_lt hlt), List.getElem?_eq_none (by rw [List.length_set, ← hl]; exact Nat.le_of_not_lt hlt)]
      | false =>
        cases b e.i <;> cases b' e.i <;> simp only [cond_true, cond_false, putS_get t ht] <;> exact h
theorem efB_agree {b b' : Nat → Bool} {k : Nat} : ∀ {l : List (Ef E)} {x x' : Tab E}, look x k = look x' k → (∀ e ∈ l, isU k e.u = true → b e.i = b' e.i) → look (efB b x l) k = look (efB b' x' l) k
  | [], _, _, h, _ => h
  | e :: l, x, x', h, hw => by
    unfold efB
    refine efB_agree ?_ (fun y hy => hw y (List.mem_cons_of_mem _ hy))
    cases ht : isU k e.u with
    | true =>
      rw [hw e List.mem_cons_self ht]
      cases b' e.i with
      | false => exact h
      | true => exact look_app_congr h
    | false => cases b e.i <;> cases b' e.i <;> simp only [cond_true, cond_false, upB_look ht] <;> exact h
theorem efS_append {b : Nat → Bool} : ∀ {l l' : List (Ef E)} {s : List SV}, efS b s (l ++ l') = efS b (efS b s l) l'
  | [], _, _ => rfl
  | e :: l, l', s => by simp only [List.cons_append, efS]; exact efS_append
theorem efB_append {b : Nat → Bool} : ∀ {l l' : List (Ef E)} {x : Tab E}, efB b x (l ++ l') = efB b (efB b x l) l'
  | [], _, _ => rfl
  | e :: l, l', x => by simp only [List.cons_append, efB]; exact efB_append
/-- None of the list's writers of a slot is chosen. -/
theorem efS_none {b : Nat → Bool} {t : Tmp} : ∀ {l : List (Ef E)} {s : List SV}, (∀ e ∈ l, isT t e.t = true → b e.i = false) → (efS b s l).getD t .na = s.getD t .na
  | [], _, _ => rfl
  | e :: l, s, h => by
    unfold efS
    rw [efS_none (fun x hx => h x (List.mem_cons_of_mem _ hx))]
    cases ht : isT t e.t with
    | true => rw [h e List.mem_cons_self ht]; rfl
    | false => cases b e.i <;> simp only [cond_true, cond_false, putS_get t ht]
theorem efB_none {b : Nat → Bool} {k : Nat} : ∀ {l : List (Ef E)} {x : Tab E}, (∀ e ∈ l, isU k e.u = true → b e.i = false) → look (efB b x l) k = look x k
  | [], _, _ => rfl
  | e :: l, x, h => by
    unfold efB
    rw [efB_none (fun y hy => h y (List.mem_cons_of_mem _ hy))]
    cases ht : isU k e.u with
    | true => rw [h e List.mem_cons_self ht]; rfl
    | false => cases b e.i <;> simp only [cond_true, cond_false, upB_look ht]
/-- The same turns, told by other choices, where the choices agree on whatever turns something. -/
theorem efB_same {b b' : Nat → Bool} : ∀ {l : List (Ef E)} {x : Tab E}, (∀ e ∈ l, e.u.isEmpty = false → b e.i = b' e.i) → efB b x l = efB b' x l
  | [], _, _ => rfl
  | e :: l, x, h => by
    unfold efB
    have h2 := fun y (hy : y ∈ l) => h y (List.mem_cons_of_mem _ hy)
    cases hu : e.u with
    | nil => simp only [List.nil_append, Bool.cond_self]; exact efB_same h2
    | cons p r =>
      have h1 := h e List.mem_cons_self (by rw [hu]; rfl)
      rw [h1]
      exact efB_same h2
theorem Mem.congr {S : Nat → Prop} {w0 w : World} {U : Nat → Prop} {μ : Nat → Value} {b b' : Tab E} (h : Mem S w0 U μ b w) (he : ∀ k, look b' k = look b k) : Mem S w0 U μ b' w where
  obj := fun k x hk => h.obj k x (by rw [← he k]; exact hk)
  sep := fun k k' x x' g hk hk' => h.sep k k' x x' g (by rw [← he k]; exact hk) (by rw [← he k']; exact hk')
  kept := h.kept
  dom := h.dom
/-- Is i's place against j told? -/
def ordB (B : List Nat) (i j : Nat) : Bool := bif Nat.blt j i then (B.getD i 0).testBit j else (B.getD j 0).testBit i
/-- Every writer of slot t but i itself is bound to i. -/
def slotOk (B : List Nat) (L : List (Ef E)) (i : Nat) (t : Tmp) : Bool := L.all fun e => Nat.beq e.i i || !isT t e.t || ordB B i e.i
def boxOk (B : List Nat) (L : List (Ef E)) (i : Nat) (k : Nat) : Bool := L.all fun e => Nat.beq e.i i || !isU k e.u || ordB B i e.i
/-- Whatever turns something is bound to i. -/
def allOk (B : List Nat) (L : List (Ef E)) (i : Nat) : Bool := L.all fun e => Nat.beq e.i i || !(!e.u.isEmpty) || ordB B i e.i
def opdOk (B : List Nat) (L : List (Ef E)) (i : Nat) : Operand → Bool
  | .tmp t => slotOk B L i t
  | _ => true
/-- Operation i, run in state s: it may come up wherever its edges let it. -/
def dRest (ops : Array Oper) (o : Oper) (s : List SV) (d : List (Dec E)) : List (Dec E) := match wantS ops o (gval s (gslot ops o)) d with
  | some (_, _, r) => r
  | none => d
def opOk (ct : Table E) (B : List Nat) (L : List (Ef E)) (n : Nat) (ops : Array Oper) (s : List SV) (o : Oper) (R : Res E) (i : Nat) (d : List (Dec E)) : Bool :=
  o.op.operands.toList.all (opdOk B L i) &&
  (match gslot ops o with | some t => slotOk B L i t | none => true) &&
  (match o.dst with | some t => slotOk B L i t && Nat.blt t n | none => true) &&
  (match readsOf ct (opd s) o d with | some ks => ks.all (boxOk B L i) | none => allOk B L i) &&
  R.u.all (fun e => boxOk B L i e.1)
/-- The keys that operation i may make. -/
def keyAt (W n i : Nat) : Nat := n + i * W
/-- The records of a region, in the text's order. -/
def efsOf (E : Env) (ct : Table E) (ops : Array Oper) (W n : Nat) : List Oper → Nat → St E → Option (List (Ef E) × St E)
  | [], _, σ => some ([], σ)
  | o :: l, i, σ => match stepE E ct ops o (keyAt W n i) (gval σ.s (gslot ops o)) (opd σ.s) (σ.u ++ σ.b) σ.d with
    | some R => bif Nat.ble R.n (keyAt W n i + W) then (match efsOf E ct ops W n l (i + 1) ⟨putS σ.s o.dst R.v, R.u ++ σ.u, σ.b, σ.c ++ R.c, R.d, σ.n⟩ with
      | some (L, τ) => some (⟨i, o.dst, R.v, R.u⟩ :: L, τ)
      | none => none) else none
    | none => none
def efsOk (E : Env) (ct : Table E) (ops : Array Oper) (W n : Nat) (B : List Nat) (L : List (Ef E)) (m : Nat) : List Oper → Nat → St E → Bool
  | [], _, _ => true
  | o :: l, i, σ => match stepE E ct ops o (keyAt W n i) (gval σ.s (gslot ops o)) (opd σ.s) (σ.u ++ σ.b) σ.d with
    | some R => opOk ct B L m ops σ.s o R i (dRest ops o σ.s σ.d) && efsOk E ct ops W n B L m l (i + 1) ⟨putS σ.s o.dst R.v, R.u ++ σ.u, σ.b, σ.c ++ R.c, R.d, σ.n⟩
    | none => false
def mkB (T : List (List Nat × List Nat)) : List Nat := T.foldl (fun B r => B ++ [r.1.foldl (fun x n => x ||| (1 <<< n) ||| B.getD n 0) 0]) []
/-- A drawn region whose operations each make so many keys at the most. -/
def drawnW (E : Env) (ct : Table E) (ops : Array Oper) (B : List Nat) (W : Nat) (σ : St E) : Option (St E) := match efsOf E ct ops W σ.n ops.toList 0 σ with
  | some (L, τ) => bif efsOk E ct ops W σ.n B L σ.s.length ops.toList 0 σ then some ⟨τ.s, τ.u, τ.b, τ.c, τ.d, keyAt W σ.n ops.size⟩ else none
  | none => none
def runDrawn (E : Env) (ct : Table E) (ops : Array Oper) (σ : St E) : Option (St E) :=
  match (rtab .any ops).2 with
  | T => match mkB T with
    | B => bif waitsOk T B && baseOk T (List.range ops.size) then
        match drawnW E ct ops B 0 σ with
        | some τ => some τ
        | none => match drawnW E ct ops B 1000 σ with
          | some τ => some τ
          | none => drawnW E ct ops B 1000000 σ
      else none
theorem drawn_width {ct : Table E} {ops : Array Oper} {σ τ : St E} (h : runDrawn E ct ops σ = some τ) : (waitsOk (rtab .any ops).2 (mkB (rtab .any ops).2) && baseOk (rtab .any ops).2 (List.range ops.size)) = true ∧ ∃ W, drawnW E ct ops (mkB (rtab .any ops).2) W σ = some τ := by
  unfold runDrawn at h
  simp only at h
  cases hw : (waitsOk (rtab .any ops).2 (mkB (rtab .any ops).2) && baseOk (rtab .any ops).2 (List.range ops.size)) with
  | false => simp [hw] at h
  | true =>
    simp only [hw, cond_true] at h
    refine ⟨rfl, ?_⟩
    split at h
    · rename_i t1 h1
      exact ⟨0, h1.trans h⟩
    · split at h
      · rename_i t2 h2
        exact ⟨1000, h2.trans h⟩
      · exact ⟨1000000, h⟩
theorem drawnW_some {ct : Table E} {ops : Array Oper} {B : List Nat} {W : Nat} {σ t : St E} (h : drawnW E ct ops B W σ = some t) : ∃ L τ, efsOf E ct ops W σ.n ops.toList 0 σ = some (L, τ) ∧ efsOk E ct ops W σ.n B L σ.s.length ops.toList 0 σ = true ∧ t = ⟨τ.s, τ.u, τ.b, τ.c, τ.d, keyAt W σ.n ops.size⟩ := by
  unfold drawnW at h
  split at h
  · rename_i L τ he
    cases hok : efsOk E ct ops W σ.n B L σ.s.length ops.toList 0 σ with
    | true =>
      simp only [hok, cond_true, Option.some.injEq] at h
      exact ⟨L, τ, he, hok, h.symm⟩
    | false => simp [hok] at h
  · cases h
variable {W : Nat}
theorem efB_zero : ∀ {l : List (Ef E)} {x : Tab E}, efB (fun _ => false) x l = x
  | [], _ => rfl
  | e :: l, x => by unfold efB; exact efB_zero
theorem efS_zero : ∀ {l : List (Ef E)} {s : List SV}, efS (fun _ => false) s l = s
  | [], _ => rfl
  | e :: l, s => by unfold efS; exact efS_zero
theorem efsOf_conds {ct : Table E} {ops : Array Oper} {n : Nat} : ∀ {l : List Oper} {i : Nat} {σ τ : St E} {L : List (Ef E)}, efsOf E ct ops W n l i σ = some (L, τ) → Conj τ.c → Conj σ.c
  | [], i, σ, τ, L, h, hc => by simp only [efsOf, Option.some.injEq, Prod.mk.injEq] at h; rw [h.2]; exact hc
  | o :: l, i, σ, τ, L, h, hc => by
    unfold efsOf at h
    split at h
    · rename_i R he
      cases hb : Nat.ble R.n (keyAt W n i + W) with
      | false => simp [hb] at h
      | true =>
        simp only [hb, cond_true] at h
        split at h
        · rename_i L' τ' h'
          simp only [Option.some.injEq, Prod.mk.injEq] at h
          obtain ⟨_, rfl⟩ := h
          exact (Conj.app (efsOf_conds h' hc)).1
        · cases h
    · cases h
structure Spot (E : Env) (ct : Table E) (ops : Array Oper) (W n : Nat) (B : List Nat) (L0 : List (Ef E)) (m : Nat) (L : List (Ef E)) (s0 : List SV) (b0 : Tab E) (o : Oper) (j : Nat) (R : Res E) (L1 L2 : List (Ef E)) (σ : St E) : Prop where
  st : stepE E ct ops o (keyAt W n j) (gval σ.s (gslot ops o)) (opd σ.s) (σ.u ++ σ.b) σ.d = some R
  ok : opOk ct B L0 m ops σ.s o R j (dRest ops o σ.s σ.d) = true
  nk : R.n ≤ keyAt W n j + W
  eq : L = L1 ++ ⟨j, o.dst, R.v, R.u⟩ :: L2
  s : σ.s = efS (fun _ => true) s0 L1
  b : σ.u ++ σ.b = efB (fun _ => true) b0 L1
  lo : ∀ e ∈ L1, e.i < j
  hi : ∀ e ∈ L2, j < e.i
  c : Conj R.c
theorem efs_bound {ct : Table E} {ops : Array Oper} {n : Nat} : ∀ {l : List Oper} {i : Nat} {σ τ : St E} {L : List (Ef E)}, efsOf E ct ops W n l i σ = some (L, τ) → (∀ e ∈ L, i ≤ e.i ∧ e.i < i + l.length) ∧ τ.s = efS (fun _ => true) σ.s L ∧ τ.u ++ τ.b = efB (fun _ => true) (σ.u ++ σ.b) L
  | [], i, σ, τ, L, h => by
    simp only [efsOf, Option.some.injEq, Prod.mk.injEq] at h
    obtain ⟨rfl, rfl⟩ := h
    exact ⟨fun e he => by (cases he), rfl, rfl⟩
  | o :: l, i, σ, τ, L, h => by
    unfold efsOf at h
    split at h
    · rename_i R he
      cases hb : Nat.ble R.n (keyAt W n i + W) with
      | false => simp [hb] at h
      | true =>
        simp only [hb, cond_true] at h
        split at h
        · rename_i L' τ' h'
          simp only [Option.some.injEq, Prod.mk.injEq] at h
          obtain ⟨rfl, rfl⟩ := h
          have h1 := efs_bound h'
          refine ⟨fun e he => ?_, h1.2.1, ?_⟩
          · rcases List.mem_cons.1 he with rfl | he
            · simp
            · have := h1.1 e he
              simp only [List.length_cons]
              omega
          · rw [h1.2.2]
            simp only [efB, cond_true, List.append_assoc]
        · cases h
    · cases h
theorem efs_spot {ct : Table E} {ops : Array Oper} {n : Nat} {B : List Nat} {L0 : List (Ef E)} {m : Nat} : ∀ {l : List Oper} {i : Nat} {σ τ : St E} {L : List (Ef E)}, efsOf E ct ops W n l i σ = some (L, τ) → efsOk E ct ops W n B L0 m l i σ = true → Conj τ.c →
    ∀ (k : Nat) (o : Oper), l[k]? = some o → ∃ R L1 L2 σj, Spot E ct ops W n B L0 m L σ.s (σ.u ++ σ.b) o (i + k) R L1 L2 σj
  | [], i, σ, τ, L, _, _, _, k, o, hk => by simp at hk
  | o' :: l, i, σ, τ, L, h, hok, hc, k, o, hk => by
    unfold efsOf at h
    unfold efsOk at hok
    split at h
    · rename_i R he
      rw [he] at hok
      simp only [Bool.and_eq_true] at hok
      cases hb : Nat.ble R.n (keyAt W n i + W) with
      | false => simp [hb] at h
      | true =>
        simp only [hb, cond_true] at h
        split at h
        · rename_i L' τ' h'
          simp only [Option.some.injEq, Prod.mk.injEq] at h
          obtain ⟨rfl, rfl⟩ := h
          cases k with
          | zero =>
            simp only [List.getElem?_cons_zero, Option.some.injEq] at hk
            subst hk
            refine ⟨R, [], L', σ, ⟨he, by simpa using hok.1, Nat.le_of_ble_eq_true hb, rfl, rfl, rfl, fun e he => by (cases he), fun e he' => ?_, (Conj.app (efsOf_conds h' hc)).2⟩⟩
            have := (efs_bound h').1 e he'
            omega
          | succ k =>
            simp only [List.getElem?_cons_succ] at hk
            obtain ⟨R', L1, L2, σj, hsp⟩ := efs_spot h' hok.2 hc k o hk
            have e1 : i + 1 + k = i + (k + 1) := by omega
            rw [e1] at hsp
            refine ⟨R', ⟨i, o'.dst, R.v, R.u⟩ :: L1, L2, σj, ⟨hsp.st, hsp.ok, hsp.nk, by rw [hsp.eq]; rfl, hsp.s, ?_, fun e he' => ?_, hsp.hi, hsp.c⟩⟩
            · rw [hsp.b]
              simp only [efB, cond_true, List.append_assoc]
            · rcases List.mem_cons.1 he' with rfl | he'
              · simp only; omega
              · exact hsp.lo e he'
        · cases h
    · cases h
section
variable {B : List Nat} {L L1 L2 : List (Ef E)} {i n : Nat} {b : Nat → Bool} {F : Ef E}
theorem spot_bits (hlo : ∀ e ∈ L1, e.i < i) (hhi : ∀ e ∈ L2, i < e.i) (hE : F.i = i) (hn : ∀ e ∈ L1 ++ F :: L2, e.i < n)
    (hon : ∀ j, ((List.range n).contains j && (B.getD i 0).testBit j) = true → b j = true) (hoff : ∀ d, ((List.range n).contains d && (B.getD d 0).testBit i) = true → b d = false)
    {p : Ef E → Bool} (hok : ((L1 ++ F :: L2).all fun e => Nat.beq e.i i || !p e || ordB B i e.i) = true) :
    (∀ e ∈ L1, p e = true → b e.i = true) ∧ (∀ e ∈ L2, p e = true → b e.i = false) := by
  rw [List.all_eq_true] at hok
  refine ⟨fun e he hp => ?_, fun e he hp => ?_⟩
  · have hm : e ∈ L1 ++ F :: L2 := by simp [he]
    have h1 := hok e hm
    have hlt := hlo e he
    have h2 : Nat.beq e.i i = false := nbeq_ne (by omega)
    have h3 : Nat.blt e.i i = true := by simp [Nat.blt]; omega
    simp only [h2, hp, Bool.not_true, Bool.or_false, Bool.false_or, ordB, h3, cond_true] at h1
    refine hon _ ?_
    rw [h1]
    simp [hn e hm]
  · have hm : e ∈ L1 ++ F :: L2 := by simp [he]
    have h1 := hok e hm
    have hlt := hhi e he
    have h2 : Nat.beq e.i i = false := nbeq_ne (by omega)
    have h3 : Nat.blt e.i i = false := by
      cases hb : Nat.blt e.i i with
      | false => rfl
      | true => simp [Nat.blt] at hb; omega
    simp only [h2, hp, Bool.not_true, Bool.or_false, Bool.false_or, ordB, h3, cond_false] at h1
    refine hoff _ ?_
    rw [h1]
    simp [hn e hm]
end
theorem putS_same {s : List SV} {t : Tmp} {v : SV} (h : t < s.length) : (putS s (some t) v).getD t .na = v := by
  simp [putS, List.getD_eq_getElem?_getD, h]
theorem ext_getD {s s' : List SV} (hl : s.length = s'.length) (h : ∀ t, t < s.length → s.getD t .na = s'.getD t .na) : s = s' := by
  refine List.ext_getElem hl (fun t h1 h2 => ?_)
  have := h t h1
  simpa [List.getD_eq_getElem?_getD, h1, h2] using this
/-- The keys in use, where the operations in b are done. -/
def usedK (W : Nat) (A : Nat → Prop) (n : Nat) (b : Nat → Bool) : Nat → Prop := fun k => A k ∨ ∃ i, b i = true ∧ keyAt W n i ≤ k ∧ k < keyAt W n i + W
theorem keyAt_apart {n i j k : Nat} (h1 : keyAt W n i ≤ k) (h2 : k < keyAt W n i + W) (h3 : keyAt W n j ≤ k) (h4 : k < keyAt W n j + W) : i = j := by
  unfold keyAt at *
  rcases Nat.lt_trichotomy i j with h | h | h
  · have := Nat.mul_le_mul_right W (Nat.succ_le_of_lt h)
    rw [Nat.succ_mul] at this
    omega
  · exact h
  · have := Nat.mul_le_mul_right W (Nat.succ_le_of_lt h)
    rw [Nat.succ_mul] at this
    omega
theorem spot_step {ct : Table E} {Q : Exit → Act → World → Prop} {S : Nat → Prop} {w0 : World} {ops : Array Oper} {B : List Nat} {L : List (Ef E)} {s0 : List SV} {b0 : Tab E} {o : Oper} {i n N : Nat} {A : Nat → Prop} {R : Res E} {L1 L2 : List (Ef E)} {σ : St E}
    (hct : TableOk E ct) (hsp : Spot E ct ops W N B L s0.length L s0 b0 o i R L1 L2 σ) (hn : ∀ e ∈ L, e.i < n) (hA : ∀ k, keyAt W N i ≤ k → k < keyAt W N i + W → ¬ A k) {b : Nat → Bool} {a : Act} {w : World} {μ : Nat → Value} (hd : a.defers = []) (hs : Slots (usedK W A N b) μ (efS b s0 L) a.tmps.toList) (hm : Mem S w0 (usedK W A N b) μ (efB b b0 L) w) (hbi : b i = false)
    (hon : ∀ j, ((List.range n).contains j && (B.getD i 0).testBit j) = true → b j = true) (hoff : ∀ d, ((List.range n).contains d && (B.getD d 0).testBit i) = true → b d = false)
    {K : Act → World → Prop} (hK : ∀ μ' a' w', (∀ k, A k → μ' k = μ k) → a'.defers = [] → Slots (usedK W A N (up b i)) μ' (efS (up b i) s0 L) a'.tmps.toList → Mem S w0 (usedK W A N (up b i)) μ' (efB (up b i) b0 L) w' → K a' w') :
    if Region.wanted o (yielded ops a.tmps) = true then Oper.wp E.P o a w K Q else K (a.put o.dst undef) w := by
  obtain ⟨hst, hok, hnk, heq, hσs, hσb, hlo, hhi, hRc⟩ := hsp
  simp only [opOk, Bool.and_eq_true] at hok
  obtain ⟨⟨⟨⟨ho1, ho2⟩, ho3⟩, ho4⟩, ho5⟩ := hok
  have hn' : ∀ e ∈ L1 ++ ⟨i, o.dst, R.v, R.u⟩ :: L2, e.i < n := by rw [← heq]; exact hn
  have bits : ∀ {p : Ef E → Bool}, (L.all fun e => Nat.beq e.i i || !p e || ordB B i e.i) = true → (∀ e ∈ L1, p e = true → b e.i = true) ∧ (∀ e ∈ L2, p e = true → b e.i = false) := by
    intro p hp
    rw [heq] at hp
    exact spot_bits hlo hhi rfl hn' hon hoff hp
  have slot : ∀ t, slotOk B L i t = true → (efS b s0 L).getD t .na = σ.s.getD t .na := by
    intro t ht
    have h1 := bits (p := fun e => isT t e.t) ht
    rw [heq, efS_append, hσs]
    rw [efS_none (l := ⟨i, o.dst, R.v, R.u⟩ :: L2) (fun e he ht' => ?_)]
    · exact efS_agree rfl rfl (fun e he ht' => h1.1 e he ht')
    · rcases List.mem_cons.1 he with rfl | he
      · exact hbi
      · exact h1.2 e he ht'
  have bx : ∀ k, boxOk B L i k = true → look (efB b b0 L) k = look (σ.u ++ σ.b) k := by
    intro k hk
    have h1 := bits (p := fun e => isU k e.u) hk
    rw [heq, efB_append, hσb]
    rw [efB_none (l := ⟨i, o.dst, R.v, R.u⟩ :: L2) (fun e he ht' => ?_)]
    · exact efB_agree rfl (fun e he ht' => h1.1 e he ht')
    · rcases List.mem_cons.1 he with rfl | he
      · exact hbi
      · exact h1.2 e he ht'
  have ball : allOk B L i = true → efB b b0 L = σ.u ++ σ.b := by
    intro hk
    have h1 := bits (p := fun e => !e.u.isEmpty) hk
    rw [heq, efB_append, hσb]
    have e1 : efB b b0 L1 = efB (fun _ => true) b0 L1 := efB_same (fun e he hu => h1.1 e he (by simp [hu]))
    have e2 : ∀ x, efB b x (⟨i, o.dst, R.v, R.u⟩ :: L2) = x := by
      intro x
      rw [show efB b x (⟨i, o.dst, R.v, R.u⟩ :: L2) = efB (fun _ => false) x (⟨i, o.dst, R.v, R.u⟩ :: L2) from efB_same (fun e he hu => ?_)]
      · exact efB_zero
      · rcases List.mem_cons.1 he with rfl | he
        · exact hbi
        · exact h1.2 e he (by simp [hu])
    rw [e2, e1]
  have hopd : ∀ x ∈ o.op.operands, opd σ.s x = opd (efS b s0 L) x := by
    intro x hx
    cases x with
    | tmp t =>
      have h1 := List.all_eq_true.1 ho1 (.tmp t) (by simpa using hx)
      exact (slot t h1).symm
    | const v => rfl
    | global g => rfl
    | func f => rfl
  have hg : gval σ.s (gslot ops o) = gval (efS b s0 L) (gslot ops o) := by
    cases hgs : gslot ops o with
    | none => rfl
    | some t =>
      rw [hgs] at ho2
      exact (slot t ho2).symm
  have hst' : stepE E ct ops o (keyAt W N i) (gval (efS b s0 L) (gslot ops o)) (opd (efS b s0 L)) (efB b b0 L) σ.d = some R := by
    rw [← hst]
    unfold stepE
    rw [hg]
    cases hws : wantS ops o (gval (efS b s0 L) (gslot ops o)) σ.d with
    | none => rfl
    | some p =>
      obtain ⟨t, c, r⟩ := p
      have hdr : dRest ops o σ.s σ.d = r := by unfold dRest; rw [hg, hws]
      rw [hdr] at ho4
      cases t with
      | false => rfl
      | true =>
        simp only
        rw [exec_congr (rd := opd σ.s) (rd' := opd (efS b s0 L)) (b := σ.u ++ σ.b) (b' := efB b b0 L) hopd hct.1 ?_]
        cases hro : readsOf ct (opd σ.s) o r with
        | none =>
          rw [hro] at ho4
          exact (ball ho4).symm
        | some ks =>
          rw [hro] at ho4
          exact fun k hk => (bx k (List.all_eq_true.1 ho4 k hk)).symm
  have hfree : Free (usedK W A N b) (keyAt W N i) R.n := by
    intro k h1 h2 h3
    rcases h3 with h3 | ⟨j, hj, h4, h5⟩
    · exact hA k h1 (by omega) h3
    · have := keyAt_apart h1 (by omega) h4 h5
      subst this
      rw [hbi] at hj
      cases hj
  have hup : ∀ k, Up (usedK W A N b) (keyAt W N i) R.n k → usedK W A N (up b i) k := by
    intro k hk
    rcases hk with (hk | ⟨j, hj, h4, h5⟩) | ⟨h1, h2⟩
    · exact .inl hk
    · refine .inr ⟨j, ?_, h4, h5⟩
      by_cases e : j = i
      · subst e; exact up_self _ _
      · rw [up_ne e]; exact hj
    · exact .inr ⟨i, up_self _ _, h1, by omega⟩
  refine stepE_sound hct hs hm hst' hfree hRc ?_
  intro μ' u w' hk hr hm'
  have hr' := rel_mono (μ' := μ') hup (fun _ _ => rfl) _ _ hr
  have hm'' := hm'.mono (μ' := μ') hup (fun _ _ => rfl)
  refine hK μ' _ _ (fun k hkn => hk k (.inl hkn)) ?_ ?_ ?_
  · cases hdst : o.dst <;> simp [Act.put, hd]
  · have hsl : Slots (usedK W A N (up b i)) μ' (efS b s0 L) a.tmps.toList := slots_mono (fun k hkk => hup k (.inl hkk)) hk _ _ hs
    have hfin : efS (up b i) s0 L = putS (efS b s0 L) o.dst R.v := by
      refine ext_getD (by rw [efS_length, putS_length, efS_length]) (fun t htl => ?_)
      rw [efS_length] at htl
      cases hto : isT t o.dst with
      | false =>
        rw [putS_get t hto]
        refine efS_agree rfl rfl (fun e he hte => ?_)
        refine up_ne (fun hei => ?_)
        rw [heq] at he
        rcases List.mem_append.1 he with h1 | h1
        · have := hlo e h1; omega
        · rcases List.mem_cons.1 h1 with h2 | h1
          · rw [h2] at hte
            simp only [hto] at hte
            cases hte
          · have := hhi e h1; omega
      | true =>
        have hdst : o.dst = some t := by
          cases hdst : o.dst with
          | none => rw [hdst] at hto; cases hto
          | some t' =>
            rw [hdst] at hto
            have : t' = t := by simpa [isT] using hto
            rw [this]
        rw [hdst] at ho3 ⊢
        simp only [Bool.and_eq_true] at ho3
        rw [putS_same (by rw [efS_length]; exact htl)]
        have h1 := bits (p := fun e => isT t e.t) ho3.1
        rw [heq, efS_append]
        unfold efS
        simp only [up_self, cond_true, hdst]
        rw [efS_none (fun e he hte => by rw [up_ne (by have := hhi e he; omega)]; exact h1.2 e he hte)]
        exact putS_same (by rw [efS_length]; exact htl)
    rw [hfin]
    exact put_slots hsl hr' o.dst
  · refine hm''.congr (fun k => ?_)
    cases hku : isU k R.u with
    | false =>
      rw [upB_look hku]
      refine efB_agree rfl (fun e he hte => ?_)
      refine up_ne (fun hei => ?_)
      rw [heq] at he
      rcases List.mem_append.1 he with h1 | h1
      · have := hlo e h1; omega
      · rcases List.mem_cons.1 h1 with h2 | h1
        · rw [h2] at hte
          simp only [hku] at hte
          cases hte
        · have := hhi e h1; omega
    | true =>
      have hbk : boxOk B L i k = true := by
        obtain ⟨e, he, hek⟩ := List.any_eq_true.1 hku
        have := List.all_eq_true.1 ho5 e he
        rwa [Nat.eq_of_beq_eq_true hek] at this
      have h1 := bits (p := fun e => isU k e.u) hbk
      obtain ⟨y, hy⟩ := isU_some hku
      rw [heq, efB_append]
      unfold efB
      simp only [up_self, cond_true]
      rw [efB_none (fun e he hte => by rw [up_ne (by have := hhi e he; omega)]; exact h1.2 e he hte)]
      rw [look_app, hy, look_app, hy]
theorem drawn_core {ct : Table E} {Q : Exit → Act → World → Prop} {S : Nat → Prop} {w0 : World} {C : Nat → Prop} {n0 : Nat} {ops : Array Oper} {B : List Nat} {L : List (Ef E)} (hct : TableOk E ct) (hmx : E.P.follows .mixedOrders = true) {σ τ : St E} {μ : Nat → Value} {a : Act} {w : World} {id : Nat} (hS : Sim S w0 C n0 μ σ a w) (hN : Free C n0 (keyAt W σ.n ops.size))
    (hw : (waitsOk (rtab .any ops).2 B && baseOk (rtab .any ops).2 (List.range ops.size)) = true) (he : efsOf E ct ops W σ.n ops.toList 0 σ = some (L, τ))
    (hok : efsOk E ct ops W σ.n B L σ.s.length ops.toList 0 σ = true) (hc : Conj τ.c)
    (hQ : ∀ μ' a' w', (∀ k, Up C n0 σ.n k → μ' k = μ k) → a'.defers = [] → Slots (Up C n0 (keyAt W σ.n ops.size)) μ' τ.s a'.tmps.toList → Mem S w0 (Up C n0 (keyAt W σ.n ops.size)) μ' (τ.u ++ τ.b) w' → Q .normal a' w') : (Code.region id ops true).wp E.P Q a w := by
  simp only [Bool.and_eq_true] at hw
  have hbd := efs_bound he
  have hlen : (rtab .any ops).2.length = ops.size := by simp [rtab]
  have hn : ∀ e ∈ L, e.i < ops.size := fun e hm => by have := (hbd.1 e hm).2; simpa using this
  refine start_ (S := fun _ => True) (ds := []) (Array.replicate ops.size false) hmx rfl rfl trivial (fun _ => ?_)
  refine inv_ (B := B) (List.range ops.size) (fun b a' w' => ∃ μ', (∀ k, Up C n0 σ.n k → μ' k = μ k) ∧ a'.defers = [] ∧ Slots (usedK W (Up C n0 σ.n) σ.n fun j => b j && Nat.blt j ops.size) μ' (efS b σ.s L) a'.tmps.toList ∧ Mem S w0 (usedK W (Up C n0 σ.n) σ.n fun j => b j && Nat.blt j ops.size) μ' (efB b (σ.u ++ σ.b) L) w') rfl hw.1 hw.2 ?_ ?_ ?_ ?_
  · simp only [Bool.and_eq_true, beq_iff_eq, List.length_range, and_true]
    rw [lof, hlen]
    simp only [Array.toList_replicate]
    refine List.ext_getElem (by simp) (fun j h1 h2 => ?_)
    simp only [List.length_map, List.length_range] at h1
    simp [h1]
  · refine ⟨μ, fun _ _ => rfl, hS.d, ?_, ?_⟩
    · rw [efS_zero]
      exact slots_mono (fun k hk => .inl hk) (fun _ _ => rfl) _ _ hS.s
    · rw [efB_zero]
      exact (hS.m.mono (fun k hk => .inl hk) (fun _ _ => rfl)).world ⟨rfl, rfl, rfl, Nat.le_refl _, fun _ _ _ => rfl⟩
  · intro i hi b a' w' ⟨μ', hμ, hd', hs', hm'⟩ hbi hon hoff
    have hi' : i < ops.size := by simpa using hi
    obtain ⟨R, L1, L2, σj, hsp⟩ := efs_spot (B := B) (L0 := L) (m := σ.s.length) he hok hc i ops[i] (by simp [hi'])
    simp only [Nat.zero_add] at hsp
    refine ⟨ops[i], by simp [hi'], fun K hK => ?_⟩
    have hagS : ∀ c : Nat → Bool, efS (fun j => c j && Nat.blt j ops.size) σ.s L = efS c σ.s L := by
      intro c
      refine ext_getD (by rw [efS_length, efS_length]) (fun t _ => efS_agree rfl rfl (fun e hm _ => ?_))
      have : Nat.blt e.i ops.size = true := by simp [Nat.blt]; exact hn e hm
      rw [this, Bool.and_true]
    have hagB : ∀ c : Nat → Bool, efB (fun j => c j && Nat.blt j ops.size) (σ.u ++ σ.b) L = efB c (σ.u ++ σ.b) L := by
      intro c
      refine efB_same (fun e hm _ => ?_)
      have : Nat.blt e.i ops.size = true := by simp [Nat.blt]; exact hn e hm
      rw [this, Bool.and_true]
    have hup : (up (fun j => b j && Nat.blt j ops.size) i) = fun j => up b i j && Nat.blt j ops.size := by
      funext j
      by_cases e : j = i
      · subst e
        have : Nat.blt j ops.size = true := by simp [Nat.blt]; exact hi'
        rw [up_self, up_self, this]
        rfl
      · rw [up_ne e, up_ne e]
    have hlt : ∀ j, (List.range ops.size).contains j = true → Nat.blt j ops.size = true := by
      intro j hj
      simp at hj
      simp [Nat.blt]
      exact hj
    have hle := hS.le
    have hfr : ∀ k, keyAt W σ.n i ≤ k → k < keyAt W σ.n i + W → ¬ Up C n0 σ.n k := by
      intro k h1 h2 h3
      unfold keyAt at h1 h2
      rcases h3 with h3 | h3
      · refine hN k (by omega) ?_ h3
        unfold keyAt
        have : (i + 1) * W ≤ ops.size * W := Nat.mul_le_mul_right _ hi'
        rw [Nat.succ_mul] at this
        omega
      · omega
    refine spot_step (b := fun j => b j && Nat.blt j ops.size) (S := S) (w0 := w0) (μ := μ') (A := Up C n0 σ.n) hct hsp hn hfr hd' (by rw [hagS]; exact hs') (by rw [hagB]; exact hm') (by show (b i && Nat.blt i ops.size) = false; rw [hbi]; rfl) (fun j hj => ?_) (fun d hd => ?_) (fun μ'' a'' w'' hμ'' hd'' hs'' hm'' => ?_)
    · have h1 := hon j hj
      simp only [Bool.and_eq_true] at hj
      show (b j && Nat.blt j ops.size) = true
      rw [h1, hlt j hj.1]
      rfl
    · have h1 := hoff d hd
      show (b d && Nat.blt d ops.size) = false
      rw [h1]
      rfl
    · refine hK a'' w'' ⟨μ'', fun k hk => (hμ'' k hk).trans (hμ k hk), hd'', ?_, ?_⟩
      · rw [hup, hagS] at hs''
        exact hs''
      · rw [hup, hagB] at hm''
        exact hm''
  · intro b a' w' hall ⟨μ', hμ, hd', hs', hm'⟩
    have hag : ∀ e ∈ L, b e.i = true := fun e hm => hall _ (by simp [hn e hm])
    have hle := hS.le
    have hU : ∀ k, usedK W (Up C n0 σ.n) σ.n (fun j => b j && Nat.blt j ops.size) k → Up C n0 (keyAt W σ.n ops.size) k := by
      intro k hk
      rcases hk with hk | ⟨i, hi, h1, h2⟩
      · exact up_mono (by unfold keyAt; omega) k hk
      · simp only [Bool.and_eq_true] at hi
        have hlt : i < ops.size := by
          have := hi.2
          simp [Nat.blt] at this
          omega
        refine .inr ?_
        unfold keyAt at *
        have : (i + 1) * W ≤ ops.size * W := Nat.mul_le_mul_right _ hlt
        rw [Nat.succ_mul] at this
        omega
    refine hQ μ' a' w' hμ hd' ?_ ?_
    · rw [hbd.2.1]
      have : efS (fun _ => true) σ.s L = efS b σ.s L := ext_getD (by rw [efS_length, efS_length]) (fun t _ => efS_agree rfl rfl (fun e hm _ => (hag e hm).symm))
      rw [this]
      exact slots_mono hU (fun _ _ => rfl) _ _ hs'
    · rw [hbd.2.2]
      exact (hm'.mono (μ' := μ') hU (fun _ _ => rfl)).congr (fun k => efB_agree rfl (fun e hm _ => (hag e hm).symm))
theorem drawn_sound {ct : Table E} {Q : Exit → Act → World → Prop} {S : Nat → Prop} {w0 : World} {C : Nat → Prop} {n0 : Nat} {ops : Array Oper} (hct : TableOk E ct) (hmx : E.P.follows .mixedOrders = true) {σ τ : St E} {μ : Nat → Value} {a : Act} {w : World} {id : Nat} (hS : Sim S w0 C n0 μ σ a w) (h : runDrawn E ct ops σ = some τ) (hN : Free C n0 τ.n) (hc : Conj τ.c)
    (hQ : ∀ μ' a' w', (∀ k, Up C n0 σ.n k → μ' k = μ k) → Sim S w0 C n0 μ' τ a' w' → Q .normal a' w') : (Code.region id ops true).wp E.P Q a w := by
  obtain ⟨hw, W, h⟩ := drawn_width h
  obtain ⟨L, τ', he, hok, rfl⟩ := drawnW_some h
  exact drawn_core hct hmx hS hN hw he hok hc (fun μ' a' w' h0 h1 h2 h3 => hQ μ' a' w' h0 ⟨h1, h2, h3, Nat.le_trans hS.le (Nat.le_add_right _ _)⟩)
theorem drawn_conds {ct : Table E} {ops : Array Oper} {σ τ : St E} (h : runDrawn E ct ops σ = some τ) : (Conj τ.c → Conj σ.c) ∧ σ.n ≤ τ.n := by
  obtain ⟨hw, W, h⟩ := drawn_width h
  obtain ⟨L, τ', he, hok, rfl⟩ := drawnW_some h
  exact ⟨fun hc => efsOf_conds he hc, Nat.le_add_right _ _⟩
end
end
end Go.Proofs.YtpfignfgfhbblaaGreatDoorSx
/- The symbolic machine of a function's body, its calls, its pieces: what it comes to, the program comes to. -/
set_option linter.unusedVariables false
set_option linter.unusedSimpArgs false
namespace Go.Proofs.YtpfignfgfhbblaaGreatDoorSx
open Go.RowKit Go.Proofs.YtpfignfgfhbblaaGreatDoorW.PrintLast Go.Proofs.YtpfignfgfhbblaaGreatDoorW.PrintWords
noncomputable section
/-! ### Scopes: jumps back, so many at the most -/
def scopeQ (P : Program) (c : Code) (Q : Exit → Act → World → Prop) : Nat → Exit → Act → World → Prop
  | 0 => Exit.noGoto Q
  | n + 1 => fun e a w => match e with
    | .goto l => match findLabel c l with
      | some rest => rest.wp P (scopeQ P c Q n) a w
      | none => False
    | e => Q e a w
theorem wp_scope_n {P : Program} {c : Code} {Q : Exit → Act → World → Prop} {a : Act} {w : World} (n : Nat) (h : c.wp P (scopeQ P c Q n) a w) : (Code.scope c).wp P Q a w := by
  intro b k cs
  have key : ∀ (n : Nat) (c' : Code) (a : Act) (w : World), c'.wp P (scopeQ P c Q n) a w → ∃ e a' w', Q e a' w' ∧ Arrives P (lone (b.at a (.code c' :: .inScope c :: k)) cs w) b k cs e a' w' := by
    intro n
    induction n with
    | zero =>
      intro c' a w h
      obtain ⟨e, a₁, w₁, hq, harr⟩ := h b (.inScope c :: k) cs
      cases e with
      | normal => exact ⟨.normal, a₁, w₁, hq, Steps.trans harr (.one step_inScope)⟩
      | exit id => exact ⟨.exit id, a₁, w₁, hq, fun k' hk => harr k' (by simp [exitTo, hk])⟩
      | goto l => exact hq.elim
      | ret => exact ⟨_, a₁, w₁, hq, harr⟩
      | panic ch => exact ⟨_, a₁, w₁, hq, harr⟩
      | outgrown => exact ⟨_, a₁, w₁, hq, harr⟩
    | succ n ih =>
      intro c' a w h
      obtain ⟨e, a₁, w₁, hq, harr⟩ := h b (.inScope c :: k) cs
      cases e with
      | normal => exact ⟨.normal, a₁, w₁, hq, Steps.trans harr (.one step_inScope)⟩
      | exit id => exact ⟨.exit id, a₁, w₁, hq, fun k' hk => harr k' (by simp [exitTo, hk])⟩
      | goto l =>
        simp only [scopeQ] at hq
        split at hq
        · rename_i rest hf
          obtain ⟨e₂, a₂, w₂, hq₂, harr₂⟩ := ih rest a₁ w₁ hq
          exact ⟨e₂, a₂, w₂, hq₂, .of_steps (harr _ (by simp [gotoIn, hf])) harr₂⟩
        · exact hq.elim
      | ret => exact ⟨_, a₁, w₁, hq, harr⟩
      | panic ch => exact ⟨_, a₁, w₁, hq, harr⟩
      | outgrown => exact ⟨_, a₁, w₁, hq, harr⟩
  obtain ⟨e, a', w', hq, harr⟩ := key n c a w h
  exact ⟨e, a', w', hq, .of_steps (.one step_scope) harr⟩

/-! ### A stack of what is still to come -/
inductive It where
  | code (c : Code)
  | blk (id : Nat)
  | rd (c : Code) (n : Nat)
  | sc (c : Code) (n : Nat)
  | mk
inductive Ex where
  | normal
  | exit (id : Nat)
  | goto (l : Nat)
  | ret
def Ex.out : Ex → Exit
  | .normal => .normal
  | .exit id => .exit id
  | .goto l => .goto l
  | .ret => .ret
/-- What is to hold where the stack's first item begins (or is left by an exit). -/
def kont (P : Program) (Q : Exit → Act → World → Prop) : List It → Exit → Act → World → Prop
  | [] => Q
  | .code c :: k => Exit.then (c.wp P (kont P Q k)) (kont P Q k)
  | .blk id :: k => Exit.inBlock id (kont P Q k)
  | .rd c n :: k => Exit.then (Code.rounds P c (kont P Q k) n) (kont P Q k)
  | .sc c n :: k => scopeQ P c (kont P Q k) n
  | .mk :: k => kont P Q k
structure Cfg (E : Env) where
  k : List It
  e : Ex
  σ : St E
/-- A condition: the script tells which way. -/
def condS {E : Env} (v : SV) (d : List (Dec E)) : Option (Bool × List Prop × List (Dec E)) := match v, d with
  | .v (.bool t), .t :: r => some (true, [t = true], r)
  | .v (.bool t), .f :: r => some (false, [t = false], r)
  | .v (.bool t), .l :: r => some (t, [], r)
  | .v (.bool t), [] => some (true, [t = true], [])
  | _, _ => none
inductive Mv (E : Env) where
  | stop
  | fail
  | go (c : Cfg E)
section
variable {E : Env}
def moveCode (E : Env) (ct : Table E) (k : List It) (σ : St E) : Code → Mv E
  | .skip => .go ⟨k, .normal, σ⟩
  | .label _ => .go ⟨k, .normal, σ⟩
  | .seq x y => .go ⟨.code x :: .code y :: k, .normal, σ⟩
  | .block id x => .go ⟨.code x :: .blk id :: k, .normal, σ⟩
  | .exit id => .go ⟨k, .exit id, σ⟩
  | .goto l => .go ⟨k, .goto l, σ⟩
  | .ret => .go ⟨k, .ret, σ⟩
  | .cond c x y => match condS (opd σ.s c) σ.d with
    | some (true, p, r) => .go ⟨.code x :: k, .normal, ⟨σ.s, σ.u, σ.b, σ.c ++ p, r, σ.n⟩⟩
    | some (false, p, r) => .go ⟨.code y :: k, .normal, ⟨σ.s, σ.u, σ.b, σ.c ++ p, r, σ.n⟩⟩
    | none => .fail
  | .region _ ops false => match runOps E ct ops ops.toList σ with
    | some τ => .go ⟨k, .normal, τ⟩
    | none => .fail
  | .region _ ops true => match runDrawn E ct ops σ with
    | some τ => .go ⟨k, .normal, τ⟩
    | none => .fail
  | .loop c => match σ.d with
    | .n m :: r => .go ⟨.rd c m :: k, .normal, ⟨σ.s, σ.u, σ.b, σ.c, r, σ.n⟩⟩
    | _ => .stop
  | .scope c => match σ.d with
    | .n m :: r => .go ⟨.code c :: .sc c m :: k, .normal, ⟨σ.s, σ.u, σ.b, σ.c, r, σ.n⟩⟩
    | _ => .stop
  | _ => .fail
def moveC (E : Env) (ct : Table E) : Cfg E → Mv E
  | ⟨[], _, _⟩ => .stop
  | ⟨.blk id :: k, .exit j, σ⟩ => bif Nat.beq j id then .go ⟨k, .normal, σ⟩ else .go ⟨k, .exit j, σ⟩
  | ⟨.blk _ :: k, .normal, σ⟩ => .go ⟨k, .normal, σ⟩
  | ⟨.blk _ :: k, .goto l, σ⟩ => .go ⟨k, .goto l, σ⟩
  | ⟨.blk _ :: k, .ret, σ⟩ => .go ⟨k, .ret, σ⟩
  | ⟨.rd c m :: k, .normal, σ⟩ => match σ.d with
    | .l :: r => match m with
      | m + 1 => .go ⟨.code c :: .rd c m :: k, .normal, ⟨σ.s, σ.u, σ.b, σ.c, r, σ.n⟩⟩
      | 0 => .fail
    | _ => .stop
  | ⟨.rd _ _ :: k, .exit j, σ⟩ => .go ⟨k, .exit j, σ⟩
  | ⟨.rd _ _ :: k, .goto l, σ⟩ => .go ⟨k, .goto l, σ⟩
  | ⟨.rd _ _ :: k, .ret, σ⟩ => .go ⟨k, .ret, σ⟩
  | ⟨.code _ :: k, .exit j, σ⟩ => .go ⟨k, .exit j, σ⟩
  | ⟨.code _ :: k, .goto l, σ⟩ => .go ⟨k, .goto l, σ⟩
  | ⟨.code _ :: k, .ret, σ⟩ => .go ⟨k, .ret, σ⟩
  | ⟨.code c :: k, .normal, σ⟩ => moveCode E ct k σ c
  | ⟨.sc _ m :: k, .normal, σ⟩ => match m with
    | 0 => .go ⟨k, .normal, σ⟩
    | _ + 1 => .go ⟨k, .normal, σ⟩
  | ⟨.sc _ m :: k, .exit j, σ⟩ => match m with
    | 0 => .go ⟨k, .exit j, σ⟩
    | _ + 1 => .go ⟨k, .exit j, σ⟩
  | ⟨.sc _ m :: k, .ret, σ⟩ => match m with
    | 0 => .go ⟨k, .ret, σ⟩
    | _ + 1 => .go ⟨k, .ret, σ⟩
  | ⟨.sc c m :: k, .goto l, σ⟩ => match m, findLabel c l with
    | m + 1, some rest => .go ⟨.mk :: .code rest :: .sc c m :: k, .normal, σ⟩
    | _, _ => .fail
  | ⟨.mk :: k, .normal, σ⟩ => match σ.d with
    | .l :: r => .go ⟨k, .normal, ⟨σ.s, σ.u, σ.b, σ.c, r, σ.n⟩⟩
    | _ => .stop
  | ⟨.mk :: _, _, _⟩ => .fail
def runC (E : Env) (ct : Table E) : Nat → Cfg E → Option (Cfg E)
  | 0, c => some c
  | n + 1, c => match moveC E ct c with
    | .stop => some c
    | .fail => none
    | .go c' => runC E ct n c'
theorem condS_sound {U : Nat → Prop} {μ : Nat → Value} {s : List SV} {a : Act} {c : Operand} {d r : List (Dec E)} {t : Bool} {p : List Prop} (hs : Slots U μ s a.tmps.toList) (h : condS (opd s c) d = some (t, p, r)) (hp : Conj p) : a.eval c = .bool t := by
  have hr := opd_rel hs c
  unfold condS at h
  split at h
  · rename_i u r' e
    rw [e] at hr
    simp only [Option.some.injEq, Prod.mk.injEq] at h
    obtain ⟨rfl, rfl, _⟩ := h
    have : u = true := hp
    subst this
    exact rel_v.1 hr
  · rename_i u r' e
    rw [e] at hr
    simp only [Option.some.injEq, Prod.mk.injEq] at h
    obtain ⟨rfl, rfl, _⟩ := h
    have : u = false := hp
    subst this
    exact rel_v.1 hr
  · rename_i u r' e
    rw [e] at hr
    simp only [Option.some.injEq, Prod.mk.injEq] at h
    obtain ⟨rfl, _, _⟩ := h
    exact rel_v.1 hr
  · rename_i u e
    rw [e] at hr
    simp only [Option.some.injEq, Prod.mk.injEq] at h
    obtain ⟨rfl, rfl, _⟩ := h
    have : u = true := hp
    subst this
    exact rel_v.1 hr
  · cases h
variable {ct : Table E} {Q : Exit → Act → World → Prop} {S : Nat → Prop} {w0 : World} {B : Nat → Prop} {n0 : Nat}
/-- A move's conditions and keys grow. -/
def Grows (σ τ : St E) : Prop := (Conj τ.c → Conj σ.c) ∧ σ.n ≤ τ.n
theorem Grows.refl (σ : St E) : Grows σ σ := ⟨id, Nat.le_refl _⟩
theorem moveCode_conds {k : List It} {σ : St E} {c : Code} {c' : Cfg E} (h : moveCode E ct k σ c = .go c') : Grows σ c'.σ := by
  cases c with
  | region id ops dr =>
    cases dr with
    | true =>
      simp only [moveCode] at h
      cases hr : runDrawn E ct ops σ with
      | none => simp [hr] at h
      | some τ =>
        simp only [hr, Mv.go.injEq] at h
        subst h
        exact drawn_conds hr
    | false =>
      simp only [moveCode] at h
      cases hr : runOps E ct ops ops.toList σ with
      | none => simp [hr] at h
      | some τ =>
        simp only [hr, Mv.go.injEq] at h
        subst h
        exact runOps_conds hr
  | cond x y z =>
    simp only [moveCode] at h
    split at h
    · simp only [Mv.go.injEq] at h
      subst h
      exact ⟨fun hc => (Conj.app hc).1, Nat.le_refl _⟩
    · simp only [Mv.go.injEq] at h
      subst h
      exact ⟨fun hc => (Conj.app hc).1, Nat.le_refl _⟩
    · cases h
  | skip => simp only [moveCode, Mv.go.injEq] at h; subst h; exact .refl _
  | label l => simp only [moveCode, Mv.go.injEq] at h; subst h; exact .refl _
  | seq x y => simp only [moveCode, Mv.go.injEq] at h; subst h; exact .refl _
  | block id x => simp only [moveCode, Mv.go.injEq] at h; subst h; exact .refl _
  | exit id => simp only [moveCode, Mv.go.injEq] at h; subst h; exact .refl _
  | goto l => simp only [moveCode, Mv.go.injEq] at h; subst h; exact .refl _
  | ret => simp only [moveCode, Mv.go.injEq] at h; subst h; exact .refl _
  | loop x =>
    simp only [moveCode] at h
    split at h
    · simp only [Mv.go.injEq] at h; subst h; exact ⟨id, Nat.le_refl _⟩
    · cases h
  | scope x =>
    simp only [moveCode] at h
    split at h
    · simp only [Mv.go.injEq] at h; subst h; exact ⟨id, Nat.le_refl _⟩
    · cases h
  | _ => simp [moveCode] at h
theorem move_conds {c c' : Cfg E} (h : moveC E ct c = .go c') : Grows c.σ c'.σ := by
  obtain ⟨k, e, σ⟩ := c
  cases k with
  | nil => simp [moveC] at h
  | cons x k =>
    cases x with
    | code c =>
      cases e with
      | normal => exact moveCode_conds h
      | exit j => simp only [moveC, Mv.go.injEq] at h; subst h; exact .refl _
      | goto j => simp only [moveC, Mv.go.injEq] at h; subst h; exact .refl _
      | ret => simp only [moveC, Mv.go.injEq] at h; subst h; exact .refl _
    | blk id =>
      cases e with
      | normal => simp only [moveC, Mv.go.injEq] at h; subst h; exact .refl _
      | exit j =>
        simp only [moveC] at h
        cases hj : Nat.beq j id <;> simp only [hj, cond_true, cond_false, Mv.go.injEq] at h <;> subst h <;> exact .refl _
      | goto j => simp only [moveC, Mv.go.injEq] at h; subst h; exact .refl _
      | ret => simp only [moveC, Mv.go.injEq] at h; subst h; exact .refl _
    | rd c n =>
      cases e with
      | normal =>
        simp only [moveC] at h
        split at h
        · split at h
          · simp only [Mv.go.injEq] at h; subst h; exact ⟨id, Nat.le_refl _⟩
          · cases h
        · cases h
      | exit j => simp only [moveC, Mv.go.injEq] at h; subst h; exact .refl _
      | goto j => simp only [moveC, Mv.go.injEq] at h; subst h; exact .refl _
      | ret => simp only [moveC, Mv.go.injEq] at h; subst h; exact .refl _
    | sc c n =>
      cases e with
      | goto l =>
        simp only [moveC] at h
        split at h
        · simp only [Mv.go.injEq] at h; subst h; exact .refl _
        · cases h
      | _ => cases n <;> simp only [moveC, Mv.go.injEq] at h <;> subst h <;> exact .refl _
    | mk =>
      cases e with
      | normal =>
        simp only [moveC] at h
        split at h
        · simp only [Mv.go.injEq] at h; subst h; exact ⟨id, Nat.le_refl _⟩
        · cases h
      | _ => simp [moveC] at h
theorem moveCode_sound (hct : TableOk E ct) (hmx : E.P.follows .mixedOrders = true) {k : List It} {σ : St E} {c : Code} {c' : Cfg E} {μ : Nat → Value} {a : Act} {w : World} (hS : Sim S w0 B n0 μ σ a w) (h : moveCode E ct k σ c = .go c') (hN : Free B n0 c'.σ.n) (hc : Conj c'.σ.c)
    (hQ : ∀ μ' a' w', (∀ k, Up B n0 σ.n k → μ' k = μ k) → Sim S w0 B n0 μ' c'.σ a' w' → kont E.P Q c'.k c'.e.out a' w') : c.wp E.P (kont E.P Q k) a w := by
  have same : ∀ k, Up B n0 σ.n k → μ k = μ k := fun _ _ => rfl
  cases c with
  | region id ops dr =>
    cases dr with
    | true =>
      simp only [moveCode] at h
      cases hr : runDrawn E ct ops σ with
      | none => simp [hr] at h
      | some τ =>
        simp only [hr, Mv.go.injEq] at h
        subst h
        exact drawn_sound hct hmx hS hr hN hc hQ
    | false =>
      simp only [moveCode] at h
      cases hr : runOps E ct ops ops.toList σ with
      | none => simp [hr] at h
      | some τ =>
        simp only [hr, Mv.go.injEq] at h
        subst h
        exact wp_region_list (runOps_sound hct hS hr hN hc hQ)
  | cond x y z =>
    simp only [moveCode] at h
    split at h
    · rename_i p r hcs
      simp only [Mv.go.injEq] at h
      subst h
      exact wp_cond_true (condS_sound hS.s hcs (Conj.app hc).2) (hQ μ a w same ⟨hS.d, hS.s, hS.m, hS.le⟩)
    · rename_i p r hcs
      simp only [Mv.go.injEq] at h
      subst h
      exact wp_cond_false (condS_sound hS.s hcs (Conj.app hc).2) (hQ μ a w same ⟨hS.d, hS.s, hS.m, hS.le⟩)
    · cases h
  | skip => simp only [moveCode, Mv.go.injEq] at h; subst h; exact wp_skip (hQ μ a w same hS)
  | label l => simp only [moveCode, Mv.go.injEq] at h; subst h; exact wp_label (hQ μ a w same hS)
  | seq x y => simp only [moveCode, Mv.go.injEq] at h; subst h; exact wp_seq (hQ μ a w same hS)
  | block id x => simp only [moveCode, Mv.go.injEq] at h; subst h; exact wp_block (hQ μ a w same hS)
  | exit id => simp only [moveCode, Mv.go.injEq] at h; subst h; exact wp_exit (hQ μ a w same hS)
  | goto l => simp only [moveCode, Mv.go.injEq] at h; subst h; exact wp_goto (hQ μ a w same hS)
  | ret => simp only [moveCode, Mv.go.injEq] at h; subst h; exact wp_ret (hQ μ a w same hS)
  | loop x =>
    simp only [moveCode] at h
    split at h
    · rename_i n r e
      simp only [Mv.go.injEq] at h
      subst h
      exact wp_loop_rounds n (hQ μ a w same ⟨hS.d, hS.s, hS.m, hS.le⟩)
    · cases h
  | scope x =>
    simp only [moveCode] at h
    split at h
    · rename_i n r e
      simp only [Mv.go.injEq] at h
      subst h
      exact wp_scope_n n (hQ μ a w same ⟨hS.d, hS.s, hS.m, hS.le⟩)
    · cases h
  | _ => simp [moveCode] at h
theorem move_sound (hct : TableOk E ct) (hmx : E.P.follows .mixedOrders = true) {c c' : Cfg E} {μ : Nat → Value} {a : Act} {w : World} (hS : Sim S w0 B n0 μ c.σ a w) (h : moveC E ct c = .go c') (hN : Free B n0 c'.σ.n) (hc : Conj c'.σ.c)
    (hQ : ∀ μ' a' w', (∀ k, Up B n0 c.σ.n k → μ' k = μ k) → Sim S w0 B n0 μ' c'.σ a' w' → kont E.P Q c'.k c'.e.out a' w') : kont E.P Q c.k c.e.out a w := by
  have same : ∀ k, Up B n0 c.σ.n k → μ k = μ k := fun _ _ => rfl
  obtain ⟨k, e, σ⟩ := c
  cases k with
  | nil => simp [moveC] at h
  | cons x k =>
    cases x with
    | code c =>
      cases e with
      | normal => exact moveCode_sound hct hmx hS h hN hc hQ
      | exit j => simp only [moveC, Mv.go.injEq] at h; subst h; exact hQ μ a w same hS
      | goto j => simp only [moveC, Mv.go.injEq] at h; subst h; exact hQ μ a w same hS
      | ret => simp only [moveC, Mv.go.injEq] at h; subst h; exact hQ μ a w same hS
    | blk id =>
      cases e with
      | normal => simp only [moveC, Mv.go.injEq] at h; subst h; exact hQ μ a w same hS
      | exit j =>
        simp only [moveC] at h
        cases hj : Nat.beq j id with
        | true =>
          simp only [hj, cond_true, Mv.go.injEq] at h
          subst h
          have : j = id := Nat.eq_of_beq_eq_true hj
          subst this
          have := hQ μ a w same hS
          simpa [kont, Ex.out, Exit.inBlock] using this
        | false =>
          simp only [hj, cond_false, Mv.go.injEq] at h
          subst h
          have hne : j ≠ id := fun e => by subst e; simp at hj
          have := hQ μ a w same hS
          simpa [kont, Ex.out, Exit.inBlock, hne] using this
      | goto j => simp only [moveC, Mv.go.injEq] at h; subst h; exact hQ μ a w same hS
      | ret => simp only [moveC, Mv.go.injEq] at h; subst h; exact hQ μ a w same hS
    | rd c n =>
      cases e with
      | normal =>
        simp only [moveC] at h
        split at h
        · split at h
          · simp only [Mv.go.injEq] at h
            subst h
            exact hQ μ a w same ⟨hS.d, hS.s, hS.m, hS.le⟩
          · cases h
        · cases h
      | exit j => simp only [moveC, Mv.go.injEq] at h; subst h; exact hQ μ a w same hS
      | goto j => simp only [moveC, Mv.go.injEq] at h; subst h; exact hQ μ a w same hS
      | ret => simp only [moveC, Mv.go.injEq] at h; subst h; exact hQ μ a w same hS
    | sc c n =>
      cases e with
      | goto l =>
        simp only [moveC] at h
        split at h
        · rename_i m rest hf
          simp only [Mv.go.injEq] at h
          subst h
          have h1 := hQ μ a w same hS
          show scopeQ E.P c (kont E.P Q k) (m + 1) (.goto l) a w
          simp only [scopeQ, hf]
          exact h1
        · cases h
      | normal => cases n <;> simp only [moveC, Mv.go.injEq] at h <;> subst h <;> exact hQ μ a w same hS
      | exit j => cases n <;> simp only [moveC, Mv.go.injEq] at h <;> subst h <;> exact hQ μ a w same hS
      | ret => cases n <;> simp only [moveC, Mv.go.injEq] at h <;> subst h <;> exact hQ μ a w same hS
    | mk =>
      cases e with
      | normal =>
        simp only [moveC] at h
        split at h
        · simp only [Mv.go.injEq] at h
          subst h
          exact hQ μ a w same ⟨hS.d, hS.s, hS.m, hS.le⟩
        · cases h
      | _ => simp [moveC] at h
theorem run_conds : ∀ {n : Nat} {x y : Cfg E}, runC E ct n x = some y → Grows x.σ y.σ
  | 0, x, y, h => by simp only [runC, Option.some.injEq] at h; subst h; exact .refl _
  | n + 1, x, y, h => by
    unfold runC at h
    cases hm : moveC E ct x with
    | stop => simp only [hm, Option.some.injEq] at h; subst h; exact .refl _
    | fail => simp [hm] at h
    | go c' =>
      simp only [hm] at h
      have h1 := move_conds hm
      have h2 := run_conds h
      exact ⟨fun hc => h1.1 (h2.1 hc), Nat.le_trans h1.2 h2.2⟩
/-- What the machine comes to, the program comes to. -/
theorem run_sound (hct : TableOk E ct) (hmx : E.P.follows .mixedOrders = true) : ∀ {n : Nat} {x y : Cfg E} {μ : Nat → Value} {a : Act} {w : World}, runC E ct n x = some y → Sim S w0 B n0 μ x.σ a w → Free B n0 y.σ.n → Conj y.σ.c →
    (∀ μ' a' w', (∀ k, Up B n0 x.σ.n k → μ' k = μ k) → Sim S w0 B n0 μ' y.σ a' w' → kont E.P Q y.k y.e.out a' w') → kont E.P Q x.k x.e.out a w
  | 0, x, y, μ, a, w, h, hS, hN, hc, hQ => by simp only [runC, Option.some.injEq] at h; subst h; exact hQ μ a w (fun _ _ => rfl) hS
  | n + 1, x, y, μ, a, w, h, hS, hN, hc, hQ => by
    unfold runC at h
    cases hm : moveC E ct x with
    | stop => simp only [hm, Option.some.injEq] at h; subst h; exact hQ μ a w (fun _ _ => rfl) hS
    | fail => simp [hm] at h
    | go c' =>
      simp only [hm] at h
      have hg := move_conds hm
      have hg2 := run_conds h
      refine move_sound hct hmx hS hm (fun k h1 h2 => hN k h1 (Nat.lt_of_lt_of_le h2 hg2.2)) (hg2.1 hc) (fun μ' a' w' hk hS' => run_sound hct hmx h hS' hN hc (fun μ'' a'' w'' hk' hS'' => ?_))
      exact hQ μ'' a'' w'' (fun k hkn => (hk' k (up_mono hg.2 k hkn)).trans (hk k hkn)) hS''
/-- Into a loop, round it; into a scope. -/
theorem loop_in {c : Code} {k : List It} {a : Act} {w : World} (n : Nat) (h : kont E.P Q (.rd c n :: k) .normal a w) : kont E.P Q (.code (.loop c) :: k) .normal a w := wp_loop_rounds n h
theorem loop_round {c : Code} {k : List It} {a : Act} {w : World} {n : Nat} (h : kont E.P Q (.code c :: .rd c n :: k) .normal a w) : kont E.P Q (.rd c (n + 1) :: k) .normal a w := h
theorem scope_in {c : Code} {k : List It} {a : Act} {w : World} (n : Nat) (h : kont E.P Q (.code c :: .sc c n :: k) .normal a w) : kont E.P Q (.code (.scope c) :: k) .normal a w := wp_scope_n n h

/-! ### Results -/
def resS (E : Env) (s : List SV) (b : Tab E) : ResultVar → Option SV
  | .tmp t => some (s.getD t .na)
  | .cell x t => match s.getD x .na with
    | .p k off => match look b k with
      | some (.box _ cs) => loadS E.P t cs off
      | _ => none
    | _ => none
def resAll (E : Env) (s : List SV) (b : Tab E) : List ResultVar → Option (List SV)
  | [] => some []
  | r :: l => match resS E s b r, resAll E s b l with
    | some u, some us => some (u :: us)
    | _, _ => none
def tupled (l : List SV) : SV := match l with
  | [v] => v
  | l => match allV l with
    | some vs => .v (.tuple vs.toArray)
    | none => .t l
def resultOf (E : Env) (fn : Func) (σ : St E) : Option SV := match resAll E σ.s (σ.u ++ σ.b) fn.results.toList with
  | some l => some (tupled l)
  | none => none
variable {w : World} {μ : Nat → Value} {σ : St E} {a : Act}
theorem resAll_run (hS : Sim S w0 B n0 μ σ a w) :
    ∀ {rs : List ResultVar} {vs : List SV}, resAll E σ.s (σ.u ++ σ.b) rs = some vs → ∃ us, Slots (Up B n0 σ.n) μ vs us ∧ ∀ (f : ResultVar → Sem Value) (hf : ∀ u, f (.tmp u) = pure (a.tmps.getD u undef)) (hcl : ∀ x t, f (.cell x t) = (do loadVar t (← asAddr (a.tmps.getD x undef)))), (rs.mapM f).run E.P w = .ok us w
  | [], vs, h => by simp only [resAll, Option.some.injEq] at h; subst h; exact ⟨[], slots_nil, fun f hf hcl => by simp⟩
  | r :: rs, vs, h => by
    simp only [resAll] at h
    cases h1 : resS E σ.s (σ.u ++ σ.b) r with
    | none => simp [h1] at h
    | some u =>
      cases h2 : resAll E σ.s (σ.u ++ σ.b) rs with
      | none => simp [h1, h2] at h
      | some us =>
        simp only [h1, h2, Option.some.injEq] at h
        subst h
        obtain ⟨vs', ih2, ih1⟩ := resAll_run hS h2
        cases r with
        | tmp t =>
          simp only [resS, Option.some.injEq] at h1
          have hr := opd_rel hS.s (.tmp t)
          simp only [opd] at hr
          rw [h1] at hr
          refine ⟨a.tmps.getD t undef :: vs', slots_cons.2 ⟨hr, ih2⟩, fun f hf hcl => ?_⟩
          have ih := ih1 f hf hcl
          rw [List.mapM_cons, hf]
          simp [ih]
        | cell x t =>
          simp only [resS] at h1
          have hr := opd_rel hS.s (.tmp x)
          simp only [opd] at hr
          split at h1
          · rename_i k off e
            rw [e] at hr
            split at h1
            · rename_i bt cs hb
              obtain ⟨g, us', g1, g2, g3, g4, g5⟩ := box_reads hS.m hb (.inl rfl)
              obtain ⟨uu, hu1, hu2⟩ := loadS_rel g3 h1
              unfold rel at hr
              obtain ⟨_, g', g1', hr⟩ := hr
              rw [g1] at g1'
              cases g1'
              have hld := run_loadVar (P := E.P) g5 hu1
              rw [Nat.zero_add] at hld
              refine ⟨uu :: vs', slots_cons.2 ⟨hu2, ih2⟩, fun f hf hcl => ?_⟩
              have ih := ih1 f hf hcl
              have hr' : a.tmps.getD x undef = .pointer (some ⟨g, off, none⟩) := hr
              rw [List.mapM_cons, hcl, hr']
              simp [asAddr, hld, ih]
            · cases h1
          · cases h1
def tupV : List Value → Value
  | [u] => u
  | us => .tuple us.toArray
theorem tupled_rel {U : Nat → Prop} {vs : List SV} {us : List Value} (h : Slots U μ vs us) : rel U μ (tupled vs) (tupV us) := by
  have gen : rel U μ (match allV vs with
    | some vs => SV.v (.tuple vs.toArray)
    | none => .t vs) (.tuple us.toArray) := by
    cases hv : allV vs with
    | some l => rw [allV_slots h hv]; exact rel_v.2 rfl
    | none => simp only; unfold rel; exact ⟨us, rfl, h⟩
  match vs, us, h, gen with
  | [], us, h, gen =>
    have e := h.nilr
    subst e
    exact gen
  | [v], us, h, gen =>
    obtain ⟨u, r, h1, h2, h3⟩ := h.consr
    rw [h3.nilr] at h1
    subst h1
    exact h2
  | v :: v' :: vs, us, h, gen =>
    obtain ⟨u, r, h1, h2, h3⟩ := h.consr
    obtain ⟨u', r', h1', h2', h3'⟩ := h3.consr
    subst h1'
    subst h1
    exact gen
theorem resultOf_run (hS : Sim S w0 B n0 μ σ a w) {fn : Func} {v : SV} (h : resultOf E fn σ = some v) : ∃ u, (results fn a.tmps).run E.P w = .ok u w ∧ rel (Up B n0 σ.n) μ v u := by
  unfold resultOf at h
  cases hr : resAll E σ.s (σ.u ++ σ.b) fn.results.toList with
  | none => simp [hr] at h
  | some l =>
    simp only [hr, Option.some.injEq] at h
    subst h
    obtain ⟨us, h2, h1⟩ := resAll_run hS hr
    refine ⟨tupV us, ?_, tupled_rel h2⟩
    unfold results
    have hmap : fn.results = fn.results.toList.toArray := by simp
    rw [hmap, List.mapM_toArray]
    simp only [Sem.run_bind, Sem.run_map]
    rw [h1 _ (fun u => rfl) (fun x t => rfl)]
    match us with
    | [] => simp [tupV]
    | [v] => simp [tupV]
    | x :: y :: l => simp [tupV]
end
end
end Go.Proofs.YtpfignfgfhbblaaGreatDoorSx
/- The symbolic machine's calls: a called function entered, or told by what it comes to; a state told anew by fewer keys; pieces of a body. -/
set_option linter.unusedVariables false
set_option linter.unusedSimpArgs false
namespace Go.Proofs.YtpfignfgfhbblaaGreatDoorSx
open Go.RowKit Go.Proofs.YtpfignfgfhbblaaGreatDoorW.PrintLast Go.Proofs.YtpfignfgfhbblaaGreatDoorW.PrintWords
noncomputable section
section
variable {E : Env}
/-! ### A state told anew: the keys in use, in order -/
mutual
def keysV : SV → List Nat
  | .p k _ => [k]
  | .sb k _ _ _ => [k]
  | .o k => [k]
  | .s k _ _ _ => [k]
  | .q k _ _ _ => [k]
  | .g cs => keysL cs
  | .t cs => keysL cs
  | .c k _ _ _ => [k]
  | .fn _ fs cs => keysL fs ++ keysL cs
  | .ni => []
  | .v _ => []
  | .na => []
def keysL : List SV → List Nat
  | [] => []
  | s :: ss => keysV s ++ keysL ss
end
def keysO : SObj E → List Nat
  | .box _ cs => keysL cs
  | .rob _ cs => keysL cs
  | _ => []
def addK (L : List Nat) (k : Nat) : List Nat := bif L.any (Nat.beq k) then L else L ++ [k]
def closeK (b : Tab E) : Nat → List Nat → List Nat
  | 0, L => L
  | n + 1, L => closeK b n ((L.flatMap fun k => match look b k with | some x => keysO x | none => []).foldl addK L)
def idxK : List Nat → Nat → Option Nat
  | [], _ => none
  | j :: L, k => bif Nat.beq j k then some 0 else match idxK L k with
    | some i => some (i + 1)
    | none => none
mutual
def renV (f : Nat → Option Nat) : SV → SV
  | .v x => .v x
  | .p k o => match f k with | some j => .p j o | none => .na
  | .sb k lo n c => match f k with | some j => .sb j lo n c | none => .na
  | .o k => match f k with | some j => .o j | none => .na
  | .s k sz lo n => match f k with | some j => .s j sz lo n | none => .na
  | .q k sz i fo => match f k with | some j => .q j sz i fo | none => .na
  | .g cs => .g (renL f cs)
  | .t cs => .t (renL f cs)
  | .c k sz lo n => match f k with | some j => .c j sz lo n | none => .na
  | .fn g fs cs => .fn g (renL f fs) (renL f cs)
  | .ni => .ni
  | .na => .na
def renL (f : Nat → Option Nat) : List SV → List SV
  | [] => []
  | s :: ss => renV f s :: renL f ss
end
def renO (f : Nat → Option Nat) : SObj E → SObj E
  | .box t cs => .box t (renL f cs)
  | .rob t cs => .rob t (renL f cs)
  | y => y
theorem renL_length (f : Nat → Option Nat) : ∀ cs, (renL f cs).length = cs.length
  | [] => rfl
  | s :: ss => by unfold renL; simp [renL_length f ss]
section
variable {U U' : Nat → Prop} {μ μ' : Nat → Value} {f : Nat → Option Nat}
mutual
theorem renV_rel (hf : ∀ k j, U k → f k = some j → U' j ∧ μ' j = μ k) : ∀ (s : SV) (u : Value), rel U μ s u → rel U' μ' (renV f s) u
  | .v x, u, h => by unfold renV; exact rel_v.2 (rel_v.1 h)
  | .p k o, u, h => by
    unfold renV
    cases hk : f k with
    | none => exact rel_x
    | some j =>
      unfold rel at h
      simp only
      unfold rel
      rw [(hf k j h.1 hk).2]
      exact ⟨(hf k j h.1 hk).1, h.2⟩
  | .sb k lo n c, u, h => by
    unfold renV
    cases hk : f k with
    | none => exact rel_x
    | some j =>
      unfold rel at h
      simp only
      unfold rel
      rw [(hf k j h.1 hk).2]
      exact ⟨(hf k j h.1 hk).1, h.2⟩
  | .o k, u, h => by
    unfold renV
    cases hk : f k with
    | none => exact rel_x
    | some j =>
      unfold rel at h
      simp only
      unfold rel
      rw [(hf k j h.1 hk).2]
      exact ⟨(hf k j h.1 hk).1, h.2⟩
  | .s k sz lo n, u, h => by
    unfold renV
    cases hk : f k with
    | none => exact rel_x
    | some j =>
      unfold rel at h
      simp only
      unfold rel
      rw [(hf k j h.1 hk).2]
      exact ⟨(hf k j h.1 hk).1, h.2⟩
  | .q k sz i fo, u, h => by
    unfold renV
    cases hk : f k with
    | none => exact rel_x
    | some j =>
      unfold rel at h
      simp only
      unfold rel
      rw [(hf k j h.1 hk).2]
      exact ⟨(hf k j h.1 hk).1, h.2⟩
  | .g cs, u, h => by
    unfold renV
    unfold rel at h ⊢
    obtain ⟨us, h1, h2⟩ := h
    exact ⟨us, h1, renL_slots hf cs us h2⟩
  | .t cs, u, h => by
    unfold renV
    unfold rel at h ⊢
    obtain ⟨us, h1, h2⟩ := h
    exact ⟨us, h1, renL_slots hf cs us h2⟩
  | .c k sz lo n, u, h => by
    unfold renV
    cases hk : f k with
    | none => exact rel_x
    | some j =>
      unfold rel at h
      simp only
      unfold rel
      rw [(hf k j h.1 hk).2]
      exact ⟨(hf k j h.1 hk).1, h.2⟩
  | .fn g fs cs, u, h => by
    unfold renV
    unfold rel at h ⊢
    obtain ⟨us, vs, h1, h2, h3⟩ := h
    exact ⟨us, vs, h1, renL_slots hf fs us h2, renL_slots hf cs vs h3⟩
  | .ni, u, h => by unfold renV; unfold rel at h ⊢; exact h
  | .na, u, h => by unfold renV; exact rel_x
theorem renL_slots (hf : ∀ k j, U k → f k = some j → U' j ∧ μ' j = μ k) : ∀ (ss : List SV) (us : List Value), Slots U μ ss us → Slots U' μ' (renL f ss) us
  | [], us, h => by unfold renL; rw [h.nilr]; exact slots_nil
  | s :: ss, us, h => by
    unfold renL
    obtain ⟨u, r, h1, h2, h3⟩ := h.consr
    rw [h1]
    exact slots_cons.2 ⟨renV_rel hf s u h2, renL_slots hf ss r h3⟩
end
end
def nodupB : List Nat → Bool
  | [] => true
  | k :: L => !L.any (Nat.beq k) && nodupB L
theorem idxK_get : ∀ {L : List Nat} {k i : Nat}, idxK L k = some i → L[i]? = some k
  | [], k, i, h => by simp [idxK] at h
  | j :: L, k, i, h => by
    unfold idxK at h
    cases hj : Nat.beq j k with
    | true =>
      simp only [hj, cond_true, Option.some.injEq] at h
      subst h
      have : j = k := Nat.eq_of_beq_eq_true hj
      simp [this]
    | false =>
      simp only [hj, cond_false] at h
      cases hi : idxK L k with
      | none => simp [hi] at h
      | some i' =>
        simp only [hi, Option.some.injEq] at h
        subst h
        simpa using idxK_get hi
theorem nodup_inj : ∀ {L : List Nat} {i j k : Nat}, nodupB L = true → L[i]? = some k → L[j]? = some k → i = j
  | [], i, j, k, h, hi, hj => by simp at hi
  | x :: L, i, j, k, h, hi, hj => by
    simp only [nodupB, Bool.and_eq_true, Bool.not_eq_true'] at h
    have hx : ∀ m : Nat, L[m]? = some x → False := by
      intro m hm
      have hmem : x ∈ L := List.mem_of_getElem? hm
      have := List.any_eq_false.1 h.1 x hmem
      simp at this
    cases i with
    | zero =>
      simp at hi
      subst hi
      cases j with
      | zero => rfl
      | succ j => simp at hj; exact (hx j (by simpa using hj)).elim
    | succ i =>
      cases j with
      | zero =>
        simp at hj
        subst hj
        simp at hi
        exact (hx i (by simpa using hi)).elim
      | succ j =>
        simp at hi hj
        have := nodup_inj (i := i) (j := j) (k := k) h.2 (by simpa using hi) (by simpa using hj)
        omega
def tabOf (b : Tab E) (f : Nat → Option Nat) : Nat → List Nat → Tab E
  | _, [] => []
  | i, k :: L => match look b k with
    | some .gone => tabOf b f (i + 1) L
    | some x => (i, renO f x) :: tabOf b f (i + 1) L
    | none => tabOf b f (i + 1) L
theorem tabOf_look (b : Tab E) (f : Nat → Option Nat) : ∀ (L : List Nat) (i j : Nat) (y : SObj E), look (tabOf b f i L) j = some y → i ≤ j ∧ ∃ k x, L[j - i]? = some k ∧ look b k = some x ∧ y = renO f x
  | [], i, j, y, h => by simp [tabOf, look] at h
  | k :: L, i, j, y, h => by
    have rest : look (tabOf b f (i + 1) L) j = some y → i ≤ j ∧ ∃ k' x, (k :: L)[j - i]? = some k' ∧ look b k' = some x ∧ y = renO f x := by
      intro h
      obtain ⟨h1, k', x, h2, h3, h4⟩ := tabOf_look b f L (i + 1) j y h
      refine ⟨by omega, k', x, ?_, h3, h4⟩
      have : j - i = (j - (i + 1)) + 1 := by omega
      rw [this]
      simpa using h2
    unfold tabOf at h
    split at h
    · exact rest h
    · rename_i x hk hx
      rw [look_cons] at h
      by_cases e : j = i
      · rw [if_pos e] at h
        cases h
        subst e
        exact ⟨Nat.le_refl _, k, x, by simp, hx, rfl⟩
      · rw [if_neg e] at h
        exact rest h
    · exact rest h
/-- The state by fewer keys: those below K0 stay. -/
def normOf (K0 : Nat) (s : List SV) (b : Tab E) : Option (List SV × Tab E × Nat) :=
  match closeK b 4 ((keysL s).foldl addK (List.range K0)) with
  | L => bif nodupB L && (List.range K0).all (fun i => match L[i]? with | some k => Nat.beq k i | none => false) then some (renL (idxK L) s, tabOf b (idxK L) 0 L, L.length) else none
theorem renO_owning (f : Nat → Option Nat) (x : SObj E) : owning (renO f x) = owning x := by cases x <;> rfl
theorem renO_holds {S : Nat → Prop} {w0 w : World} {U U' : Nat → Prop} {μ μ' : Nat → Value} {f : Nat → Option Nat} (hf : ∀ k j, U k → f k = some j → U' j ∧ μ' j = μ k) {k j : Nat} (hj : μ' j = μ k) {x : SObj E} (h : Holds S w0 U μ w k x) : Holds S w0 U' μ' w j (renO f x) := by
  cases x with
  | box t cs =>
    obtain ⟨g, us, h1, h2, h3, h4⟩ := h
    exact ⟨g, us, by rw [hj]; exact h1, h2, renL_slots hf _ _ h3, h4⟩
  | own e l => unfold Holds at h; unfold renO; unfold Holds; rw [hj]; exact h
  | ro e l nn => unfold Holds at h; unfold renO; unfold Holds; rw [hj]; exact h
  | rob t cs =>
    obtain ⟨g, us, h1, h2, h3, h4⟩ := h
    exact ⟨g, us, by rw [hj]; exact h1, h2, renL_slots hf _ _ h3, h4⟩
  | gone => trivial
theorem normOf_ok {S : Nat → Prop} {w0 w : World} {U : Nat → Prop} {μ : Nat → Value} {K0 n : Nat} {s s' : List SV} {b b' : Tab E} {us : List Value} (h : normOf K0 s b = some (s', b', n)) (hs : Slots U μ s us) (hm : Mem S w0 U μ b w) :
    ∃ μ', (∀ k, k < K0 → μ' k = μ k) ∧ Slots (fun k => k < n) μ' s' us ∧ Mem S w0 (fun k => k < n) μ' b' w ∧ K0 ≤ n := by
  unfold normOf at h
  simp only at h
  generalize closeK b 4 ((keysL s).foldl addK (List.range K0)) = L at h
  cases hc : (nodupB L && (List.range K0).all (fun i => match L[i]? with | some k => Nat.beq k i | none => false)) with
  | false => rw [hc] at h; cases h
  | true =>
    rw [hc] at h
    simp only [cond_true, Option.some.injEq, Prod.mk.injEq] at h
    obtain ⟨rfl, rfl, rfl⟩ := h
    simp only [Bool.and_eq_true] at hc
    have hK : ∀ k, k < K0 → L[k]? = some k := by
      intro k hk
      have := List.all_eq_true.1 hc.2 k (by simpa using hk)
      split at this
      · rename_i j hj
        rw [hj, Nat.eq_of_beq_eq_true this]
      · cases this
    have hf : ∀ k j, U k → idxK L k = some j → j < L.length ∧ (fun i => match L[i]? with | some k => μ k | none => undef) j = μ k := by
      intro k j _ hkj
      have := idxK_get hkj
      exact ⟨(List.getElem?_eq_some_iff.1 this).1, by simp only [this]⟩
    refine ⟨fun i => match L[i]? with | some k => μ k | none => undef, fun k hk => by simp only [hK k hk], renL_slots hf _ _ hs, ⟨fun j y hy => ?_, fun j j' y y' g hy hy' ho ho' hb hb' => ?_, hm.kept, hm.dom⟩, ?_⟩
    · obtain ⟨_, k, x, h1, h2, rfl⟩ := tabOf_look b _ L 0 j y hy
      rw [Nat.sub_zero] at h1
      exact ⟨(List.getElem?_eq_some_iff.1 h1).1, renO_holds hf (by simp only [h1]) (hm.obj k x h2).2⟩
    · obtain ⟨_, k, x, h1, h2, rfl⟩ := tabOf_look b _ L 0 j y hy
      obtain ⟨_, k', x', h1', h2', rfl⟩ := tabOf_look b _ L 0 j' y' hy'
      rw [Nat.sub_zero] at h1 h1'
      rw [renO_owning] at ho ho'
      simp only [h1] at hb
      simp only [h1'] at hb'
      have := hm.sep k k' x x' g h2 h2' ho ho' hb hb'
      subst this
      exact nodup_inj hc.1 h1 h1'
    · by_cases h0 : K0 = 0
      · omega
      · have := (List.getElem?_eq_some_iff.1 (hK (K0 - 1) (by omega))).1
        omega
/-! ### What a called function comes to -/
/-- Called in a world of which T speaks, the function comes to res, and T' speaks of the world behind it. -/
def Does (E : Env) (g : Nat) (T : Tab E) (n : Nat) (args : List SV) (res : SV) (T' : Tab E) (n' : Nat) : Prop := ∀ (S : Nat → Prop) (w : World) (μ : Nat → Value) (vs : List Value), Mem S w (fun k => k < n) μ T w → Slots (fun k => k < n) μ args vs →
  (∃ u, (callFunc g vs.toArray).run E.P w = .ok (.value u) w ∧ rel (fun k => k < n) μ res u ∧ T' = [] ∧ n' = n) ∨
  (callFunc g vs.toArray).run E.P w = .ok (.enter g vs.toArray) w ∧ Calls E.P g vs.toArray w fun e w' => ∃ u μ', e = .returned u ∧ (∀ k, k < n → μ' k = μ k) ∧ rel (fun k => k < n') μ' res u ∧ Mem S w (fun k => k < n') μ' T' w'
/-- The arguments of a call: each slice becomes a row to be read, told by what it holds. -/
structure Abs (E : Env) where
  a : List SV
  T : Tab E
  bk : List SV
  c : List Prop
def absArgs (E : Env) (b : Tab E) : List SV → List TypeId → Nat → Option (Abs E)
  | [], _, _ => some ⟨[], [], [], []⟩
  | s :: ss, t :: ts, j => match E.P.underlying t with
    | some (.slice e) => match viewOf b e s, absArgs E b ss ts (j + 1) with
      | some V, some A => some ⟨.o j :: A.a, (j, .ro V.e V.l false) :: A.T, s :: A.bk, V.c ++ A.c⟩
      | _, _ => none
    | _ => match s, absArgs E b ss ts j with
      | .v x, some A => some ⟨.v x :: A.a, A.T, A.bk, A.c⟩
      | _, _ => none
  | _, _, _ => none
/-- The keys of what a call makes. -/
def freshK (n key : Nat) (k : Nat) : Option Nat := bif Nat.ble n k then some (key + (k - n)) else none
def resMap (n key : Nat) (bk : List SV) : SV → SV
  | .o j => bif Nat.ble n j then .o (key + (j - n)) else bk.getD j .na
  | s => renV (freshK n key) s
def freshT (n key : Nat) : Tab E → Tab E
  | [] => []
  | (k, x) :: r => bif Nat.ble n k then (key + (k - n), (match x with | .ro _ _ _ => .gone | .rob _ _ => .gone | x => renO (freshK n key) x)) :: freshT n key r else freshT n key r
def resMap1 (n key : Nat) (bk : List SV) : SV → SV
  | .t cs => .t (cs.map (resMap n key bk))
  | s => resMap n key bk s
def contract (E : Env) (g : Nat) (args : List SV) (ats : List TypeId) (b : Tab E) (key : Nat) (res : SV) (T' : Tab E) (n' : Nat) (d : List (Dec E)) : Option (Res E) := match absArgs E b args ats 0 with
  | some A => match A.bk.length with
    | n => bif Nat.ble n n' then some ⟨resMap1 n key A.bk res, freshT n key T', key + (n' - n), A.c ++ [Does E g A.T n A.a res T' n'], d⟩ else none
  | none => none
theorem absArgs_congr {b b' : Tab E} : ∀ {l : List SV} {ats : List TypeId} {j : Nat}, (∀ k ∈ l.flatMap keyS, look b k = look b' k) → absArgs E b l ats j = absArgs E b' l ats j
  | [], ats, j, _ => by cases ats <;> rfl
  | s :: ss, [], j, _ => rfl
  | s :: ss, t :: ts, j, h => by
    have h1 : ∀ k ∈ keyS s, look b k = look b' k := fun k hk => h k (by simp [hk])
    have h2 : ∀ k ∈ ss.flatMap keyS, look b k = look b' k := fun k hk => h k (by
      rw [List.flatMap_cons]
      exact List.mem_append.2 (.inr hk))
    unfold absArgs
    rw [absArgs_congr (j := j) h2, absArgs_congr (j := j + 1) h2]
    split
    · rw [viewOf_congr h1]
    · rfl
theorem contract_congr {b b' : Tab E} {g : Nat} {l : List SV} {ats : List TypeId} {key : Nat} {res : SV} {T : Tab E} {n : Nat} {d : List (Dec E)} (h : ∀ k ∈ l.flatMap keyS, look b k = look b' k) :
    contract E g l ats b key res T n d = contract E g l ats b' key res T n d := by
  unfold contract
  rw [absArgs_congr h]
section
variable {S : Nat → Prop} {w0 w : World} {U : Nat → Prop} {μ : Nat → Value} {b : Tab E}
theorem abs_ok (hm : Mem S w0 U μ b w) : ∀ {args : List SV} {ats : List TypeId} {j : Nat} {A : Abs E} {vs : List Value}, absArgs E b args ats j = some A → Conj A.c → Slots U μ args vs →
    ∃ us : List Value, Slots U μ A.bk us ∧ ∀ (μc : Nat → Value) (N : Nat), j + A.bk.length ≤ N → (∀ i u, us[i]? = some u → μc (j + i) = u) →
      Slots (fun k => k < N) μc A.a vs ∧ (∀ k x, look A.T k = some x → j ≤ k ∧ k < N ∧ ∃ e l, x = .ro e l false ∧ Ro (fun g => g < w.heap.size) w (μc k) (E.fm e).sz l.length (cellsF (E.fm e) l) false)
  | [], ats, j, A, vs, h, hc, hs => by
    simp only [absArgs, Option.some.injEq] at h
    subst h
    rw [hs.nilr]
    exact ⟨[], slots_nil, fun μc N _ _ => ⟨slots_nil, fun k x h => by simp [look] at h⟩⟩
  | s :: ss, [], j, A, vs, h, hc, hs => by simp [absArgs] at h
  | s :: ss, t :: ts, j, A, vs, h, hc, hs => by
    obtain ⟨u, r, rfl, hs1, hs2⟩ := hs.consr
    unfold absArgs at h
    split at h
    · rename_i e ht
      split at h
      · rename_i V A' hv hA
        simp only [Option.some.injEq] at h
        subst h
        have h1 := Conj.app hc
        obtain ⟨us, hu1, hu2⟩ := abs_ok hm hA h1.2 hs2
        refine ⟨u :: us, slots_cons.2 ⟨hs1, hu1⟩, fun μc N hN hμ => ?_⟩
        simp only [List.length_cons] at hN
        obtain ⟨g1, g2⟩ := hu2 μc N (by omega) (fun i u' hi => by
          have := hμ (i + 1) u' (by simpa using hi)
          rw [← this]
          congr 1
          omega)
        have hμ0 := hμ 0 u rfl
        rw [Nat.add_zero] at hμ0
        have hview := view_reads hm hs1 hv h1.1
        refine ⟨slots_cons.2 ⟨?_, g1⟩, fun k x hk => ?_⟩
        · unfold rel
          refine ⟨by omega, hμ0.symm, ?_⟩
          rw [hμ0]
          rcases hview with ⟨r1, _⟩ | ⟨_, ad, cc, r1⟩ | ⟨g, o, cap, r1, _⟩ <;> exact ⟨_, _, _, r1⟩
        · rw [look_cons] at hk
          by_cases hkj : k = j
          · rw [if_pos hkj] at hk
            cases hk
            subst hkj
            refine ⟨Nat.le_refl _, by omega, V.e, V.l, rfl, ?_⟩
            rw [hμ0]
            refine ⟨by rw [cellsF_length], ?_⟩
            rcases hview with ⟨r1, r2⟩ | ⟨r2, ad, cc, r1⟩ | ⟨g, o, cap, r1, r2, r3, r4⟩
            · exact .inl ⟨r1, by rw [r2]; rfl, rfl⟩
            · exact .inr (.inl ⟨by rw [r2]; rfl, ad, cc, r1⟩)
            · exact .inr (.inr ⟨g, o, cap, r1, r2, r3, r4⟩)
          · rw [if_neg hkj] at hk
            obtain ⟨a1, a2, a3⟩ := g2 k x hk
            exact ⟨by omega, a2, a3⟩
      · cases h
    · split at h
      · rename_i x A' hA
        simp only [Option.some.injEq] at h
        subst h
        obtain ⟨us, hu1, hu2⟩ := abs_ok hm hA hc hs2
        refine ⟨us, hu1, fun μc N hN hμ => ?_⟩
        obtain ⟨g1, g2⟩ := hu2 μc N hN hμ
        exact ⟨slots_cons.2 ⟨rel_v.2 (rel_v.1 hs1), g1⟩, g2⟩
      · cases h
theorem map_slots {U U' : Nat → Prop} {μ μ' : Nat → Value} {m : SV → SV} (h : ∀ s u, rel U μ s u → rel U' μ' (m s) u) : ∀ {ss : List SV} {us : List Value}, Slots U μ ss us → Slots U' μ' (ss.map m) us
  | [], us, hs => by rw [hs.nilr]; exact slots_nil
  | s :: ss, us, hs => by
    obtain ⟨u, r, rfl, h1, h2⟩ := hs.consr
    exact slots_cons.2 ⟨h s u h1, map_slots h h2⟩
/-- Old values, and those that a call made. -/
def glueM (μ μc : Nat → Value) (key m N : Nat) : Nat → Value := fun k => if key ≤ k ∧ k < key + N then μc (m + (k - key)) else μ k
theorem glue_old {μ μc : Nat → Value} {key m N k : Nat} (h : ¬ (key ≤ k ∧ k < key + N)) : glueM μ μc key m N k = μ k := if_neg h
theorem glue_new {μ μc : Nat → Value} {key m N j : Nat} (h1 : m ≤ j) (h2 : j - m < N) : glueM μ μc key m N (key + (j - m)) = μc j := by
  unfold glueM
  rw [if_pos (by omega)]
  congr 1
  omega
theorem freshT_look (n key : Nat) : ∀ (T : Tab E) (k : Nat) (y : SObj E), look (freshT n key T) k = some y → ∃ j x, n ≤ j ∧ k = key + (j - n) ∧ look T j = some x ∧ y = (match x with | .ro _ _ _ => .gone | .rob _ _ => .gone | x => renO (freshK n key) x)
  | [], k, y, h => by simp [freshT, look] at h
  | (j, x) :: T, k, y, h => by
    unfold freshT at h
    have rest : look (freshT n key T) k = some y → (¬ (n ≤ j ∧ k = key + (j - n))) → ∃ j' x', n ≤ j' ∧ k = key + (j' - n) ∧ look ((j, x) :: T) j' = some x' ∧ y = (match x' with | .ro _ _ _ => .gone | .rob _ _ => .gone | x => renO (freshK n key) x) := by
      intro h hn
      obtain ⟨j', x', h1, h2, h3, h4⟩ := freshT_look n key T k y h
      refine ⟨j', x', h1, h2, ?_, h4⟩
      rw [look_cons]
      by_cases e : j' = j
      · subst e; exact (hn ⟨h1, h2⟩).elim
      · rw [if_neg e]; exact h3
    cases hb : Nat.ble n j with
    | true =>
      have hle := Nat.le_of_ble_eq_true hb
      simp only [hb, cond_true] at h
      rw [look_cons] at h
      by_cases e : k = key + (j - n)
      · rw [if_pos e] at h
        simp only [Option.some.injEq] at h
        exact ⟨j, x, hle, e, by rw [look_cons, if_pos rfl], h.symm⟩
      · rw [if_neg e] at h
        exact rest h (fun hh => e hh.2)
    | false =>
      simp only [hb, cond_false] at h
      refine rest h (fun hh => ?_)
      have := Nat.ble_eq_true_of_le hh.1
      rw [hb] at this
      cases this
theorem contract_ok {g : Nat} {args : List SV} {ats : List TypeId} {key n' : Nat} {res : SV} {T' : Tab E} {d : List (Dec E)} {R : Res E} (h : contract E g args ats b key res T' n' d = some R) (hc : Conj R.c) (hf : Free U key R.n) (hm : Mem S w0 U μ b w) {vs : List Value} (hs : Slots U μ args vs) :
    (∃ u μ', (callFunc g vs.toArray).run E.P w = .ok (.value u) w ∧ (∀ k, U k → μ' k = μ k) ∧ rel (Up U key R.n) μ' R.v u ∧ Mem S w0 (Up U key R.n) μ' (R.u ++ b) w) ∨
    (callFunc g vs.toArray).run E.P w = .ok (.enter g vs.toArray) w ∧ Calls E.P g vs.toArray w fun e w' => ∃ u μ', e = .returned u ∧ (∀ k, U k → μ' k = μ k) ∧ rel (Up U key R.n) μ' R.v u ∧ Mem S w0 (Up U key R.n) μ' (R.u ++ b) w' := by
  unfold contract at h
  split at h
  · rename_i A hA
    simp only at h
    cases hb : Nat.ble A.bk.length n' with
    | false => simp [hb] at h
    | true =>
      simp only [hb, cond_true, Option.some.injEq] at h
      subst h
      have hle := Nat.le_of_ble_eq_true hb
      have h1 := Conj.app hc
      have hdo : Does E g A.T A.bk.length A.a res T' n' := h1.2
      obtain ⟨us, hu1, hu2⟩ := abs_ok hm hA h1.1 hs
      have hlu := hu1.length
      obtain ⟨g1, g2⟩ := hu2 (fun i => us.getD i undef) A.bk.length (by omega) (fun i u hi => by simp [List.getD, hi])
      simp only at hf
      -- the objects that the called function sees
      have hMc : Mem (fun g => g < w.heap.size) w (fun k => k < A.bk.length) (fun i => us.getD i undef) A.T w := by
        refine ⟨fun k x hk => ?_, fun k k' x x' g hk hk' ho _ _ _ => ?_, Kept.refl _ _, fun g hg => hg, hm.dom.2.kept hm.dom.1 hm.kept⟩
        · obtain ⟨_, a2, e, l, rfl, a3⟩ := g2 k x hk
          exact ⟨a2, a3⟩
        · obtain ⟨_, _, e, l, rfl, _⟩ := g2 k x hk
          cases ho
      -- the values that come back
      have back : ∀ (μc : Nat → Value), (∀ k, k < A.bk.length → μc k = us.getD k undef) → ∀ (μ' : Nat → Value), (∀ k, U k → μ' k = μ k) → (∀ k, A.bk.length ≤ k → k < n' → μ' (key + (k - A.bk.length)) = μc k) →
          (∀ s u, rel (fun k => k < n') μc s u → rel (Up U key (key + (n' - A.bk.length))) μ' (resMap A.bk.length key A.bk s) u) := by
        intro μc hμc μ' hμ' hfr s u hr
        have gen : ∀ k j, k < n' → freshK A.bk.length key k = some j → Up U key (key + (n' - A.bk.length)) j ∧ μ' j = μc k := by
          intro k j hk hj
          unfold freshK at hj
          cases hn : Nat.ble A.bk.length k with
          | false => simp [hn] at hj
          | true =>
            simp only [hn, cond_true, Option.some.injEq] at hj
            have := Nat.le_of_ble_eq_true hn
            subst hj
            exact ⟨.inr ⟨by omega, by omega⟩, hfr k this hk⟩
        have plain := renV_rel gen s u hr
        cases s with
        | o j =>
          cases hn : Nat.ble A.bk.length j with
          | true =>
            simp only [resMap, hn, cond_true]
            unfold renV at plain
            have e1 : freshK A.bk.length key j = some (key + (j - A.bk.length)) := by unfold freshK; rw [hn]; rfl
            rw [e1] at plain
            exact plain
          | false =>
            simp only [resMap, hn, cond_false]
            have hj : j < A.bk.length := by
              by_cases hjl : j < A.bk.length
              · exact hjl
              · have := Nat.ble_eq_true_of_le (Nat.le_of_not_lt hjl)
                rw [hn] at this
                cases this
            unfold rel at hr
            obtain ⟨sv, hsv⟩ : ∃ sv, A.bk[j]? = some sv := ⟨A.bk[j], by simp [hj]⟩
            obtain ⟨uu, k1, k2⟩ := hu1.get j sv hsv
            have e2 : A.bk.getD j .na = sv := by simp [List.getD, hsv]
            have e3 : u = uu := by
              rw [hr.2.1, hμc j hj]
              simp [List.getD, k1]
            rw [e2, e3]
            exact rel_mono (fun k hk => .inl hk) hμ' _ _ k2
        | _ => exact plain
      have back1 : ∀ (μc : Nat → Value), (∀ k, k < A.bk.length → μc k = us.getD k undef) → ∀ (μ' : Nat → Value), (∀ k, U k → μ' k = μ k) → (∀ k, A.bk.length ≤ k → k < n' → μ' (key + (k - A.bk.length)) = μc k) →
          (∀ u, rel (fun k => k < n') μc res u → rel (Up U key (key + (n' - A.bk.length))) μ' (resMap1 A.bk.length key A.bk res) u) := by
        intro μc hμc μ' hμ' hfr u hr
        have hb1 := back μc hμc μ' hμ' hfr
        cases res with
        | t cs =>
          unfold resMap1
          unfold rel at hr ⊢
          obtain ⟨us', e1, e2⟩ := hr
          exact ⟨us', e1, map_slots hb1 e2⟩
        | _ => exact hb1 _ u hr
      rcases hdo _ w _ vs hMc g1 with ⟨u, r1, r2, r3, r4⟩ | ⟨r1, r2⟩
      · left
        refine ⟨u, μ, r1, fun _ _ => rfl, ?_, ?_⟩
        · have := back1 (fun i => us.getD i undef) (fun _ _ => rfl) μ (fun _ _ => rfl) (fun k h1 h2 => by omega) u (by rw [r4]; exact r2)
          exact this
        · rw [r3]
          simp only [freshT, List.nil_append]
          exact hm.mono (fun k hk => .inl hk) (fun _ _ => rfl)
      · right
        refine ⟨r1, r2.mono fun e w' hh => ?_⟩
        obtain ⟨u, μc, rfl, q1, q2, q3⟩ := hh
        have hgr : w.grownBy w' none := ⟨q3.kept.os, q3.kept.tape, q3.kept.output, q3.kept.size, fun k hk _ => q3.kept.block k hk⟩
        have hfresh : ∀ k, U k → ¬ (key ≤ k ∧ k < key + (n' - A.bk.length)) := fun k hk hh => hf k hh.1 hh.2 hk
        refine ⟨u, glueM μ μc key A.bk.length (n' - A.bk.length), rfl, fun k hk => glue_old (hfresh k hk), ?_, ?_⟩
        · exact back1 μc q1 _ (fun k hk => glue_old (hfresh k hk)) (fun k h1 h2 => glue_new h1 (by omega)) u q2
        · have gen : ∀ k j, k < n' → freshK A.bk.length key k = some j → Up U key (key + (n' - A.bk.length)) j ∧ (glueM μ μc key A.bk.length (n' - A.bk.length)) j = μc k := by
            intro k j hk hj
            unfold freshK at hj
            cases hn : Nat.ble A.bk.length k with
            | false => simp [hn] at hj
            | true =>
              simp only [hn, cond_true, Option.some.injEq] at hj
              have := Nat.le_of_ble_eq_true hn
              subst hj
              exact ⟨.inr ⟨by omega, by omega⟩, glue_new this (by omega)⟩
          have newO : ∀ k y, look (freshT A.bk.length key T') k = some y → ∃ j x, A.bk.length ≤ j ∧ j < n' ∧ k = key + (j - A.bk.length) ∧ look T' j = some x ∧ (y = .gone ∨ y = renO (freshK A.bk.length key) x ∧ owning y = owning x ∧ (∀ e l nn, x ≠ .ro e l nn) ∧ (∀ t cs, x ≠ .rob t cs)) := by
            intro k y hy
            obtain ⟨j, x, h1, h2, h3, h4⟩ := freshT_look _ _ T' k y hy
            refine ⟨j, x, h1, (q3.obj j x h3).1, h2, h3, ?_⟩
            cases x with
            | ro e l nn => left; exact h4
            | rob t cs => left; exact h4
            | box t cs => right; exact ⟨h4, by rw [h4, renO_owning], by intros; simp, by intros; simp⟩
            | own e l => right; exact ⟨h4, by rw [h4, renO_owning], by intros; simp, by intros; simp⟩
            | gone => left; exact h4
          have isS : ∀ g, S g → g < w.heap.size := fun g hg => Nat.lt_of_lt_of_le (hm.dom.1 g hg) hm.kept.size
          refine ⟨fun k y hy => ?_, fun k k' y y' g hy hy' ho ho' hbk hbk' => ?_, (hm.world hgr).kept, hm.dom⟩
          · rw [look_app] at hy
            cases hl : look (freshT A.bk.length key T') k with
            | some y' =>
              rw [hl] at hy
              cases hy
              obtain ⟨j, x, j1, j2, rfl, j3, j4⟩ := newO k y hl
              refine ⟨.inr ⟨by omega, (by show key + (j - A.bk.length) < key + (n' - A.bk.length); omega)⟩, ?_⟩
              rcases j4 with rfl | ⟨rfl, j5, j6, j7⟩
              · trivial
              · have hh := renO_holds (f := freshK A.bk.length key) gen (k := j) (j := key + (j - A.bk.length)) (gen j _ j2 (by unfold freshK; rw [Nat.ble_eq_true_of_le j1]; rfl)).2 (q3.obj j x j3).2
                cases x with
                | box t cs =>
                  obtain ⟨g, us', m1, m2, m3, m4⟩ := hh
                  exact ⟨g, us', m1, fun hS => m2 (isS g hS), m3, m4⟩
                | own e l => exact ⟨hh.1, fun g hg hS => hh.2 g hg (isS g hS)⟩
                | ro e l nn => exact (j6 e l nn rfl).elim
                | rob t cs => exact (j7 t cs rfl).elim
                | gone => trivial
            | none =>
              rw [hl] at hy
              have h0 := hm.obj k y hy
              refine ⟨.inl h0.1, ?_⟩
              exact ((h0.2.world hgr (fun _ => .inl rfl)).mono h0.1 (fun k hk => .inl hk) (fun k hk => glue_old (hfresh k hk)))
          · have blkNew : ∀ j x, look T' j = some x → owning x = true → A.bk.length ≤ j → j < n' → blk ((glueM μ μc key A.bk.length (n' - A.bk.length)) (key + (j - A.bk.length))) = some g → blk (μc j) = some g ∧ w.heap.size ≤ g := by
              intro j x hj hox h1 h2 hbb
              rw [(gen j _ h2 (by unfold freshK; rw [Nat.ble_eq_true_of_le h1]; rfl)).2] at hbb
              have := ((q3.obj j x hj).2.lt hox hbb).2
              exact ⟨hbb, by omega⟩
            rw [look_app] at hy hy'
            cases hl : look (freshT A.bk.length key T') k with
            | some z =>
              rw [hl] at hy
              cases hy
              obtain ⟨j, x, j1, j2, rfl, j3, j4⟩ := newO k y hl
              rcases j4 with rfl | ⟨rfl, j5, _, _⟩
              · cases ho
              · rw [j5] at ho
                have n1 := blkNew j x j3 ho j1 j2 hbk
                cases hl' : look (freshT A.bk.length key T') k' with
                | some z' =>
                  rw [hl'] at hy'
                  cases hy'
                  obtain ⟨j', x', j1', j2', rfl, j3', j4'⟩ := newO k' y' hl'
                  rcases j4' with rfl | ⟨rfl, j5', _, _⟩
                  · cases ho'
                  · rw [j5'] at ho'
                    have n2 := blkNew j' x' j3' ho' j1' j2' hbk'
                    have := q3.sep j j' x x' g j3 j3' ho ho' n1.1 n2.1
                    subst this
                    rfl
                | none =>
                  rw [hl'] at hy'
                  have h0 := hm.obj k' y' hy'
                  rw [glue_old (hfresh k' h0.1)] at hbk'
                  have := (h0.2.lt ho' hbk').1
                  omega
            | none =>
              rw [hl] at hy
              have h0 := hm.obj k y hy
              rw [glue_old (hfresh k h0.1)] at hbk
              cases hl' : look (freshT A.bk.length key T') k' with
              | some z' =>
                rw [hl'] at hy'
                cases hy'
                obtain ⟨j', x', j1', j2', rfl, j3', j4'⟩ := newO k' y' hl'
                rcases j4' with rfl | ⟨rfl, j5', _, _⟩
                · cases ho'
                · rw [j5'] at ho'
                  have n2 := blkNew j' x' j3' ho' j1' j2' hbk'
                  have := (h0.2.lt ho hbk).1
                  omega
              | none =>
                rw [hl'] at hy'
                have h0' := hm.obj k' y' hy'
                rw [glue_old (hfresh k' h0'.1)] at hbk'
                exact hm.sep k k' y y' g hy hy' ho ho' hbk hbk'
  · cases h
end
end
end
end Go.Proofs.YtpfignfgfhbblaaGreatDoorSx
