/- The symbolic machine's regions of any order: the text's order, and no two operations that are free of each other touch the same slot or object. -/
import Derived.Test.YtcneenlcbjicnaaDoorSxh
set_option linter.unusedVariables false
set_option linter.unusedSimpArgs false
namespace Go.Proofs.YtcneenlcbjicnaaDoorSx
open Go.RowKit Go.Proofs.YtcneenlcbjicnaaDoorW.PrintLast Go.Proofs.YtcneenlcbjicnaaDoorW.PrintWords
noncomputable section
structure Ef (E : Env) where
  i : Nat
  t : Option Tmp
  v : SV
  u : Tab E
section
variable {E : Env}
def efS (b : Nat → Bool) (s : List SV) : List (Ef E) → List SV
  | [] => s
  | e :: l => efS b (bif b e.i then putS s e.t e.v else s) l
def efB (b : Nat → Bool) (x : Tab E) : List (Ef E) → Tab E
  | [] => x
  | e :: l => efB b (bif b e.i then e.u ++ x else x) l
def isT (t : Tmp) : Option Tmp → Bool
  | some u => Nat.beq u t
  | none => false
def isU (k : Nat) (u : Tab E) : Bool := u.any fun e => Nat.beq e.1 k
theorem putS_get {s : List SV} {d : Option Tmp} {v : SV} (t : Tmp) (h : isT t d = false) : (putS s d v).getD t .na = s.getD t .na := by
  cases d with
  | none => rfl
  | some u =>
    have : u ≠ t := fun e => by subst e; simp [isT] at h
    simp [putS, List.getD_eq_getElem?_getD, List.getElem?_set_ne this]
theorem putS_length {s : List SV} {d : Option Tmp} {v : SV} : (putS s d v).length = s.length := by cases d <;> simp [putS]
theorem efS_length {b : Nat → Bool} : ∀ {l : List (Ef E)} {s : List SV}, (efS b s l).length = s.length
  | [], _ => rfl
  | e :: l, s => by
    unfold efS
    rw [efS_length]
    cases b e.i <;> simp [putS_length]
theorem isU_look {u : Tab E} {k : Nat} (h : isU k u = false) : look u k = none := by
  induction u with
  | nil => rfl
  | cons e u ih =>
    obtain ⟨j, x⟩ := e
    simp only [isU, List.any_cons, Bool.or_eq_false_iff] at h
    unfold look
    rw [h.1]
    exact ih h.2
theorem upB_look {x u : Tab E} {k : Nat} (h : isU k u = false) : look (u ++ x) k = look x k := by
  rw [look_app, isU_look h]
theorem look_app_congr {x x' u : Tab E} {k : Nat} (h : look x k = look x' k) : look (u ++ x) k = look (u ++ x') k := by
  rw [look_app, look_app, h]
theorem isU_some {u : Tab E} {k : Nat} (h : isU k u = true) : ∃ y, look u k = some y := by
  induction u with
  | nil => simp [isU] at h
  | cons e u ih =>
    obtain ⟨j, x⟩ := e
    unfold look
    cases hj : Nat.beq j k with
    | true => exact ⟨x, rfl⟩
    | false =>
      simp only [isU, List.any_cons, hj, Bool.false_or] at h
      exact ih h
/-- Two choices that agree on the writers of a slot leave the same there. -/
theorem efS_agree {b b' : Nat → Bool} {t : Tmp} : ∀ {l : List (Ef E)} {s s' : List SV}, s.length = s'.length → s.getD t .na = s'.getD t .na → (∀ e ∈ l, isT t e.t = true → b e.i = b' e.i) → (efS b s l).getD t .na = (efS b' s' l).getD t .na
  | [], _, _, _, h, _ => h
  | e :: l, s, s', hl, h, hw => by
    unfold efS
    refine efS_agree ?_ ?_ (fun x hx => hw x (List.mem_cons_of_mem _ hx))
    · cases b e.i <;> cases b' e.i <;> simp [putS_length, hl]
    · cases ht : isT t e.t with
      | true =>
        rw [hw e List.mem_cons_self ht]
        cases b' e.i with
        | false => exact h
        | true =>
          cases he : e.t with
          | none => simp [he, isT] at ht
          | some u =>
            have : u = t := by simp [he, isT] at ht; exact ht
            subst this
            simp only [cond_true, putS, List.getD_eq_getElem?_getD]
            by_cases hlt : u < s.length
            · rw [List.getElem?_set_self hlt, List.getElem?_set_self (hl ▸ hlt)]
            · rw [List.getElem?_eq_none (by rw [List.length_set]; exact Nat.le_of_not_lt hlt), List.getElem?_eq_none (by rw [List.length_set, ← hl]; exact Nat.le_of_not_lt hlt)]
      | false =>
        cases b e.i <;> cases b' e.i <;> simp only [cond_true, cond_false, putS_get t ht] <;> exact h
theorem efB_agree {b b' : Nat → Bool} {k : Nat} : ∀ {l : List (Ef E)} {x x' : Tab E}, look x k = look x' k → (∀ e ∈ l, isU k e.u = true → b e.i = b' e.i) → look (efB b x l) k = look (efB b' x' l) k
  | [], _, _, h, _ => h
  | e :: l, x, x', h, hw => by
    unfold efB
    refine efB_agree ?_ (fun y hy => hw y (List.mem_cons_of_mem _ hy))
    cases ht : isU k e.u with
    | true =>
      rw [hw e List.mem_cons_self ht]
      cases b' e.i with
      | false => exact h
      | true => exact look_app_congr h
    | false => cases b e.i <;> cases b' e.i <;> simp only [cond_true, cond_false, upB_look ht] <;> exact h
theorem efS_append {b : Nat → Bool} : ∀ {l l' : List (Ef E)} {s : List SV}, efS b s (l ++ l') = efS b (efS b s l) l'
  | [], _, _ => rfl
  | e :: l, l', s => by simp only [List.cons_append, efS]; exact efS_append
theorem efB_append {b : Nat → Bool} : ∀ {l l' : List (Ef E)} {x : Tab E}, efB b x (l ++ l') = efB b (efB b x l) l'
  | [], _, _ => rfl
  | e :: l, l', x => by simp only [List.cons_append, efB]; exact efB_append
/-- None of the list's writers of a slot is chosen. -/
theorem efS_none {b : Nat → Bool} {t : Tmp} : ∀ {l : List (Ef E)} {s : List SV}, (∀ e ∈ l, isT t e.t = true → b e.i = false) → (efS b s l).getD t .na = s.getD t .na
  | [], _, _ => rfl
  | e :: l, s, h => by
    unfold efS
    rw [efS_none (fun x hx => h x (List.mem_cons_of_mem _ hx))]
    cases ht : isT t e.t with
    | true => rw [h e List.mem_cons_self ht]; rfl
    | false => cases b e.i <;> simp only [cond_true, cond_false, putS_get t ht]
theorem efB_none {b : Nat → Bool} {k : Nat} : ∀ {l : List (Ef E)} {x : Tab E}, (∀ e ∈ l, isU k e.u = true → b e.i = false) → look (efB b x l) k = look x k
  | [], _, _ => rfl
  | e :: l, x, h => by
    unfold efB
    rw [efB_none (fun y hy => h y (List.mem_cons_of_mem _ hy))]
    cases ht : isU k e.u with
    | true => rw [h e List.mem_cons_self ht]; rfl
    | false => cases b e.i <;> simp only [cond_true, cond_false, upB_look ht]
/-- The same turns, told by other choices, where the choices agree on whatever turns something. -/
theorem efB_same {b b' : Nat → Bool} : ∀ {l : List (Ef E)} {x : Tab E}, (∀ e ∈ l, e.u.isEmpty = false → b e.i = b' e.i) → efB b x l = efB b' x l
  | [], _, _ => rfl
  | e :: l, x, h => by
    unfold efB
    have h2 := fun y (hy : y ∈ l) => h y (List.mem_cons_of_mem _ hy)
    cases hu : e.u with
    | nil => simp only [List.nil_append, Bool.cond_self]; exact efB_same h2
    | cons p r =>
      have h1 := h e List.mem_cons_self (by rw [hu]; rfl)
      rw [h1]
      exact efB_same h2
theorem Mem.congr {S : Nat → Prop} {w0 w : World} {U : Nat → Prop} {μ : Nat → Value} {b b' : Tab E} (h : Mem S w0 U μ b w) (he : ∀ k, look b' k = look b k) : Mem S w0 U μ b' w where
  obj := fun k x hk => h.obj k x (by rw [← he k]; exact hk)
  sep := fun k k' x x' g hk hk' => h.sep k k' x x' g (by rw [← he k]; exact hk) (by rw [← he k']; exact hk')
  kept := h.kept
  dom := h.dom
/-- Is i's place against j told? -/
def ordB (B : List Nat) (i j : Nat) : Bool := bif Nat.blt j i then (B.getD i 0).testBit j else (B.getD j 0).testBit i
/-- Every writer of slot t but i itself is bound to i. -/
def slotOk (B : List Nat) (L : List (Ef E)) (i : Nat) (t : Tmp) : Bool := L.all fun e => Nat.beq e.i i || !isT t e.t || ordB B i e.i
def boxOk (B : List Nat) (L : List (Ef E)) (i : Nat) (k : Nat) : Bool := L.all fun e => Nat.beq e.i i || !isU k e.u || ordB B i e.i
/-- Whatever turns something is bound to i. -/
def allOk (B : List Nat) (L : List (Ef E)) (i : Nat) : Bool := L.all fun e => Nat.beq e.i i || !(!e.u.isEmpty) || ordB B i e.i
def opdOk (B : List Nat) (L : List (Ef E)) (i : Nat) : Operand → Bool
  | .tmp t => slotOk B L i t
  | _ => true
/-- Operation i, run in state s: it may come up wherever its edges let it. -/
def dRest (ops : Array Oper) (o : Oper) (s : List SV) (d : List (Dec E)) : List (Dec E) := match wantS ops o (gval s (gslot ops o)) d with
  | some (_, _, r) => r
  | none => d
def opOk (ct : Table E) (B : List Nat) (L : List (Ef E)) (n : Nat) (ops : Array Oper) (s : List SV) (o : Oper) (R : Res E) (i : Nat) (d : List (Dec E)) : Bool :=
  o.op.operands.toList.all (opdOk B L i) &&
  (match gslot ops o with | some t => slotOk B L i t | none => true) &&
  (match o.dst with | some t => slotOk B L i t && Nat.blt t n | none => true) &&
  (match readsOf ct (opd s) o d with | some ks => ks.all (boxOk B L i) | none => allOk B L i) &&
  R.u.all (fun e => boxOk B L i e.1)
/-- The keys that operation i may make. -/
def keyAt (W n i : Nat) : Nat := n + i * W
/-- The records of a region, in the text's order. -/
def efsOf (E : Env) (ct : Table E) (ops : Array Oper) (W n : Nat) : List Oper → Nat → St E → Option (List (Ef E) × St E)
  | [], _, σ => some ([], σ)
  | o :: l, i, σ => match stepE E ct ops o (keyAt W n i) (gval σ.s (gslot ops o)) (opd σ.s) (σ.u ++ σ.b) σ.d with
    | some R => bif Nat.ble R.n (keyAt W n i + W) then (match efsOf E ct ops W n l (i + 1) ⟨putS σ.s o.dst R.v, R.u ++ σ.u, σ.b, σ.c ++ R.c, R.d, σ.n⟩ with
      | some (L, τ) => some (⟨i, o.dst, R.v, R.u⟩ :: L, τ)
      | none => none) else none
    | none => none
def efsOk (E : Env) (ct : Table E) (ops : Array Oper) (W n : Nat) (B : List Nat) (L : List (Ef E)) (m : Nat) : List Oper → Nat → St E → Bool
  | [], _, _ => true
  | o :: l, i, σ => match stepE E ct ops o (keyAt W n i) (gval σ.s (gslot ops o)) (opd σ.s) (σ.u ++ σ.b) σ.d with
    | some R => opOk ct B L m ops σ.s o R i (dRest ops o σ.s σ.d) && efsOk E ct ops W n B L m l (i + 1) ⟨putS σ.s o.dst R.v, R.u ++ σ.u, σ.b, σ.c ++ R.c, R.d, σ.n⟩
    | none => false
def mkB (T : List (List Nat × List Nat)) : List Nat := T.foldl (fun B r => B ++ [r.1.foldl (fun x n => x ||| (1 <<< n) ||| B.getD n 0) 0]) []
/-- A drawn region whose operations each make so many keys at the most. -/
def drawnW (E : Env) (ct : Table E) (ops : Array Oper) (B : List Nat) (W : Nat) (σ : St E) : Option (St E) := match efsOf E ct ops W σ.n ops.toList 0 σ with
  | some (L, τ) => bif efsOk E ct ops W σ.n B L σ.s.length ops.toList 0 σ then some ⟨τ.s, τ.u, τ.b, τ.c, τ.d, keyAt W σ.n ops.size⟩ else none
  | none => none
def runDrawn (E : Env) (ct : Table E) (ops : Array Oper) (σ : St E) : Option (St E) :=
  match (rtab .any ops).2 with
  | T => match mkB T with
    | B => bif waitsOk T B && baseOk T (List.range ops.size) then
        match drawnW E ct ops B 0 σ with
        | some τ => some τ
        | none => match drawnW E ct ops B 1000 σ with
          | some τ => some τ
          | none => drawnW E ct ops B 1000000 σ
      else none
theorem drawn_width {ct : Table E} {ops : Array Oper} {σ τ : St E} (h : runDrawn E ct ops σ = some τ) : (waitsOk (rtab .any ops).2 (mkB (rtab .any ops).2) && baseOk (rtab .any ops).2 (List.range ops.size)) = true ∧ ∃ W, drawnW E ct ops (mkB (rtab .any ops).2) W σ = some τ := by
  unfold runDrawn at h
  simp only at h
  cases hw : (waitsOk (rtab .any ops).2 (mkB (rtab .any ops).2) && baseOk (rtab .any ops).2 (List.range ops.size)) with
  | false => simp [hw] at h
  | true =>
    simp only [hw, cond_true] at h
    refine ⟨rfl, ?_⟩
    split at h
    · rename_i t1 h1
      exact ⟨0, h1.trans h⟩
    · split at h
      · rename_i t2 h2
        exact ⟨1000, h2.trans h⟩
      · exact ⟨1000000, h⟩
theorem drawnW_some {ct : Table E} {ops : Array Oper} {B : List Nat} {W : Nat} {σ t : St E} (h : drawnW E ct ops B W σ = some t) : ∃ L τ, efsOf E ct ops W σ.n ops.toList 0 σ = some (L, τ) ∧ efsOk E ct ops W σ.n B L σ.s.length ops.toList 0 σ = true ∧ t = ⟨τ.s, τ.u, τ.b, τ.c, τ.d, keyAt W σ.n ops.size⟩ := by
  unfold drawnW at h
  split at h
  · rename_i L τ he
    cases hok : efsOk E ct ops W σ.n B L σ.s.length ops.toList 0 σ with
    | true =>
      simp only [hok, cond_true, Option.some.injEq] at h
      exact ⟨L, τ, he, hok, h.symm⟩
    | false => simp [hok] at h
  · cases h
variable {W : Nat}
theorem efB_zero : ∀ {l : List (Ef E)} {x : Tab E}, efB (fun _ => false) x l = x
  | [], _ => rfl
  | e :: l, x => by unfold efB; exact efB_zero
theorem efS_zero : ∀ {l : List (Ef E)} {s : List SV}, efS (fun _ => false) s l = s
  | [], _ => rfl
  | e :: l, s => by unfold efS; exact efS_zero
theorem efsOf_conds {ct : Table E} {ops : Array Oper} {n : Nat} : ∀ {l : List Oper} {i : Nat} {σ τ : St E} {L : List (Ef E)}, efsOf E ct ops W n l i σ = some (L, τ) → Conj τ.c → Conj σ.c
  | [], i, σ, τ, L, h, hc => by simp only [efsOf, Option.some.injEq, Prod.mk.injEq] at h; rw [h.2]; exact hc
  | o :: l, i, σ, τ, L, h, hc => by
    unfold efsOf at h
    split at h
    · rename_i R he
      cases hb : Nat.ble R.n (keyAt W n i + W) with
      | false => simp [hb] at h
      | true =>
        simp only [hb, cond_true] at h
        split at h
        · rename_i L' τ' h'
          simp only [Option.some.injEq, Prod.mk.injEq] at h
          obtain ⟨_, rfl⟩ := h
          exact (Conj.app (efsOf_conds h' hc)).1
        · cases h
    · cases h
structure Spot (E : Env) (ct : Table E) (ops : Array Oper) (W n : Nat) (B : List Nat) (L0 : List (Ef E)) (m : Nat) (L : List (Ef E)) (s0 : List SV) (b0 : Tab E) (o : Oper) (j : Nat) (R : Res E) (L1 L2 : List (Ef E)) (σ : St E) : Prop where
  st : stepE E ct ops o (keyAt W n j) (gval σ.s (gslot ops o)) (opd σ.s) (σ.u ++ σ.b) σ.d = some R
  ok : opOk ct B L0 m ops σ.s o R j (dRest ops o σ.s σ.d) = true
  nk : R.n ≤ keyAt W n j + W
  eq : L = L1 ++ ⟨j, o.dst, R.v, R.u⟩ :: L2
  s : σ.s = efS (fun _ => true) s0 L1
  b : σ.u ++ σ.b = efB (fun _ => true) b0 L1
  lo : ∀ e ∈ L1, e.i < j
  hi : ∀ e ∈ L2, j < e.i
  c : Conj R.c
theorem efs_bound {ct : Table E} {ops : Array Oper} {n : Nat} : ∀ {l : List Oper} {i : Nat} {σ τ : St E} {L : List (Ef E)}, efsOf E ct ops W n l i σ = some (L, τ) → (∀ e ∈ L, i ≤ e.i ∧ e.i < i + l.length) ∧ τ.s = efS (fun _ => true) σ.s L ∧ τ.u ++ τ.b = efB (fun _ => true) (σ.u ++ σ.b) L
  | [], i, σ, τ, L, h => by
    simp only [efsOf, Option.some.injEq, Prod.mk.injEq] at h
    obtain ⟨rfl, rfl⟩ := h
    exact ⟨fun e he => by (cases he), rfl, rfl⟩
  | o :: l, i, σ, τ, L, h => by
    unfold efsOf at h
    split at h
    · rename_i R he
      cases hb : Nat.ble R.n (keyAt W n i + W) with
      | false => simp [hb] at h
      | true =>
        simp only [hb, cond_true] at h
        split at h
        · rename_i L' τ' h'
          simp only [Option.some.injEq, Prod.mk.injEq] at h
          obtain ⟨rfl, rfl⟩ := h
          have h1 := efs_bound h'
          refine ⟨fun e he => ?_, h1.2.1, ?_⟩
          · rcases List.mem_cons.1 he with rfl | he
            · simp
            · have := h1.1 e he
              simp only [List.length_cons]
              omega
          · rw [h1.2.2]
            simp only [efB, cond_true, List.append_assoc]
        · cases h
    · cases h
theorem efs_spot {ct : Table E} {ops : Array Oper} {n : Nat} {B : List Nat} {L0 : List (Ef E)} {m : Nat} : ∀ {l : List Oper} {i : Nat} {σ τ : St E} {L : List (Ef E)}, efsOf E ct ops W n l i σ = some (L, τ) → efsOk E ct ops W n B L0 m l i σ = true → Conj τ.c →
    ∀ (k : Nat) (o : Oper), l[k]? = some o → ∃ R L1 L2 σj, Spot E ct ops W n B L0 m L σ.s (σ.u ++ σ.b) o (i + k) R L1 L2 σj
  | [], i, σ, τ, L, _, _, _, k, o, hk => by simp at hk
  | o' :: l, i, σ, τ, L, h, hok, hc, k, o, hk => by
    unfold efsOf at h
    unfold efsOk at hok
    split at h
    · rename_i R he
      rw [he] at hok
      simp only [Bool.and_eq_true] at hok
      cases hb : Nat.ble R.n (keyAt W n i + W) with
      | false => simp [hb] at h
      | true =>
        simp only [hb, cond_true] at h
        split at h
        · rename_i L' τ' h'
          simp only [Option.some.injEq, Prod.mk.injEq] at h
          obtain ⟨rfl, rfl⟩ := h
          cases k with
          | zero =>
            simp only [List.getElem?_cons_zero, Option.some.injEq] at hk
            subst hk
            refine ⟨R, [], L', σ, ⟨he, by simpa using hok.1, Nat.le_of_ble_eq_true hb, rfl, rfl, rfl, fun e he => by (cases he), fun e he' => ?_, (Conj.app (efsOf_conds h' hc)).2⟩⟩
            have := (efs_bound h').1 e he'
            omega
          | succ k =>
            simp only [List.getElem?_cons_succ] at hk
            obtain ⟨R', L1, L2, σj, hsp⟩ := efs_spot h' hok.2 hc k o hk
            have e1 : i + 1 + k = i + (k + 1) := by omega
            rw [e1] at hsp
            refine ⟨R', ⟨i, o'.dst, R.v, R.u⟩ :: L1, L2, σj, ⟨hsp.st, hsp.ok, hsp.nk, by rw [hsp.eq]; rfl, hsp.s, ?_, fun e he' => ?_, hsp.hi, hsp.c⟩⟩
            · rw [hsp.b]
              simp only [efB, cond_true, List.append_assoc]
            · rcases List.mem_cons.1 he' with rfl | he'
              · simp only; omega
              · exact hsp.lo e he'
        · cases h
    · cases h
section
variable {B : List Nat} {L L1 L2 : List (Ef E)} {i n : Nat} {b : Nat → Bool} {F : Ef E}
theorem spot_bits (hlo : ∀ e ∈ L1, e.i < i) (hhi : ∀ e ∈ L2, i < e.i) (hE : F.i = i) (hn : ∀ e ∈ L1 ++ F :: L2, e.i < n)
    (hon : ∀ j, ((List.range n).contains j && (B.getD i 0).testBit j) = true → b j = true) (hoff : ∀ d, ((List.range n).contains d && (B.getD d 0).testBit i) = true → b d = false)
    {p : Ef E → Bool} (hok : ((L1 ++ F :: L2).all fun e => Nat.beq e.i i || !p e || ordB B i e.i) = true) :
    (∀ e ∈ L1, p e = true → b e.i = true) ∧ (∀ e ∈ L2, p e = true → b e.i = false) := by
  rw [List.all_eq_true] at hok
  refine ⟨fun e he hp => ?_, fun e he hp => ?_⟩
  · have hm : e ∈ L1 ++ F :: L2 := by simp [he]
    have h1 := hok e hm
    have hlt := hlo e he
    have h2 : Nat.beq e.i i = false := nbeq_ne (by omega)
    have h3 : Nat.blt e.i i = true := by simp [Nat.blt]; omega
    simp only [h2, hp, Bool.not_true, Bool.or_false, Bool.false_or, ordB, h3, cond_true] at h1
    refine hon _ ?_
    rw [h1]
    simp [hn e hm]
  · have hm : e ∈ L1 ++ F :: L2 := by simp [he]
    have h1 := hok e hm
    have hlt := hhi e he
    have h2 : Nat.beq e.i i = false := nbeq_ne (by omega)
    have h3 : Nat.blt e.i i = false := by
      cases hb : Nat.blt e.i i with
      | false => rfl
      | true => simp [Nat.blt] at hb; omega
    simp only [h2, hp, Bool.not_true, Bool.or_false, Bool.false_or, ordB, h3, cond_false] at h1
    refine hoff _ ?_
    rw [h1]
    simp [hn e hm]
end
theorem putS_same {s : List SV} {t : Tmp} {v : SV} (h : t < s.length) : (putS s (some t) v).getD t .na = v := by
  simp [putS, List.getD_eq_getElem?_getD, h]
theorem ext_getD {s s' : List SV} (hl : s.length = s'.length) (h : ∀ t, t < s.length → s.getD t .na = s'.getD t .na) : s = s' := by
  refine List.ext_getElem hl (fun t h1 h2 => ?_)
  have := h t h1
  simpa [List.getD_eq_getElem?_getD, h1, h2] using this
/-- The keys in use, where the operations in b are done. -/
def usedK (W : Nat) (A : Nat → Prop) (n : Nat) (b : Nat → Bool) : Nat → Prop := fun k => A k ∨ ∃ i, b i = true ∧ keyAt W n i ≤ k ∧ k < keyAt W n i + W
theorem keyAt_apart {n i j k : Nat} (h1 : keyAt W n i ≤ k) (h2 : k < keyAt W n i + W) (h3 : keyAt W n j ≤ k) (h4 : k < keyAt W n j + W) : i = j := by
  unfold keyAt at *
  rcases Nat.lt_trichotomy i j with h | h | h
  · have := Nat.mul_le_mul_right W (Nat.succ_le_of_lt h)
    rw [Nat.succ_mul] at this
    omega
  · exact h
  · have := Nat.mul_le_mul_right W (Nat.succ_le_of_lt h)
    rw [Nat.succ_mul] at this
    omega
theorem spot_step {ct : Table E} {Q : Exit → Act → World → Prop} {S : Nat → Prop} {w0 : World} {ops : Array Oper} {B : List Nat} {L : List (Ef E)} {s0 : List SV} {b0 : Tab E} {o : Oper} {i n N : Nat} {A : Nat → Prop} {R : Res E} {L1 L2 : List (Ef E)} {σ : St E}
    (hct : TableOk E ct) (hsp : Spot E ct ops W N B L s0.length L s0 b0 o i R L1 L2 σ) (hn : ∀ e ∈ L, e.i < n) (hA : ∀ k, keyAt W N i ≤ k → k < keyAt W N i + W → ¬ A k) {b : Nat → Bool} {a : Act} {w : World} {μ : Nat → Value} (hd : a.defers = []) (hs : Slots (usedK W A N b) μ (efS b s0 L) a.tmps.toList) (hm : Mem S w0 (usedK W A N b) μ (efB b b0 L) w) (hbi : b i = false)
    (hon : ∀ j, ((List.range n).contains j && (B.getD i 0).testBit j) = true → b j = true) (hoff : ∀ d, ((List.range n).contains d && (B.getD d 0).testBit i) = true → b d = false)
    {K : Act → World → Prop} (hK : ∀ μ' a' w', (∀ k, A k → μ' k = μ k) → a'.defers = [] → Slots (usedK W A N (up b i)) μ' (efS (up b i) s0 L) a'.tmps.toList → Mem S w0 (usedK W A N (up b i)) μ' (efB (up b i) b0 L) w' → K a' w') :
    if Region.wanted o (yielded ops a.tmps) = true then Oper.wp E.P o a w K Q else K (a.put o.dst undef) w := by
  obtain ⟨hst, hok, hnk, heq, hσs, hσb, hlo, hhi, hRc⟩ := hsp
  simp only [opOk, Bool.and_eq_true] at hok
  obtain ⟨⟨⟨⟨ho1, ho2⟩, ho3⟩, ho4⟩, ho5⟩ := hok
  have hn' : ∀ e ∈ L1 ++ ⟨i, o.dst, R.v, R.u⟩ :: L2, e.i < n := by rw [← heq]; exact hn
  have bits : ∀ {p : Ef E → Bool}, (L.all fun e => Nat.beq e.i i || !p e || ordB B i e.i) = true → (∀ e ∈ L1, p e = true → b e.i = true) ∧ (∀ e ∈ L2, p e = true → b e.i = false) := by
    intro p hp
    rw [heq] at hp
    exact spot_bits hlo hhi rfl hn' hon hoff hp
  have slot : ∀ t, slotOk B L i t = true → (efS b s0 L).getD t .na = σ.s.getD t .na := by
    intro t ht
    have h1 := bits (p := fun e => isT t e.t) ht
    rw [heq, efS_append, hσs]
    rw [efS_none (l := ⟨i, o.dst, R.v, R.u⟩ :: L2) (fun e he ht' => ?_)]
    · exact efS_agree rfl rfl (fun e he ht' => h1.1 e he ht')
    · rcases List.mem_cons.1 he with rfl | he
      · exact hbi
      · exact h1.2 e he ht'
  have bx : ∀ k, boxOk B L i k = true → look (efB b b0 L) k = look (σ.u ++ σ.b) k := by
    intro k hk
    have h1 := bits (p := fun e => isU k e.u) hk
    rw [heq, efB_append, hσb]
    rw [efB_none (l := ⟨i, o.dst, R.v, R.u⟩ :: L2) (fun e he ht' => ?_)]
    · exact efB_agree rfl (fun e he ht' => h1.1 e he ht')
    · rcases List.mem_cons.1 he with rfl | he
      · exact hbi
      · exact h1.2 e he ht'
  have ball : allOk B L i = true → efB b b0 L = σ.u ++ σ.b := by
    intro hk
    have h1 := bits (p := fun e => !e.u.isEmpty) hk
    rw [heq, efB_append, hσb]
    have e1 : efB b b0 L1 = efB (fun _ => true) b0 L1 := efB_same (fun e he hu => h1.1 e he (by simp [hu]))
    have e2 : ∀ x, efB b x (⟨i, o.dst, R.v, R.u⟩ :: L2) = x := by
      intro x
      rw [show efB b x (⟨i, o.dst, R.v, R.u⟩ :: L2) = efB (fun _ => false) x (⟨i, o.dst, R.v, R.u⟩ :: L2) from efB_same (fun e he hu => ?_)]
      · exact efB_zero
      · rcases List.mem_cons.1 he with rfl | he
        · exact hbi
        · exact h1.2 e he (by simp [hu])
    rw [e2, e1]
  have hopd : ∀ x ∈ o.op.operands, opd σ.s x = opd (efS b s0 L) x := by
    intro x hx
    cases x with
    | tmp t =>
      have h1 := List.all_eq_true.1 ho1 (.tmp t) (by simpa using hx)
      exact (slot t h1).symm
    | const v => rfl
    | global g => rfl
    | func f => rfl
  have hg : gval σ.s (gslot ops o) = gval (efS b s0 L) (gslot ops o) := by
    cases hgs : gslot ops o with
    | none => rfl
    | some t =>
      rw [hgs] at ho2
      exact (slot t ho2).symm
  have hst' : stepE E ct ops o (keyAt W N i) (gval (efS b s0 L) (gslot ops o)) (opd (efS b s0 L)) (efB b b0 L) σ.d = some R := by
    rw [← hst]
    unfold stepE
    rw [hg]
    cases hws : wantS ops o (gval (efS b s0 L) (gslot ops o)) σ.d with
    | none => rfl
    | some p =>
      obtain ⟨t, c, r⟩ := p
      have hdr : dRest ops o σ.s σ.d = r := by unfold dRest; rw [hg, hws]
      rw [hdr] at ho4
      cases t with
      | false => rfl
      | true =>
        simp only
        rw [exec_congr (rd := opd σ.s) (rd' := opd (efS b s0 L)) (b := σ.u ++ σ.b) (b' := efB b b0 L) hopd hct.1 ?_]
        cases hro : readsOf ct (opd σ.s) o r with
        | none =>
          rw [hro] at ho4
          exact (ball ho4).symm
        | some ks =>
          rw [hro] at ho4
          exact fun k hk => (bx k (List.all_eq_true.1 ho4 k hk)).symm
  have hfree : Free (usedK W A N b) (keyAt W N i) R.n := by
    intro k h1 h2 h3
    rcases h3 with h3 | ⟨j, hj, h4, h5⟩
    · exact hA k h1 (by omega) h3
    · have := keyAt_apart h1 (by omega) h4 h5
      subst this
      rw [hbi] at hj
      cases hj
  have hup : ∀ k, Up (usedK W A N b) (keyAt W N i) R.n k → usedK W A N (up b i) k := by
    intro k hk
    rcases hk with (hk | ⟨j, hj, h4, h5⟩) | ⟨h1, h2⟩
    · exact .inl hk
    · refine .inr ⟨j, ?_, h4, h5⟩
      by_cases e : j = i
      · subst e; exact up_self _ _
      · rw [up_ne e]; exact hj
    · exact .inr ⟨i, up_self _ _, h1, by omega⟩
  refine stepE_sound hct hs hm hst' hfree hRc ?_
  intro μ' u w' hk hr hm'
  have hr' := rel_mono (μ' := μ') hup (fun _ _ => rfl) _ _ hr
  have hm'' := hm'.mono (μ' := μ') hup (fun _ _ => rfl)
  refine hK μ' _ _ (fun k hkn => hk k (.inl hkn)) ?_ ?_ ?_
  · cases hdst : o.dst <;> simp [Act.put, hd]
  · have hsl : Slots (usedK W A N (up b i)) μ' (efS b s0 L) a.tmps.toList := slots_mono (fun k hkk => hup k (.inl hkk)) hk _ _ hs
    have hfin : efS (up b i) s0 L = putS (efS b s0 L) o.dst R.v := by
      refine ext_getD (by rw [efS_length, putS_length, efS_length]) (fun t htl => ?_)
      rw [efS_length] at htl
      cases hto : isT t o.dst with
      | false =>
        rw [putS_get t hto]
        refine efS_agree rfl rfl (fun e he hte => ?_)
        refine up_ne (fun hei => ?_)
        rw [heq] at he
        rcases List.mem_append.1 he with h1 | h1
        · have := hlo e h1; omega
        · rcases List.mem_cons.1 h1 with h2 | h1
          · rw [h2] at hte
            simp only [hto] at hte
            cases hte
          · have := hhi e h1; omega
      | true =>
        have hdst : o.dst = some t := by
          cases hdst : o.dst with
          | none => rw [hdst] at hto; cases hto
          | some t' =>
            rw [hdst] at hto
            have : t' = t := by simpa [isT] using hto
            rw [this]
        rw [hdst] at ho3 ⊢
        simp only [Bool.and_eq_true] at ho3
        rw [putS_same (by rw [efS_length]; exact htl)]
        have h1 := bits (p := fun e => isT t e.t) ho3.1
        rw [heq, efS_append]
        unfold efS
        simp only [up_self, cond_true, hdst]
        rw [efS_none (fun e he hte => by rw [up_ne (by have := hhi e he; omega)]; exact h1.2 e he hte)]
        exact putS_same (by rw [efS_length]; exact htl)
    rw [hfin]
    exact put_slots hsl hr' o.dst
  · refine hm''.congr (fun k => ?_)
    cases hku : isU k R.u with
    | false =>
      rw [upB_look hku]
      refine efB_agree rfl (fun e he hte => ?_)
      refine up_ne (fun hei => ?_)
      rw [heq] at he
      rcases List.mem_append.1 he with h1 | h1
      · have := hlo e h1; omega
      · rcases List.mem_cons.1 h1 with h2 | h1
        · rw [h2] at hte
          simp only [hku] at hte
          cases hte
        · have := hhi e h1; omega
    | true =>
      have hbk : boxOk B L i k = true := by
        obtain ⟨e, he, hek⟩ := List.any_eq_true.1 hku
        have := List.all_eq_true.1 ho5 e he
        rwa [Nat.eq_of_beq_eq_true hek] at this
      have h1 := bits (p := fun e => isU k e.u) hbk
      obtain ⟨y, hy⟩ := isU_some hku
      rw [heq, efB_append]
      unfold efB
      simp only [up_self, cond_true]
      rw [efB_none (fun e he hte => by rw [up_ne (by have := hhi e he; omega)]; exact h1.2 e he hte)]
      rw [look_app, hy, look_app, hy]
theorem drawn_core {ct : Table E} {Q : Exit → Act → World → Prop} {S : Nat → Prop} {w0 : World} {C : Nat → Prop} {n0 : Nat} {ops : Array Oper} {B : List Nat} {L : List (Ef E)} (hct : TableOk E ct) (hmx : E.P.follows .mixedOrders = true) {σ τ : St E} {μ : Nat → Value} {a : Act} {w : World} {id : Nat} (hS : Sim S w0 C n0 μ σ a w) (hN : Free C n0 (keyAt W σ.n ops.size))
    (hw : (waitsOk (rtab .any ops).2 B && baseOk (rtab .any ops).2 (List.range ops.size)) = true) (he : efsOf E ct ops W σ.n ops.toList 0 σ = some (L, τ))
    (hok : efsOk E ct ops W σ.n B L σ.s.length ops.toList 0 σ = true) (hc : Conj τ.c)
    (hQ : ∀ μ' a' w', (∀ k, Up C n0 σ.n k → μ' k = μ k) → a'.defers = [] → Slots (Up C n0 (keyAt W σ.n ops.size)) μ' τ.s a'.tmps.toList → Mem S w0 (Up C n0 (keyAt W σ.n ops.size)) μ' (τ.u ++ τ.b) w' → Q .normal a' w') : (Code.region id ops true).wp E.P Q a w := by
  simp only [Bool.and_eq_true] at hw
  have hbd := efs_bound he
  have hlen : (rtab .any ops).2.length = ops.size := by simp [rtab]
  have hn : ∀ e ∈ L, e.i < ops.size := fun e hm => by have := (hbd.1 e hm).2; simpa using this
  refine start_ (S := fun _ => True) (ds := []) (Array.replicate ops.size false) hmx rfl rfl trivial (fun _ => ?_)
  refine inv_ (B := B) (List.range ops.size) (fun b a' w' => ∃ μ', (∀ k, Up C n0 σ.n k → μ' k = μ k) ∧ a'.defers = [] ∧ Slots (usedK W (Up C n0 σ.n) σ.n fun j => b j && Nat.blt j ops.size) μ' (efS b σ.s L) a'.tmps.toList ∧ Mem S w0 (usedK W (Up C n0 σ.n) σ.n fun j => b j && Nat.blt j ops.size) μ' (efB b (σ.u ++ σ.b) L) w') rfl hw.1 hw.2 ?_ ?_ ?_ ?_
  · simp only [Bool.and_eq_true, beq_iff_eq, List.length_range, and_true]
    rw [lof, hlen]
    simp only [Array.toList_replicate]
    refine List.ext_getElem (by simp) (fun j h1 h2 => ?_)
    simp only [List.length_map, List.length_range] at h1
    simp [h1]
  · refine ⟨μ, fun _ _ => rfl, hS.d, ?_, ?_⟩
    · rw [efS_zero]
      exact slots_mono (fun k hk => .inl hk) (fun _ _ => rfl) _ _ hS.s
    · rw [efB_zero]
      exact (hS.m.mono (fun k hk => .inl hk) (fun _ _ => rfl)).world ⟨rfl, rfl, rfl, Nat.le_refl _, fun _ _ _ => rfl⟩
  · intro i hi b a' w' ⟨μ', hμ, hd', hs', hm'⟩ hbi hon hoff
    have hi' : i < ops.size := by simpa using hi
    obtain ⟨R, L1, L2, σj, hsp⟩ := efs_spot (B := B) (L0 := L) (m := σ.s.length) he hok hc i ops[i] (by simp [hi'])
    simp only [Nat.zero_add] at hsp
    refine ⟨ops[i], by simp [hi'], fun K hK => ?_⟩
    have hagS : ∀ c : Nat → Bool, efS (fun j => c j && Nat.blt j ops.size) σ.s L = efS c σ.s L := by
      intro c
      refine ext_getD (by rw [efS_length, efS_length]) (fun t _ => efS_agree rfl rfl (fun e hm _ => ?_))
      have : Nat.blt e.i ops.size = true := by simp [Nat.blt]; exact hn e hm
      rw [this, Bool.and_true]
    have hagB : ∀ c : Nat → Bool, efB (fun j => c j && Nat.blt j ops.size) (σ.u ++ σ.b) L = efB c (σ.u ++ σ.b) L := by
      intro c
      refine efB_same (fun e hm _ => ?_)
      have : Nat.blt e.i ops.size = true := by simp [Nat.blt]; exact hn e hm
      rw [this, Bool.and_true]
    have hup : (up (fun j => b j && Nat.blt j ops.size) i) = fun j => up b i j && Nat.blt j ops.size := by
      funext j
      by_cases e : j = i
      · subst e
        have : Nat.blt j ops.size = true := by simp [Nat.blt]; exact hi'
        rw [up_self, up_self, this]
        rfl
      · rw [up_ne e, up_ne e]
    have hlt : ∀ j, (List.range ops.size).contains j = true → Nat.blt j ops.size = true := by
      intro j hj
      simp at hj
      simp [Nat.blt]
      exact hj
    have hle := hS.le
    have hfr : ∀ k, keyAt W σ.n i ≤ k → k < keyAt W σ.n i + W → ¬ Up C n0 σ.n k := by
      intro k h1 h2 h3
      unfold keyAt at h1 h2
      rcases h3 with h3 | h3
      · refine hN k (by omega) ?_ h3
        unfold keyAt
        have : (i + 1) * W ≤ ops.size * W := Nat.mul_le_mul_right _ hi'
        rw [Nat.succ_mul] at this
        omega
      · omega
    refine spot_step (b := fun j => b j && Nat.blt j ops.size) (S := S) (w0 := w0) (μ := μ') (A := Up C n0 σ.n) hct hsp hn hfr hd' (by rw [hagS]; exact hs') (by rw [hagB]; exact hm') (by show (b i && Nat.blt i ops.size) = false; rw [hbi]; rfl) (fun j hj => ?_) (fun d hd => ?_) (fun μ'' a'' w'' hμ'' hd'' hs'' hm'' => ?_)
    · have h1 := hon j hj
      simp only [Bool.and_eq_true] at hj
      show (b j && Nat.blt j ops.size) = true
      rw [h1, hlt j hj.1]
      rfl
    · have h1 := hoff d hd
      show (b d && Nat.blt d ops.size) = false
      rw [h1]
      rfl
    · refine hK a'' w'' ⟨μ'', fun k hk => (hμ'' k hk).trans (hμ k hk), hd'', ?_, ?_⟩
      · rw [hup, hagS] at hs''
        exact hs''
      · rw [hup, hagB] at hm''
        exact hm''
  · intro b a' w' hall ⟨μ', hμ, hd', hs', hm'⟩
    have hag : ∀ e ∈ L, b e.i = true := fun e hm => hall _ (by simp [hn e hm])
    have hle := hS.le
    have hU : ∀ k, usedK W (Up C n0 σ.n) σ.n (fun j => b j && Nat.blt j ops.size) k → Up C n0 (keyAt W σ.n ops.size) k := by
      intro k hk
      rcases hk with hk | ⟨i, hi, h1, h2⟩
      · exact up_mono (by unfold keyAt; omega) k hk
      · simp only [Bool.and_eq_true] at hi
        have hlt : i < ops.size := by
          have := hi.2
          simp [Nat.blt] at this
          omega
        refine .inr ?_
        unfold keyAt at *
        have : (i + 1) * W ≤ ops.size * W := Nat.mul_le_mul_right _ hlt
        rw [Nat.succ_mul] at this
        omega
    refine hQ μ' a' w' hμ hd' ?_ ?_
    · rw [hbd.2.1]
      have : efS (fun _ => true) σ.s L = efS b σ.s L := ext_getD (by rw [efS_length, efS_length]) (fun t _ => efS_agree rfl rfl (fun e hm _ => (hag e hm).symm))
      rw [this]
      exact slots_mono hU (fun _ _ => rfl) _ _ hs'
    · rw [hbd.2.2]
      exact (hm'.mono (μ' := μ') hU (fun _ _ => rfl)).congr (fun k => efB_agree rfl (fun e hm _ => (hag e hm).symm))
theorem drawn_sound {ct : Table E} {Q : Exit → Act → World → Prop} {S : Nat → Prop} {w0 : World} {C : Nat → Prop} {n0 : Nat} {ops : Array Oper} (hct : TableOk E ct) (hmx : E.P.follows .mixedOrders = true) {σ τ : St E} {μ : Nat → Value} {a : Act} {w : World} {id : Nat} (hS : Sim S w0 C n0 μ σ a w) (h : runDrawn E ct ops σ = some τ) (hN : Free C n0 τ.n) (hc : Conj τ.c)
    (hQ : ∀ μ' a' w', (∀ k, Up C n0 σ.n k → μ' k = μ k) → Sim S w0 C n0 μ' τ a' w' → Q .normal a' w') : (Code.region id ops true).wp E.P Q a w := by
  obtain ⟨hw, W, h⟩ := drawn_width h
  obtain ⟨L, τ', he, hok, rfl⟩ := drawnW_some h
  exact drawn_core hct hmx hS hN hw he hok hc (fun μ' a' w' h0 h1 h2 h3 => hQ μ' a' w' h0 ⟨h1, h2, h3, Nat.le_trans hS.le (Nat.le_add_right _ _)⟩)
theorem drawn_conds {ct : Table E} {ops : Array Oper} {σ τ : St E} (h : runDrawn E ct ops σ = some τ) : (Conj τ.c → Conj σ.c) ∧ σ.n ≤ τ.n := by
  obtain ⟨hw, W, h⟩ := drawn_width h
  obtain ⟨L, τ', he, hok, rfl⟩ := drawnW_some h
  exact ⟨fun hc => efsOf_conds he hc, Nat.le_add_right _ _⟩
end
end
end Go.Proofs.YtcneenlcbjicnaaDoorSx
