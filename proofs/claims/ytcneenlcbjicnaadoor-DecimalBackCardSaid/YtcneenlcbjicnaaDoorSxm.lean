/- More on what called functions come to: less said, a nil row, from a contract to a call. -/
import Derived.Test.YtcneenlcbjicnaaDoorSxl
set_option linter.unusedVariables false
set_option linter.unusedSimpArgs false
namespace Go.Proofs.YtcneenlcbjicnaaDoorSx
open Go.RowKit Go.Proofs.YtcneenlcbjicnaaDoorW.PrintLast Go.Proofs.YtcneenlcbjicnaaDoorW.PrintWords
noncomputable section
theorem Mem.sub {E : Env} {S : Nat → Prop} {w0 w : World} {U : Nat → Prop} {μ : Nat → Value} {b b' : Tab E} (h : Mem S w0 U μ b w) (hb : ∀ k x, look b' k = some x → look b k = some x) : Mem S w0 U μ b' w where
  obj := fun k x hk => h.obj k x (hb k x hk)
  sep := fun k k' x x' g hk hk' => h.sep k k' x x' g (hb k x hk) (hb k' x' hk')
  kept := h.kept
  dom := h.dom
theorem Does.sub {E : Env} {g n n' : Nat} {T T' T2 : Tab E} {args : List SV} {res : SV} (h : Does E g T n args res T' n') (hne : T' ≠ []) (hb : ∀ k x, look T2 k = some x → look T' k = some x) : Does E g T n args res T2 n' := by
  intro S w μ vs hm hs
  rcases h S w μ vs hm hs with ⟨u, h1, h2, h3, h4⟩ | ⟨h1, h2⟩
  · exact (hne h3).elim
  · refine .inr ⟨h1, h2.mono fun e w' hh => ?_⟩
    obtain ⟨u, μ', e1, e2, e3, e4⟩ := hh
    exact ⟨u, μ', e1, e2, e3, Mem.sub e4 hb⟩
theorem Does.nil {E : Env} {g n n' : Nat} {T T' : Tab E} {args : List SV} {res : SV} (h : Does E g T n args res T' n') (hn : n' = n) : Does E g T n args res [] n' := by
  intro S w μ vs hm hs
  rcases h S w μ vs hm hs with ⟨u, h1, h2, h3, h4⟩ | ⟨h1, h2⟩
  · exact .inl ⟨u, h1, h2, rfl, h4⟩
  · refine .inr ⟨h1, h2.mono fun e w' hh => ?_⟩
    obtain ⟨u, μ', e1, e2, e3, e4⟩ := hh
    exact ⟨u, μ', e1, e2, e3, Mem.sub e4 (fun k x h => by simp [look] at h)⟩
/-- The call is entered. -/
def Enters (E : Env) (g : Nat) : Prop := ∀ (vs : Array Value) (w : World), (callFunc g vs).run E.P w = .ok (.enter g vs) w
theorem enters {E : Env} {g : Nat} {fn : Func} (hf : E.P.funcs[g]? = some fn) (hn : (fn.name == "runtime.NumGoroutine") = false) (hb : fn.body.isNone = false) : Enters E g := by
  intro vs w
  have h1 : fn.name ≠ "runtime.NumGoroutine" := by simpa using hn
  have h2 : ¬ fn.body = none := by intro h; simp [h] at hb
  simp [callFunc, hf, h1, h2, program, Sem.run]
theorem Does.calls {E : Env} {g n n' : Nat} {T T' : Tab E} {args : List SV} {res : SV} (h : Does E g T n args res T' n') (he : Enters E g) {S : Nat → Prop} {w : World} {μ : Nat → Value} {vs : List Value} (hm : Mem S w (fun k => k < n) μ T w) (hs : Slots (fun k => k < n) μ args vs) :
    Calls E.P g vs.toArray w fun e w' => ∃ u μ', e = .returned u ∧ (∀ k, k < n → μ' k = μ k) ∧ rel (fun k => k < n') μ' res u ∧ Mem S w (fun k => k < n') μ' T' w' := by
  rcases h S w μ vs hm hs with ⟨u, h1, _⟩ | ⟨_, h2⟩
  · rw [he] at h1
    cases h1
  · exact h2
/-- A function of one row that gives the row's copy: of one that is nil, and of one that is not. -/
theorem does_split {E : Env} {g : Nat} {e : TypeId} {l : List (E.fm e).α} (he : Enters E g) (hA : Does E g [(0, .ro e l true)] 1 [.o 0] (.o 1) [(0, .ro e l true), (1, .own e l)] 2) (hB : Does E g [] 0 [.v (.slice none 0 0)] (.v (.slice none 0 0)) [] 0) :
    Does E g [(0, .ro e l false)] 1 [.o 0] (.o 1) [(1, .own e l)] 2 := by
  intro S w μ vs hm hs
  obtain ⟨hu, hro⟩ := hm.obj 0 _ rfl
  rcases hro.2 with ⟨h1, h2, _⟩ | hnn
  · have hl : l = [] := List.eq_nil_of_length_eq_zero h2
    obtain ⟨u, r, rfl, hr, hr2⟩ := hs.consr
    have hr3 := hr2.nilr
    subst hr3
    unfold rel at hr
    have hu' : u = .slice none 0 0 := hr.2.1.trans h1
    subst hu'
    have hm0 : Mem S w (fun k => k < 0) μ ([] : Tab E) w := ⟨fun k x h => by simp [look] at h, fun k k' x x' g h => by simp [look] at h, hm.kept, hm.dom⟩
    refine .inr ⟨he _ _, (hB.calls he hm0 (slots_cons.2 ⟨rel_v.2 rfl, slots_nil⟩)).mono fun e' w' hh => ?_⟩
    obtain ⟨u, μ', e1, e2, e3, e4⟩ := hh
    rw [rel_v.1 e3] at e1
    refine ⟨.slice none 0 0, upd μ 1 (.slice none 0 0), e1, fun k hk => (if_neg (by omega) : upd μ 1 (.slice none 0 0) k = μ k), ?_, ?_⟩
    · unfold rel
      exact ⟨by omega, upd_same.symm, _, _, _, upd_same⟩
    · subst hl
      refine ⟨fun k x hk => ?_, fun k k' x x' g hk hk' ho ho' hb hb' => ?_, e4.kept, e4.dom⟩
      · rw [look_cons] at hk
        by_cases hk1 : k = 1
        · rw [if_pos hk1] at hk
          cases hk
          subst hk1
          refine ⟨by omega, ?_, fun g hg => ?_⟩
          · rw [upd_same]
            exact World.ownsRow_nil _ 0 e _
          · rw [upd_same] at hg
            simp [blk] at hg
        · rw [if_neg hk1] at hk
          simp [look] at hk
      · rw [look_cons] at hk hk'
        split at hk <;> split at hk'
        · omega
        · simp [look] at hk'
        · simp [look] at hk
        · simp [look] at hk
  · have hm' : Mem S w (fun k => k < 1) μ [(0, (.ro e l true : SObj E))] w := by
      refine ⟨fun k x hk => ?_, fun k k' x x' g hk hk' ho ho' hb hb' => ?_, hm.kept, hm.dom⟩
      · rw [look_cons] at hk
        by_cases hk0 : k = 0
        · rw [if_pos hk0] at hk
          cases hk
          subst hk0
          exact ⟨by omega, hro.1, .inr hnn⟩
        · rw [if_neg hk0] at hk
          simp [look] at hk
      · rw [look_cons] at hk
        split at hk
        · cases hk; cases ho
        · simp [look] at hk
    exact Does.sub hA (by simp) (fun k x hk => by
      rw [look_cons] at hk
      split at hk
      · rename_i hk1
        cases hk
        subst hk1
        rfl
      · simp [look] at hk) S w μ vs hm' hs
/-- What is not told of a slot may be told. -/
def Weak : List SV → List SV → Prop
  | [], [] => True
  | x :: s, y :: s' => (x = .na ∨ x = y) ∧ Weak s s'
  | _, _ => False
theorem weak_slots {U : Nat → Prop} {μ : Nat → Value} : ∀ {s s' : List SV} {us : List Value}, Weak s s' → Slots U μ s' us → Slots U μ s us
  | [], [], _, _, h => h
  | x :: s, y :: s', us, hw, h => by
    obtain ⟨u, r, rfl, h1, h2⟩ := h.consr
    refine slots_cons.2 ⟨?_, weak_slots hw.2 h2⟩
    rcases hw.1 with e | e
    · rw [e]; exact rel_x
    · rw [e]; exact h1
  | [], _ :: _, _, hw, _ => hw.elim
  | _ :: _, [], _, hw, _ => hw.elim
theorem fin_weak {E : Env} {fn : Func} {K0 n n' : Nat} {k : List It} {s s' : List SV} {b : Tab E} {res : SV} {T' : Tab E} (h : Fin E fn K0 res T' n' k s b n) (hw : Weak s s') : Fin E fn K0 res T' n' k s' b n := by
  intro S w0 vals μ a w hv hS
  exact h S w0 vals μ a w hv ⟨hS.d, weak_slots hw hS.s, hS.m, hS.le⟩
/-- The stack at a place of a function's code: the way there (which part of a sequence or test), the rounds that are left to the loops around it. -/
def stackAt : List Nat → Code → List Nat → List It → List It
  | [], c, _, k => .code c :: k
  | i :: p, .seq a b, ms, k => match i with
    | 0 => stackAt p a ms (.code b :: k)
    | _ => stackAt p b ms k
  | i :: p, .cond _ a b, ms, k => match i with
    | 0 => stackAt p a ms k
    | _ => stackAt p b ms k
  | _ :: p, .block id b, ms, k => stackAt p b ms (.blk id :: k)
  | _ :: p, .loop b, ms, k => match ms with
    | m :: ms => stackAt p b ms (.rd b m :: k)
    | [] => []
  | _ :: p, .scope b, ms, k => match ms with
    | m :: ms => stackAt p b ms (.sc b m :: k)
    | [] => []
  | _, _, _, _ => []
/-- A law over numbers alone: from its contract to its call. -/
def GlobIn (E : Env) (w : World) : Prop := ∀ g vs, glAll (E.gl g) = some vs → ∃ t f, w.heap[g]? = some (.cells vs.toArray t f)
theorem GlobIn.ok {E : Env} {w : World} (h : GlobIn E w) : GlobOk E (fun g => g < w.heap.size) w := fun g vs hv => by
  obtain ⟨t, f, hb⟩ := h g vs hv
  exact ⟨(Array.getElem?_eq_some_iff.1 hb).1, t, f, hb⟩
theorem law_calls {E : Env} {g n' : Nat} {T' : Tab E} {l : List Value} {v : Value} (he : Enters E g) (h : Does E g [] 0 (l.map .v) (.v v) T' n') (w : World) (hgl : GlobIn E w) : Calls E.P g l.toArray w fun e w' => e = .returned v ∧ Below w.heap.size w w' := by
  have hm : Mem (fun g => g < w.heap.size) w (fun k => k < 0) (fun _ => undef) ([] : Tab E) w := ⟨fun k x h => by simp [look] at h, fun k k' x x' g h => by simp [look] at h, Kept.refl _ _, fun g hg => hg, hgl.ok⟩
  refine (h.calls he hm (slots_vals _ _ l)).mono fun e w' hh => ?_
  obtain ⟨u, μ', e1, e2, e3, e4⟩ := hh
  rw [rel_v.1 e3] at e1
  exact ⟨e1, e4.kept.below (fun g hg => hg)⟩
end
end Go.Proofs.YtcneenlcbjicnaaDoorSx
