import Derived.Test.YtpfignfgfhbblaaGreatDoorMt05
import Derived.Test.YtpfignfgfhbblaaGreatDoorRows
import Derived.Lib.LaidTab
import Derived.Lib.LaidU8T
import Derived.ProofKit
import Derived.MakeChecks
import Derived.Stop.LaidErr
import Derived.SizedLaws
import Derived.Handed
import Derived.Shelf.Vars
/- What the listed package-level variables hold: the table of powers of ten, the two tables of unicode/utf8, cell for cell. -/
namespace Go.Proofs.YtpfignfgfhbblaaGreatDoorC
open Go.Proofs Go.Proofs.YtpfignfgfhbblaaGreatDoorSx Go.Proofs.YtpfignfgfhbblaaGreatDoor Go.Lib
set_option maxRecDepth 100000
abbrev laid3 : List (String × DataW Unit) := [("math/bits.deBruijn32tab", Rows.laid_math_bits_deBruijn32tab), ("math/bits.deBruijn64tab", Rows.laid_math_bits_deBruijn64tab), ("internal/strconv.uint64pow10", Rows.laid_internal_strconv_uint64pow10), ("unicode/utf8.acceptRanges", Rows.laid_unicode_utf8_acceptRanges), ("strconv.ErrRange", Rows.laid_strconv_ErrRange), ("strconv.ErrSyntax", Rows.laid_strconv_ErrSyntax), ("unicode/utf8.first", Rows.laid_unicode_utf8_first)]
theorem var_block {P : Program} {w : World} {n : String} {cs : Array Value} {g : Nat} (h : w.var? P n = some cs) (hg : P.globalNamed n = some g) : ∃ t f, w.heap[g]? = some (.cells cs t f) := by
  unfold World.var? at h
  rw [hg] at h
  simp only [Option.bind_some] at h
  split at h
  · rename_i cs' t f hb
    simp only [Option.some.injEq] at h
    exact ⟨t, f, by rw [hb, h]⟩
  · cases h
theorem tab_at {W : World} {n : String} {k : IntKind} {zs : List Int} {g : Nat} {t e : TypeId} {m : Nat} (h : VarReads Tryz.prog W n (Lib.tabData k zs)) (hg : Tryz.prog.globalNamed n = some g) (hy : (Tryz.prog.globals[g]?).map (·.type) = some t)
    (ht : Tryz.prog.underlying t = some (.array m e)) (he : Tryz.prog.underlying e = some (.int k)) (hce : Tryz.prog.cellsOf e = 1) (hct : Tryz.prog.cellsOf t = m) : ∃ t f, W.heap[g]? = some (.cells (zs.map (Value.int k)).toArray t f) := by
  obtain ⟨g', t', cs, fuel, p, h1, h2, h3, h4⟩ := h
  obtain rfl := Option.some.inj (hg.symm.trans h1)
  obtain rfl := Option.some.inj (hy.symm.trans h2)
  have hcs := cells_of_tab ht he hce hct h4
  obtain ⟨t, f, hb⟩ := var_block h3 hg
  refine ⟨t, f, ?_⟩
  rw [hb]
  congr 2
  apply Array.ext'
  rw [hcs]
theorem arr_len {H : Type} {enc : TypeId × Value → H} {P : Program} {w : World} {base : Nat} {sp : Nat → Bool} {held : Bool} {fuel : Nat} {t e : TypeId} {n : Nat} {cs : List Value} {ds : List (DataW H)} {p : List MemPlace} (ht : P.underlying t = some (.array n e))
    (h : DataW.trod enc P w base sp held fuel t cs = some (.agg ds, p)) : cs.length = P.cellsOf t := by
  cases fuel with
  | zero => simp [DataW.trod] at h
  | succ fuel =>
    simp only [DataW.trod, ht] at h
    split at h
    · rename_i hl
      exact hl
    · cases h
theorem acc_at {W : World} (h : VarReads Tryz.prog W "unicode/utf8.acceptRanges" acceptData) : ∃ t f, W.heap[1]? = some (.cells (accL.map (Value.int .u8)).toArray t f) := by
  obtain ⟨g', t', cs, fuel, p, h1, h2, h3, h4⟩ := h
  have hg : Tryz.prog.globalNamed "unicode/utf8.acceptRanges" = some 1 := by kernel_rfl
  have hy : (Tryz.prog.globals[1]?).map (·.type) = some 200 := by kernel_rfl
  have ht : Tryz.prog.underlying 200 = some (.array 16 199) := by kernel_rfl
  have hs : Tryz.prog.underlying 199 = some (TypeDesc.struct #[{ name := "lo", type := 5, offset := 0, embedded := false, tag := "", pkgPath := "unicode/utf8", byteOffset := 0 }, { name := "hi", type := 5, offset := 1, embedded := false, tag := "", pkgPath := "unicode/utf8", byteOffset := 1 }]) := by kernel_rfl
  have h5 : Tryz.prog.underlying 5 = some (.int .u8) := by kernel_rfl
  have c5 : Tryz.prog.cellsOf 5 = 1 := by kernel_rfl
  have c2 : Tryz.prog.cellsOf 199 = 2 := by kernel_rfl
  have c32 : Tryz.prog.cellsOf 200 = 32 := by kernel_rfl
  obtain rfl := Option.some.inj (hg.symm.trans h1)
  obtain rfl := Option.some.inj (hy.symm.trans h2)
  obtain ⟨t, f, hb⟩ := var_block h3 hg
  refine ⟨t, f, ?_⟩
  rw [hb]
  congr 2
  apply Array.ext'
  have hl := arr_len ht h4
  rw [c32] at hl
  have acc : ∀ k : _root_.Fin 16, accL[2 * k.val]? = some ((accLo k.val : Nat) : Int) ∧ accL[2 * k.val + 1]? = some ((accHi k.val : Nat) : Int) := by decide
  have hlen : accL.length = 32 := by decide
  apply List.ext_getElem?
  intro j
  by_cases hj : j < 32
  · obtain ⟨fuel', d, q, hdi, he⟩ := array_elem ht h4 (j / 2) (by omega)
    simp only [List.getElem?_map, List.getElem?_range (by omega : j / 2 < 16), Option.map_some, Option.some.injEq] at hdi
    subst hdi
    rw [c2] at he
    have hcs := ints_of_struct hs (fun j f hj => by
      match j, hj with
      | 0, hj => simp at hj; subst hj; exact ⟨h5, rfl, c5⟩
      | 1, hj => simp at hj; subst hj; exact ⟨h5, rfl, c5⟩
      | j + 2, hj => simp at hj) (by rw [c2]; rfl) he
    obtain ⟨a0, a1⟩ := acc ⟨j / 2, by omega⟩
    simp only at a0 a1
    have hj2 : j = 2 * (j / 2) ∨ j = 2 * (j / 2) + 1 := by omega
    rcases hj2 with e | e
    · have e0 : cs.toList[2 * (j / 2)]? = some (.int .u8 ((accLo (j / 2) : Nat) : Int)) := by
        have := congrArg (·[0]?) hcs
        simpa [List.getElem?_take, List.getElem?_drop, Nat.mul_comm] using this
      rw [List.getElem?_map, e, e0, a0]
      rfl
    · have e0 : cs.toList[2 * (j / 2) + 1]? = some (.int .u8 ((accHi (j / 2) : Nat) : Int)) := by
        have := congrArg (·[1]?) hcs
        simpa [List.getElem?_take, List.getElem?_drop, Nat.mul_comm] using this
      rw [List.getElem?_map, e, e0, a1]
      rfl
  · rw [List.getElem?_eq_none (by omega), List.getElem?_eq_none (by simp; omega)]
theorem cell_lt {w : World} {g : Nat} {v : Value} (h : w.cell? ⟨g, 0, none⟩ = some v) : g < w.heap.size := World.block_lt_of_cell? w ⟨g, 0, none⟩ h
theorem star_err : "*" ++ "errors.errorString" = "*errors.errorString" := by decide
theorem row_err (u : TypeId) (h : Tryz.prog.typeName? 3 u = some "*errors.errorString") : u = 251 :=
  typeName_ptr_named (nm := "errors.errorString") (by rw [star_err]; kernel_rfl) (by kernel_rfl) (by decide) u (by rw [star_err]; exact h)
theorem err_at {W : World} {n : String} {text : List UInt8} {r : List (String × DataW Unit)} {g : Nat} (h : laidMet Tryz.prog ((n, .iface "*errors.errorString" (.ptr (.agg [.lit (.string text)]))) :: r) W) (hg : Tryz.prog.globalNamed n = some g) (ht : (Tryz.prog.globals[g]?).map (·.type) = some 162) :
    ∃ v, W.cell? ⟨g, 0, none⟩ = some v ∧ (v = .nilIface ∨ ∃ te pe, v = .iface te pe) := by
  obtain ⟨a, s, hv, _⟩ := laid_sentinel h hg ht Tryz.underlying162 row_err Tryz.underlying251 Tryz.underlying253 rfl rfl Tryz.underlying9 (by kernel_rfl) (by kernel_rfl)
  obtain ⟨t, f, hb⟩ := var_block hv hg
  exact ⟨.iface 251 (.pointer (some a)), by simp [World.cell?, hb], .inr ⟨_, _, rfl⟩⟩
theorem glob_in {W : World} (h : laidMetH Tryz.prog laid3 W) (hsh : W.ShapedOpen Tryz.prog) : GlobIn cE W := by
  rw [MakeChecks.laidMetH_plain _ _ _ (by kernel_rfl)] at h
  have g0 := tab_at (k := .u64) (zs := Lib.pow10Tab) (m := 20) (e := 121) (t := 238) (laidMet.reads h (n := "internal/strconv.uint64pow10") (d := Lib.tabData .u64 Lib.pow10Tab) (by simp [laid3]; rfl)) (g := 4) (by kernel_rfl) (by kernel_rfl) (by kernel_rfl) (by kernel_rfl) (by kernel_rfl) (by kernel_rfl)
  have g1 := tab_at (k := .u8) (zs := firstTab) (m := 256) (e := 5) (t := 197) (laidMet.reads h (n := "unicode/utf8.first") (d := firstData) (by simp [laid3]; rfl)) (g := 0) (by kernel_rfl) (by kernel_rfl) (by kernel_rfl) (by kernel_rfl) (by kernel_rfl) (by kernel_rfl)
  have g2 := acc_at (laidMet.reads h (n := "unicode/utf8.acceptRanges") (d := acceptData) (by simp [laid3]; rfl))
  refine ⟨fun g vs hv => ?_, fun g p hp => ?_⟩
  · by_cases hg0 : g = 4
    · subst hg0
      have e : cE.gl 4 = .ints .u64 Lib.pow10Tab := rfl
      rw [e] at hv
      simp only [glAll, Option.some.injEq] at hv
      subst hv
      exact g0
    · by_cases hg1 : g = 0
      · subst hg1
        have e : cE.gl 0 = .ints .u8 firstL := rfl
        rw [e] at hv
        simp only [glAll, Option.some.injEq] at hv
        subst hv
        exact g1
      · by_cases hg2 : g = 1
        · subst hg2
          have e : cE.gl 1 = .ints .u8 accL := rfl
          rw [e] at hv
          simp only [glAll, Option.some.injEq] at hv
          subst hv
          exact g2
        · have e : cE.gl g = .no := by
            show (bif Nat.beq g 4 then _ else bif Nat.beq g 0 then _ else bif Nat.beq g 1 then _ else _) = _
            rw [nbeq_ne hg0, nbeq_ne hg1, nbeq_ne hg2]
            rfl
          rw [e] at hv
          cases hv
  · by_cases hg0 : g = 2
    · subst hg0
      have e : cE.ga 2 = some (fun v => ∃ m, v = .int .i64 m) := rfl
      rw [e] at hp
      obtain rfl := Option.some.inj hp
      obtain ⟨m, hm⟩ := cell_of_shapedOpen_int (P := Tryz.prog) (g := 2) (t := 3) (zero := #[.int .i64 0]) hsh (of_decide_eq_true (by kernel_rfl)) (by kernel_rfl) rfl (by kernel_rfl) (by kernel_rfl) Tryz.underlying3
      exact ⟨cell_lt hm, _, hm, m, rfl⟩
    · by_cases hg1 : g = 5
      · subst hg1
        have e : cE.ga 5 = some (fun v => v = .nilIface ∨ ∃ te pe, v = .iface te pe) := rfl
        rw [e] at hp
        obtain rfl := Option.some.inj hp
        obtain ⟨v, hm, hv⟩ := err_at (g := 5) (h.tail.tail.tail.tail.tail) (by kernel_rfl) (by kernel_rfl)
        exact ⟨cell_lt hm, v, hm, hv⟩
      · by_cases hg2 : g = 6
        · subst hg2
          have e : cE.ga 6 = some (fun v => v = .nilIface ∨ ∃ te pe, v = .iface te pe) := rfl
          rw [e] at hp
          obtain rfl := Option.some.inj hp
          obtain ⟨v, hm, hv⟩ := err_at (g := 6) (h.tail.tail.tail.tail) (by kernel_rfl) (by kernel_rfl)
          exact ⟨cell_lt hm, v, hm, hv⟩
        · have e : cE.ga g = none := by
            show (bif Nat.beq g 2 then _ else bif Nat.beq g 5 then _ else bif Nat.beq g 6 then _ else _) = _
            rw [nbeq_ne hg0, nbeq_ne hg1, nbeq_ne hg2]
            rfl
          rw [e] at hp
          cases hp
/-- The wrap of a row over listed variables, the world's shape handed on. -/
theorem handed_shaped {H : Type} {enc : TypeId × Value → H} {a : Assume} {C : Checked} {os : Os} {f : FuncId} {fn : Func} {s : ChangeSpec} {conds : List PathCond} {apart fresh handsOn again : Bool} {X : World → Array Value → Prop}
    (hX : ∀ (w w' : World) (args : Array Value), w.heap = w'.heap → X w args → X w' args)
    (own : ownKnob C.prog.godebug = none) (started : os.Started) (noInit : C.prog.inits.idxOf? f = none) (hfn : C.prog.funcs[f]? = some fn)
    (wit : ∃ (w : World) (tape : Tape) (i : Input), w.os = os ∧ (w.forCall tape i).Shaped C.prog ∧ i.vars = [] ∧ Input.okWide C.prog (w.forCall tape i) .any w.heap.size f i ∧
      ((s.pre enc C.prog fn conds apart (w.forCall tape i).memory i.args ∧ X (w.forCall tape i).memory i.args) ∧ sizedMet enc C.prog fn (OpenSpec.ofChange s) apart (w.forCall tape i).memory i.args) ∧ a.holds C.prog (lone (Frame.enter C.prog f i.args .normal) [] (w.forCall tape i)))
    (run : ∀ (W : World) (base : Nat) (args : Array Value) (ds gs : List (DataW H)) (before : List MemPlace),
      (∀ (j : Nat) t v, fn.params[j]? = some t → args[j]? = some v → Value.okWide C.prog W .any base t v) →
      DataW.Whole enc C.prog fn.params.toList s.vars apart W args.toList ds gs before →
      conds.all (PathCond.test C.prog ⟨fn.params.toList, ds, s.plain.varTypes C.prog, gs⟩) = true →
      (DataW.weightsEach C.prog (fn.params.toList ++ s.plain.varTypes C.prog) (ds ++ gs)).all (· ≤ reachBytes) = true → X W args → W.ShapedOpen C.prog →
      a.holds C.prog (lone (Frame.enter C.prog f args .normal) [] W) →
      Calls C.prog f args W fun e W' => ∃ v, e = .returned v ∧ s.post enc C.prog fn apart fresh handsOn again W args v W') :
    ReturnsInHanded a C os f .any (fun w args => (s.pre enc C.prog fn conds apart w args ∧ X w args) ∧ sizedMet enc C.prog fn (OpenSpec.ofChange s) apart w args) (s.post enc C.prog fn apart fresh handsOn again) := by
  refine returnsInHanded_of_calls own started noInit wit ?_
  intro w tape i _ hsh _ ok hpre hh
  obtain ⟨_, _, _, g, hg, _, _, _, _, hval⟩ := ok
  obtain rfl : g = fn := Option.some.inj (hg.symm.trans hfn)
  obtain ⟨⟨⟨ds, gs, before, hw, hc⟩, hx⟩, hz⟩ := hpre
  have hw2 := DataW.Whole.of_heap (w' := w.forCall tape i) (by rfl) hw
  refine (run (w.forCall tape i) w.heap.size i.args ds gs before hval hw2 hc (hz.weights hw) (hX _ _ _ (by rfl) hx) hsh hh).mono fun e W' hv => ?_
  obtain ⟨v, he, hp⟩ := hv
  subst he
  exact ChangeSpec.post_blind hp
theorem sized_part {H : Type} {P : Program} {ts : List TypeId} {ds : List (DataW H)} (h : (DataW.weightsEach P ts ds).all (· ≤ reachBytes) = true) {j : Nat} {t : TypeId} {parts : List (DataW H)} {fs : Array Field} (ht : ts[j]? = some t) (hd : ds[j]? = some (.agg parts)) (hs : P.underlying t = some (.struct fs))
    {i : Nat} {t' : TypeId} {bytes : List UInt8} (ht' : (fs.toList.map (·.type))[i]? = some t') (hp : parts[i]? = some (.lit (.string bytes))) : bytes.length ≤ reachBytes := by
  have := List.all_eq_true.1 h _ (DataW.weights_mem_each ht hd bytes.length (by
    simp only [DataW.weights, hs]
    exact DataW.weights_mem_each ht' hp _ (by simp [DataW.weights])))
  simpa using this
end Go.Proofs.YtpfignfgfhbblaaGreatDoorC
