/- The symbolic machine's single steps: rows that are made, literals, strings of bytes, parts of structs. -/
import Derived.Test.YtcneenlcbjicnaaDoorSxe
set_option linter.unusedVariables false
set_option linter.unusedSimpArgs false
namespace Go.Proofs.YtcneenlcbjicnaaDoorSx
open Go.RowKit Go.Proofs.YtcneenlcbjicnaaDoorW.PrintLast Go.Proofs.YtcneenlcbjicnaaDoorW.PrintWords
noncomputable section
section
variable {E : Env} {S : Nat → Prop} {w0 w w' : World} {U : Nat → Prop} {μ : Nat → Value} {b : Tab E} {key : Nat}
/-! ### Rows of zeros -/
theorem zeros_cells (F : Fmt) (z : Array Value) (a : F.α) (n : Nat) (hz : F.enc a = z.toList) : ((Array.range (n * z.size)).map fun i => z[i % z.size]!).toList = cellsF F (List.replicate n a) := by
  have hs : z.size = F.sz := by
    have h1 := F.len a
    rw [hz] at h1
    simpa using h1
  have hpos := F.pos
  refine List.ext_getElem? (fun j => ?_)
  by_cases hj : j < n * F.sz
  · have hr : j % F.sz < F.sz := Nat.mod_lt _ hpos
    have hq : j / F.sz < n := Nat.div_lt_of_lt_mul (by rw [Nat.mul_comm]; exact hj)
    have hjd : j = (j / F.sz) * F.sz + j % F.sz := by rw [Nat.mul_comm]; exact (Nat.div_add_mod j F.sz).symm
    have e := cellsF_get F (List.replicate n a) (j / F.sz) (j % F.sz) a (by simp [hq]) hr
    rw [← hjd, hz] at e
    rw [e, hs]
    have hlt : j % F.sz < z.size := by omega
    simp [hj, hlt]
  · rw [List.getElem?_eq_none (by simp [hs]; omega), List.getElem?_eq_none (by rw [cellsF_length]; simp; omega)]
def xMake (b : Tab E) (key : Nat) (t : TypeId) (x y : SV) (d : List (Dec E)) : Option (Res E) := match E.P.underlying t with
  | some (.slice e) => match E.P.info? e, intS x, intS y with
    | some i, some l, some c => match i.zero with
      | some z => match (E.fm e).dec z.cells.toList with
        | some a => bif Nat.beq i.size (E.fm e).sz && Nat.beq z.cells.size (E.fm e).sz then some ⟨.o key, [(key, .own e (List.replicate l.toNat a))], key + 1, [0 ≤ l ∧ l ≤ c ∧ c ≤ maxLen ∧ (i.bytes : Int) * c ≤ 281474976710656], d⟩ else none
        | none => none
      | none => none
    | _, _, _ => none
  | _ => none
theorem xMake_ok {t : TypeId} {x y : SV} {d : List (Dec E)} {R : Res E} (h : xMake b key t x y d = some R) (hcn : Conj R.c) (hf : Free U key R.n) (hm : Mem S w0 U μ b w) {ux uy : Value} (hx : rel U μ x ux) (hy : rel U μ y uy) :
    Good S w0 U μ b key R ((Instr.makeSlice t ux uy).run E.P w) := by
  unfold xMake at h
  split at h
  · rename_i e ht
    split at h
    · rename_i i l c hi hl hc
      split at h
      · rename_i z hz
        split at h
        · rename_i a ha
          cases hcd : (Nat.beq i.size (E.fm e).sz && Nat.beq z.cells.size (E.fm e).sz) with
          | false => simp [hcd] at h
          | true =>
            simp only [hcd, cond_true, Option.some.injEq] at h
            subst h
            simp only [Bool.and_eq_true] at hcd
            have e1 := Nat.eq_of_beq_eq_true hcd.1
            have e2 := Nat.eq_of_beq_eq_true hcd.2
            obtain ⟨kl, rfl⟩ := intS_rel hx hl
            obtain ⟨kc, rfl⟩ := intS_rel hy hc
            obtain ⟨c0, c1, c2, c3⟩ : 0 ≤ l ∧ l ≤ c ∧ c ≤ maxLen ∧ (i.bytes : Int) * c ≤ 281474976710656 := hcn
            have hmx : c ≤ 9223372036854775807 := by simp only [maxLen] at c2; omega
            have hr := run_make (P := E.P) w t e i z ht hi hz kl kc l c c0 c1 c3 hmx
            have hkey : ¬ U key := hf key (Nat.le_refl _) (Nat.lt_succ_self _)
            have henc := (E.fm e).inv _ _ ha
            have hrow : (w.alloc (.cells (madeCells z.cells (c.toNat * i.size)) e)).ownsRow 0 e (E.fm e).sz (.slice (some ⟨w.heap.size, 0, none⟩) l.toNat c.toNat) (List.replicate l.toNat a).length (cellsF (E.fm e) (List.replicate l.toNat a)) := by
              refine ⟨by rw [cellsF_length], .inr ⟨w.heap.size, c.toNat, _, by simp, Nat.zero_le _, heap_alloc_new w _, by simp; omega, by simp only [maxLen] at c2 ⊢; omega, by rw [size_madeCells, e1], ?_⟩⟩
              have hz2 := zeros_cells (E.fm e) z.cells a c.toNat henc
              rw [e2, ← e1] at hz2
              have hm2 : (madeCells z.cells (c.toNat * i.size)).toList = cellsF (E.fm e) (List.replicate c.toNat a) := by
                rw [← hz2]
                unfold madeCells
                rw [e2, e1]
              rw [hm2, List.length_replicate, ← cellsF_take, List.take_replicate, Nat.min_eq_left (by omega)]
            refine ⟨_, _, upd μ key (.slice (some ⟨w.heap.size, 0, none⟩) l.toNat c.toNat), hr, upd_old hkey, ?_, ?_⟩
            · unfold rel
              exact ⟨.inr ⟨Nat.le_refl _, Nat.lt_succ_self _⟩, upd_same.symm, by rw [upd_same]; exact ⟨_, _, _, rfl⟩⟩
            · refine hm.new hf (World.grownBy_alloc w _ none) _ _ ⟨by rw [upd_same]; exact hrow, fun g hg hS => ?_⟩ (fun g hg => by simp [blk] at hg; omega)
              rw [upd_same] at hg
              simp [blk] at hg
              have := Nat.lt_of_lt_of_le (hm.dom.1 g hS) hm.kept.size
              omega
        · cases h
      · cases h
    · cases h
  · cases h
def xAppendZ (b : Tab E) (key : Nat) (t tx : TypeId) (x y : SV) (d : List (Dec E)) : Option (Res E) := match E.P.underlying t, E.P.underlying tx with
  | some (.slice e), some (.int _) => match E.P.info? e, x, intS y with
    | some i, .v (.slice none n c), some l => match i.zero with
      | some z => match (E.fm e).dec z.cells.toList with
        | some a => bif Nat.beq n 0 && Nat.beq c 0 && Nat.beq i.size (E.fm e).sz && Nat.beq z.cells.size (E.fm e).sz then some ⟨.o key, [(key, .own e (List.replicate l.toNat a))], key + 1, [0 < l ∧ Room (2 * l.toNat) i.bytes], d⟩ else none
        | none => none
      | none => none
    | _, _, _ => none
  | _, _ => none
theorem xAppendZ_ok {t tx ty : TypeId} {x y : SV} {d : List (Dec E)} {R : Res E} (h : xAppendZ b key t tx x y d = some R) (hcn : Conj R.c) (hf : Free U key R.n) (hm : Mem S w0 U μ b w) {ux uy : Value} (hx : rel U μ x ux) (hy : rel U μ y uy) :
    Good S w0 U μ b key R ((Builtin.append_ #[t, tx] ty #[ux, uy]).run E.P w) := by
  unfold xAppendZ at h
  split at h
  · rename_i e kt ht htn
    split at h
    · rename_i i n c l hi hl
      split at h
      · rename_i z hz
        split at h
        · rename_i a ha
          cases hcd : (Nat.beq n 0 && Nat.beq c 0 && Nat.beq i.size (E.fm e).sz && Nat.beq z.cells.size (E.fm e).sz) with
          | false => simp [hcd] at h
          | true =>
            simp only [hcd, cond_true, Option.some.injEq] at h
            subst h
            simp only [Bool.and_eq_true] at hcd
            have en := Nat.eq_of_beq_eq_true hcd.1.1.1
            have ec := Nat.eq_of_beq_eq_true hcd.1.1.2
            have e1 := Nat.eq_of_beq_eq_true hcd.1.2
            have e2 := Nat.eq_of_beq_eq_true hcd.2
            subst en
            subst ec
            obtain ⟨kl, rfl⟩ := intS_rel hy hl
            obtain ⟨c0, c3, c4⟩ : 0 < l ∧ Room (2 * l.toNat) i.bytes := hcn
            have c1 : l.toNat ≤ maxLen := by omega
            have c2 : l.toNat * i.bytes ≤ 140737488355328 := by
              have h5 : 2 * l.toNat * i.bytes ≤ (2 * l.toNat + 2 * l.toNat / 4 + 192) * i.bytes := Nat.mul_le_mul_right _ (by omega)
              rw [Nat.mul_assoc] at h5
              omega
            have hl2 : l = (l.toNat : Int) := by omega
            have hr := Lib.run_append_nil_zeros (P := E.P) w t tx ty e i z kl kt ht htn hi hz l.toNat (by omega) (by rw [e1]; exact (E.fm e).pos) (by simp only [maxLen] at c1; omega) (by omega)
            rw [← hl2] at hr
            have hkey : ¬ U key := hf key (Nat.le_refl _) (Nat.lt_succ_self _)
            have henc := (E.fm e).inv _ _ ha
            have hge := grownCap_ge w l.toNat 0 e
            have hcm := grownCap_le_maxLen w l.toNat 0 e c1
            have hrow : (w.drew.alloc (.cells (Builtin.zeroCells z.cells l.toNat ++ Builtin.zeroCells z.cells (grownCap w l.toNat 0 e - l.toNat)) e)).ownsRow 0 e (E.fm e).sz (.slice (some ⟨w.heap.size, 0, none⟩) l.toNat (grownCap w l.toNat 0 e)) (List.replicate l.toNat a).length (cellsF (E.fm e) (List.replicate l.toNat a)) := by
              refine ⟨by rw [cellsF_length], .inr ⟨w.heap.size, _, _, by simp, Nat.zero_le _, heap_alloc_new w.drew _, by rw [List.length_replicate]; exact hge, hcm, ?_, ?_⟩⟩
              · rw [Array.size_append, size_zeroCells, size_zeroCells, e2, ← Nat.add_mul]
                congr 1
                omega
              · have hz2 := zeros_cells (E.fm e) z.cells a l.toNat henc
                have hm2 : (Builtin.zeroCells z.cells l.toNat).toList = cellsF (E.fm e) (List.replicate l.toNat a) := by
                  rw [← hz2]
                  rfl
                have hlen : (cellsF (E.fm e) (List.replicate l.toNat a)).length = (List.replicate l.toNat a).length * (E.fm e).sz := cellsF_length _ _
                rw [Array.toList_append, hm2, ← hlen]
                exact List.take_left
            refine ⟨_, _, upd μ key (.slice (some ⟨w.heap.size, 0, none⟩) l.toNat (grownCap w l.toNat 0 e)), by rw [rel_v.1 hx]; exact hr, upd_old hkey, ?_, ?_⟩
            · unfold rel
              exact ⟨.inr ⟨Nat.le_refl _, Nat.lt_succ_self _⟩, upd_same.symm, by rw [upd_same]; exact ⟨_, _, _, rfl⟩⟩
            · refine hm.new (x := .own e (List.replicate l.toNat a)) (w' := w.drew.alloc (.cells (Builtin.zeroCells z.cells l.toNat ++ Builtin.zeroCells z.cells (grownCap w l.toNat 0 e - l.toNat)) e)) hf ⟨rfl, rfl, rfl, by simp, fun k hk _ => heap_alloc_old w.drew _ hk⟩ (.slice (some ⟨w.heap.size, 0, none⟩) l.toNat (grownCap w l.toNat 0 e)) ⟨by rw [upd_same]; exact hrow, fun g hg hS => ?_⟩ (fun g hg => by simp [blk] at hg; omega)
              rw [upd_same] at hg
              simp [blk] at hg
              have := Nat.lt_of_lt_of_le (hm.dom.1 g hS) hm.kept.size
              omega
        · cases h
      · cases h
    · cases h
  · cases h
/-! ### Literals -/
def fillS (place : Nat → Option (Nat × Nat)) (cs : List SV) : List (Nat × List SV) → Option (List SV)
  | [] => some cs
  | (i, vs) :: rest => match place i with
    | some (off, size) => bif Nat.beq vs.length size && Nat.ble (off + vs.length) cs.length then fillS place (splice cs off vs) rest else none
    | none => none
theorem fold_splice : ∀ (l : List Value) (k off : Nat) (cells : Array Value), off + k + l.length ≤ cells.size →
    ((l.zipIdx k).foldl (fun cs p => cs.setIfInBounds (off + p.2) p.1) cells).toList = splice cells.toList (off + k) l
  | [], k, off, cells, h => by simp [splice]
  | v :: l, k, off, cells, h => by
    have ih := fold_splice l (k + 1) off (cells.setIfInBounds (off + k) v) (by simp at h ⊢; omega)
    simp only [List.zipIdx_cons, List.foldl_cons]
    rw [ih, Array.toList_setIfInBounds]
    simp only [List.length_cons] at h
    refine List.ext_getElem? (fun j => ?_)
    rw [splice_get (by simp; omega), splice_get (by simp; omega)]
    by_cases c1 : j < off + k
    · rw [if_pos (by omega), if_pos c1, List.getElem?_set_ne (by omega)]
    · rw [if_neg c1]
      by_cases c2 : j = off + k
      · subst c2
        rw [if_pos (by omega), List.getElem?_set_self (by simp; omega), if_pos (by simp)]
        simp
      · rw [if_neg (by omega)]
        by_cases c3 : j < off + k + (v :: l).length
        · simp only [List.length_cons] at c3
          rw [if_pos (by omega), if_pos (by simp; omega)]
          have : j - (off + k) = (j - (off + (k + 1))) + 1 := by omega
          rw [this, List.getElem?_cons_succ]
        · simp only [List.length_cons] at c3
          rw [if_neg (by omega), if_neg (by simp; omega), List.getElem?_set_ne (by omega)]
theorem fill_step (off : Nat) (xs cells : Array Value) (h : off + xs.size ≤ cells.size) : (xs.zipIdx.foldl (fun cs (c, j) => cs.setIfInBounds (off + j) c) cells).toList = splice cells.toList off xs.toList := by
  have := fold_splice xs.toList 0 off cells (by simpa using h)
  rw [Nat.add_zero] at this
  rw [← this, ← Array.foldl_toList, Array.toList_zipIdx]
/-- Each part's cells. -/
def partsS (s : Operand → SV) : List (Nat × Operand) → Option (List (Nat × List SV))
  | [] => some []
  | (i, x) :: r => match cellsS (s x), partsS s r with
    | some vs, some l => some ((i, vs) :: l)
    | _, _ => none
theorem fill_ok {place : Nat → Option (Nat × Nat)} {s : Operand → SV} {ev : Operand → Value} (hs : ∀ x, rel U μ (s x) (ev x)) : ∀ {ps : List (Nat × Operand)} {pl : List (Nat × List SV)} {cs cs' : List SV} {arr : Array Value}, partsS s ps = some pl → Slots U μ cs arr.toList → fillS place cs pl = some cs' →
    ∃ arr', Instr.fill place arr (ps.map fun p => (p.1, ev p.2)) = some arr' ∧ Slots U μ cs' arr'.toList
  | [], pl, cs, cs', arr, hp, hc, hf => by
    simp only [partsS, Option.some.injEq] at hp
    subst hp
    simp only [fillS, Option.some.injEq] at hf
    subst hf
    exact ⟨arr, rfl, hc⟩
  | (i, x) :: ps, pl, cs, cs', arr, hp, hc, hf => by
    unfold partsS at hp
    split at hp
    · rename_i vs l hv hl
      simp only [Option.some.injEq] at hp
      subst hp
      unfold fillS at hf
      split at hf
      · rename_i off size hpl
        cases hcd : (Nat.beq vs.length size && Nat.ble (off + vs.length) cs.length) with
        | false => simp [hcd] at hf
        | true =>
          simp only [hcd, cond_true] at hf
          simp only [Bool.and_eq_true] at hcd
          have e1 := Nat.eq_of_beq_eq_true hcd.1
          have e2 := Nat.le_of_ble_eq_true hcd.2
          have hsl := cellsS_rel (hs x) hv
          have hlen := hsl.length
          have hcl := hc.length
          have hsz : (ev x).cells.size = vs.length := by rw [hlen]; simp
          have hst := fill_step off (ev x).cells arr (by rw [hsz]; simp at hcl; omega)
          obtain ⟨arr', h1, h2⟩ := fill_ok (arr := (ev x).cells.zipIdx.foldl (fun cs (c, j) => cs.setIfInBounds (off + j) c) arr) hs hl (by rw [hst]; exact hc.spl hsl off) hf
          refine ⟨arr', ?_, h2⟩
          simp only [List.map_cons, Instr.fill, hpl]
          rw [if_neg]
          · exact h1
          · simp only [Bool.or_eq_true, decide_eq_true_eq, ne_eq, Bool.not_eq_true, not_or]
            simp at hcl
            constructor
            · simpa using by omega
            · omega
      · cases hf
    · cases hp
def xBuild (s : Operand → SV) (key : Nat) (t : TypeId) (ps : List (Nat × Operand)) (d : List (Dec E)) : Option (Res E) := match E.P.info? t with
  | some i => match i.zero, partsS s ps with
    | some z, some pl => match E.P.underlying t with
      | some (.struct fields) => match pureRun E.P (fields.mapM fun f => do pure (f.offset, ← sizeOf f.type)) with
        | some places => match fillS (fun j => places[j]?) (z.cells.toList.map .v) pl with
          | some cs => some ⟨aggS cs, [], key, [], d⟩
          | none => none
        | none => none
      | some (.array _ e) => match E.P.info? e with
        | some i => match fillS (fun j => some (j * i.size, i.size)) (z.cells.toList.map .v) pl with
          | some cs => some ⟨aggS cs, [], key, [], d⟩
          | none => none
        | none => none
      | _ => none
    | _, _ => none
  | none => none
theorem xBuild_ok {s : Operand → SV} {ev : Operand → Value} (hs : ∀ x, rel U μ (s x) (ev x)) {t : TypeId} {ps : Array (Nat × Operand)} {d : List (Dec E)} {R : Res E} (h : xBuild s key t ps.toList d = some R) (hm : Mem S w0 U μ b w) :
    Good S w0 U μ b key R ((Instr.build t (ps.map fun (i, x) => (i, ev x))).run E.P w) := by
  unfold xBuild at h
  split at h
  · rename_i i hi
    split at h
    · rename_i z pl hz hp
      have hzr : (zeroValue t).run E.P w = .ok z w := by simp [zeroValue, typeInfo, hi, hz]
      have hmap : (ps.map fun (p : Nat × Operand) => (p.1, ev p.2)).toList = ps.toList.map fun p => (p.1, ev p.2) := by simp
      split at h
      · rename_i fields hu
        split at h
        · rename_i places hpl
          split at h
          · rename_i cs hf
            simp only [Option.some.injEq] at h
            subst h
            have hr := pureRun_run hpl w
            obtain ⟨arr', h1, h2⟩ := fill_ok hs hp (arr := z.cells) (slots_vals U μ _) hf
            refine good_plain hm (u := .agg arr'.toList.toArray) ?_ (aggS_rel h2)
            unfold Instr.build
            simp only [Sem.run_bind, hzr, Result.andThen_ok, run_underlying hu, hr]
            have h1' : Instr.fill (fun x => places[x]?) z.cells (ps.map fun (p : Nat × Operand) => (p.1, ev p.2)).toList = some arr' := by rw [hmap]; exact h1
            simp [h1]
          · cases h
        · cases h
      · rename_i n e hu
        split at h
        · rename_i i' hi'
          split at h
          · rename_i cs hf
            simp only [Option.some.injEq] at h
            subst h
            obtain ⟨arr', h1, h2⟩ := fill_ok hs hp (arr := z.cells) (slots_vals U μ _) hf
            refine good_plain hm (u := .agg arr'.toList.toArray) ?_ (aggS_rel h2)
            unfold Instr.build
            have h1' : Instr.fill (fun j => some (j * i'.size, i'.size)) z.cells (ps.map fun (p : Nat × Operand) => (p.1, ev p.2)).toList = some arr' := by rw [hmap]; exact h1
            simp [hzr, run_underlying hu, sizeOf, typeInfo, hi', h1]
          · cases h
        · cases h
      · cases h
    · cases h
  · cases h
def xBuildSlice (s : Operand → SV) (key : Nat) (t : TypeId) (n : Nat) (ps : List (Nat × Operand)) (d : List (Dec E)) : Option (Res E) := match E.P.underlying t with
  | some (.slice e) => match E.P.info? e with
    | some i => match i.zero, partsS s ps with
      | some z, some pl => bif Nat.ble (n * i.size) 1000000 then (match fillS (fun j => some (j * i.size, i.size)) (((Array.range (n * i.size)).map (z.cells[· % z.cells.size]!)).toList.map .v) pl with
        | some cs => some ⟨.sb key 0 n n, [(key, .box e cs)], key + 1, [], d⟩
        | none => none) else none
      | _, _ => none
    | none => none
  | _ => none
theorem mem_alloc_box (hm : Mem S w0 U μ b w) (hf : Free U key (key + 1)) (t : TypeId) {cs : List SV} {us : Array Value} (h : Slots U μ cs us.toList) :
    Mem S w0 (Up U key (key + 1)) (upd μ key (.pointer (some ⟨w.heap.size, 0, none⟩))) ((key, .box t cs) :: b) (w.alloc (.cells us t)) := by
  have hkey : ¬ U key := hf key (Nat.le_refl _) (Nat.lt_succ_self _)
  refine hm.new hf (World.grownBy_alloc w _ none) _ _ ⟨w.heap.size, us.toList, by rw [upd_same], fun hS => ?_, slots_mono (fun k hk => .inl hk) (upd_old hkey) _ _ h, by simpa using heap_alloc_new w _⟩ (fun g hg => by simp [blk] at hg; omega)
  have := Nat.lt_of_lt_of_le (hm.dom.1 _ hS) hm.kept.size
  omega
theorem xBuildSlice_ok {s : Operand → SV} {ev : Operand → Value} (hs : ∀ x, rel U μ (s x) (ev x)) {t : TypeId} {n : Nat} {ps : Array (Nat × Operand)} {d : List (Dec E)} {R : Res E} (h : xBuildSlice s key t n ps.toList d = some R) (hf : Free U key R.n) (hm : Mem S w0 U μ b w) :
    Good S w0 U μ b key R ((Instr.buildSlice t n (ps.map fun (i, x) => (i, ev x))).run E.P w) := by
  unfold xBuildSlice at h
  split at h
  · rename_i e hu
    split at h
    · rename_i i hi
      split at h
      · rename_i z pl hz hp
        cases hb : Nat.ble (n * i.size) 1000000 with
        | false => simp [hb] at h
        | true =>
          simp only [hb, cond_true] at h
          have hle := Nat.le_of_ble_eq_true hb
          split at h
          · rename_i cs hfi
            simp only [Option.some.injEq] at h
            subst h
            have hzr : (zeroValue e).run E.P w = .ok z w := by simp [zeroValue, typeInfo, hi, hz]
            have hmap : (ps.map fun (p : Nat × Operand) => (p.1, ev p.2)).toList = ps.toList.map fun p => (p.1, ev p.2) := by simp
            obtain ⟨arr', h1, h2⟩ := fill_ok hs hp (arr := (Array.range (n * i.size)).map (z.cells[· % z.cells.size]!)) (slots_vals U μ _) hfi
            have h1' : Instr.fill (fun j => some (j * i.size, i.size)) ((Array.range (n * i.size)).map (z.cells[· % z.cells.size]!)) (ps.map fun (p : Nat × Operand) => (p.1, ev p.2)).toList = some arr' := by rw [hmap]; exact h1
            have hkey : ¬ U key := hf key (Nat.le_refl _) (Nat.lt_succ_self _)
            have hng : ¬ (n * i.size > 2 ^ 24) := by omega
            refine ⟨.slice (some ⟨w.heap.size, 0, none⟩) n n, w.alloc (.cells arr' e), upd μ key (.pointer (some ⟨w.heap.size, 0, none⟩)), ?_, upd_old hkey, ?_, mem_alloc_box hm hf e h2⟩
            · unfold Instr.buildSlice
              have hrow : (newRow e arr').run E.P w = .ok ⟨w.heap.size, 0, none⟩ (w.alloc (.cells arr' e)) := by simp [newRow, newObj, Sem.run]
              have hgt : ¬ (16777216 < n * i.size) := by omega
              by_cases h0 : n * i.size = 0
              · rw [h0] at h1
                simp only [Array.range_zero', Array.map_empty] at h1
                simp [run_underlying hu, sizeOf, typeInfo, hi, h0, h1, hrow, Array.range_zero']
              · simp [run_underlying hu, sizeOf, typeInfo, hi, h0, hgt, hzr, h1, hrow]
            · unfold rel
              exact ⟨.inr ⟨Nat.le_refl _, Nat.lt_succ_self _⟩, w.heap.size, upd_same, rfl⟩
          · cases h
      · cases h
    · cases h
  · cases h
end
end
end Go.Proofs.YtcneenlcbjicnaaDoorSx
