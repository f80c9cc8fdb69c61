/- The symbolic machine's single steps: appends, rows that are made, literals, strings of bytes. -/
import Derived.Test.YtcneenlcbjicnaaDoorSxd
import Derived.Deep.DeepAppendWide
set_option linter.unusedVariables false
set_option linter.unusedSimpArgs false
namespace Go.Proofs.YtcneenlcbjicnaaDoorSx
open Go.RowKit Go.Proofs.YtcneenlcbjicnaaDoorW.PrintLast Go.Proofs.YtcneenlcbjicnaaDoorW.PrintWords
noncomputable section
/-- Room for n elements of b bytes. -/
def Room (n b : Nat) : Prop := n ≤ maxLen ∧ (n + n / 4 + 192) * b ≤ 281474976710656
section
variable {P : Program} (w : World)
theorem run_append_room_row (t tx ty e : TypeId) (i : TypeInfo) (ht : P.underlying t = some (.slice e)) (hi : P.info? e = some i) (g sLen sCap : Nat) (cur : Array Value) (hg : w.heap[g]? = some (.cells cur e (0, 0)))
    (x : Value) (n : Nat) (news : List Value) (hs : Src P i.size tx x n news w) (hroom : sLen + n ≤ sCap) (hfit : sLen * i.size + news.length ≤ cur.size) :
    (Builtin.append_ #[t, tx] ty #[.slice (some ⟨g, 0, none⟩) sLen sCap, x]).run P w =
      .ok (.slice (some ⟨g, 0, none⟩) (sLen + n) sCap) (w.setRow g (cur.toList.take (sLen * i.size) ++ news ++ cur.toList.drop (sLen * i.size + news.length)).toArray) := by
  have hst := run_storeCells_at P g (sLen * i.size) e news 0 cur w hg (by simpa using hfit) hs.one
  simp only [Nat.add_zero] at hst
  rcases hs.kind with ⟨e', hk⟩ | hk <;> simp [Builtin.append_, run_underlying ht, run_underlying hk, sizeOf, typeInfo, hi, hs.len, hroom, hs.cells, Addr.add_lit, hst]
/-- append onto a row of the call's own, of whatever is appended: what comes of it, and where it lies. -/
theorem run_append_src_at (base : Nat) (t tx ty e : TypeId) (i : TypeInfo) (z : Value) (ht : P.underlying t = some (.slice e)) (hi : P.info? e = some i) (hz : i.zero = some z)
    (hzs : z.cells.size = i.size) (hsz : 0 < i.size) (v : Value) (n : Nat) (xs : List Value) (hown : w.ownsRow base e i.size v n xs) (x : Value) (m : Nat) (news : List Value) (hs : Src P i.size tx x m news w)
    (hroom : Room (n + m) i.bytes) (hbase : base ≤ w.heap.size) :
    ∃ v' w', (Builtin.append_ #[t, tx] ty #[v, x]).run P w = .ok v' w' ∧ w'.ownsRow base e i.size v' (n + m) (xs ++ news) ∧ w.grownBy w' (blk v) ∧ (∀ g, blk v' = some g → blk v = some g ∨ w.heap.size ≤ g) := by
  obtain ⟨h63, hbytes⟩ := hroom
  have hsmall : n + m ≤ 9223372036854775807 := by simp only [maxLen] at h63; omega
  have hlen : (xs ++ news).length = (n + m) * i.size := by rw [List.length_append, hown.1, hs.newsLen, Nat.add_mul]
  have grown : ∀ (old : Nat), old < n + m → ∀ (row : Option Nat),
      (w.drew.alloc (.cells ((xs ++ news).toArray ++ Builtin.zeroCells z.cells (grownCap w (n + m) old e - (n + m))) e)).ownsRow base e i.size
        (.slice (some ⟨w.heap.size, 0, none⟩) (n + m) (grownCap w (n + m) old e)) (n + m) (xs ++ news) ∧
      w.grownBy (w.drew.alloc (.cells ((xs ++ news).toArray ++ Builtin.zeroCells z.cells (grownCap w (n + m) old e - (n + m))) e)) row := by
    intro old ho row
    have hge := grownCap_ge w (n + m) old e
    have hcm : grownCap w (n + m) old e ≤ maxLen := grownCap_le_maxLen w (n + m) old e h63
    refine ⟨⟨hlen, .inr ⟨w.heap.size, _, _, rfl, hbase, heap_alloc_new w.drew _, hge, hcm, ?_, ?_⟩⟩, ⟨rfl, rfl, rfl, by simp, fun k hk _ => heap_alloc_old w.drew _ hk⟩⟩
    · rw [Array.size_append, List.size_toArray, size_zeroCells, hzs, hlen, ← Nat.add_mul]
      congr 1
      omega
    · rw [Array.toList_append, ← hlen]
      exact List.take_left
  rcases hown.2 with ⟨rfl, rfl⟩ | ⟨g, cap, cur, rfl, hbg, hg, hnc, hcm, hcs, htake⟩
  · have hx : xs = [] := List.eq_nil_of_length_eq_zero (by simpa using hown.1)
    subst hx
    by_cases hm : m = 0
    · subst hm
      have hn : news = [] := List.eq_nil_of_length_eq_zero (by simpa using hs.newsLen)
      subst hn
      refine ⟨.slice none 0 0, w, ?_, by simpa using World.ownsRow_nil w base e i.size, ⟨rfl, rfl, rfl, Nat.le_refl _, fun _ _ _ => rfl⟩, fun g hg => by simp [blk] at hg⟩
      have hcells : (Builtin.firstCells i.size 0 x).run P w = .ok #[] w := by simpa using hs.cells
      rcases hs.kind with ⟨e', hk⟩ | hk <;> simp [Builtin.append_, run_underlying ht, run_underlying hk, sizeOf, typeInfo, hi, hs.len, hcells]
    · have hold : (Builtin.firstCells i.size 0 (.slice none 0 0)).run P w.drew = .ok ([] : List Value).toArray w.drew := by simpa using run_firstCells_none (P := P) w.drew i.size 0 0 0
      have hr := run_append_grow_src (P := P) w t tx ty e i z ht hi hz none 0 0 [] hold x m news hs (by omega) (by omega) (growslice_fits_wide (by omega) hbytes)
      have hgr := grown 0 (by omega) (blk (.slice none 0 0))
      simp only [List.nil_append] at hgr hr ⊢
      exact ⟨_, _, hr, hgr.1, hgr.2, fun g' hg' => .inr (by simp [blk] at hg'; omega)⟩
  · by_cases hroom : n + m ≤ cap
    · have hfit : n * i.size + news.length ≤ cur.size := by rw [hs.newsLen, hcs, ← Nat.add_mul]; exact Nat.mul_le_mul_right _ hroom
      have hr := run_append_room_row (P := P) w t tx ty e i ht hi g n cap cur hg x m news hs hroom hfit
      refine ⟨_, _, hr, ⟨hlen, .inr ⟨g, cap, _, rfl, hbg, setRow_heap w g cur _ e _ hg, hroom, hcm, ?_, ?_⟩⟩, ⟨rfl, rfl, rfl, by simp, fun k _ hk => setRow_other w g k _ (fun e => hk (by simp [blk, e]))⟩, fun g' hg' => .inl hg'⟩
      · simp only [List.size_toArray, List.length_append, List.length_take, List.length_drop, Array.length_toList]
        omega
      · rw [htake, ← hlen]
        exact List.take_left
    · have holds : ∀ j u, xs[j]? = some u → w.cell? ((⟨g, 0, none⟩ : Addr).add j) = some u := hown.cells (g := g) rfl
      have hold : (Builtin.firstCells i.size n (.slice (some ⟨g, 0, none⟩) n cap)).run P w.drew = .ok xs.toArray w.drew := run_firstCells_some (P := P) w.drew i.size n ⟨g, 0, none⟩ n cap xs hown.1 (by simpa using holds)
      have hr := run_append_grow_src (P := P) w t tx ty e i z ht hi hz (some ⟨g, 0, none⟩) n cap xs hold x m news hs (by omega) (by omega) (growslice_fits_wide (by omega) hbytes)
      have hgr := grown cap (by omega) (blk (.slice (some ⟨g, 0, none⟩) n cap))
      exact ⟨_, _, hr, hgr.1, hgr.2, fun g' hg' => .inr (by simp [blk] at hg'; omega)⟩
end
section
variable {E : Env} {S : Nat → Prop} {w0 w w' : World} {U : Nat → Prop} {μ : Nat → Value} {b : Tab E} {key : Nat}
/-- What is appended. -/
def srcS (b : Tab E) (e : TypeId) (tx : TypeId) (y : SV) : Option (List (E.fm e).α × List Prop) := match E.P.underlying tx with
  | some (.slice e') => bif Nat.beq e' e then (match viewOf b e y with
    | some V => if h : V.e = e then some (h ▸ V.l, V.c) else none
    | none => none) else none
  | some .string => match y, (E.fm e).str with
    | .v (.string s), some f => some (f s, [])
    | _, _ => none
  | _ => none
theorem srcS_ok {e tx : TypeId} {y : SV} {news : List (E.fm e).α} {c : List Prop} {i : TypeInfo} (h : srcS b e tx y = some (news, c)) (hc : Conj c) (hm : Mem S w0 U μ b w) {uy : Value} (hy : rel U μ y uy) (hsz : i.size = (E.fm e).sz) :
    Src E.P i.size tx uy news.length (cellsF (E.fm e) news) w := by
  unfold srcS at h
  split at h
  · rename_i e' ht
    cases hb : Nat.beq e' e with
    | false => simp [hb] at h
    | true =>
      simp only [hb, cond_true] at h
      split at h
      · rename_i V hv
        split at h
        · rename_i hVe
          simp only [Option.some.injEq, Prod.mk.injEq] at h
          obtain ⟨h1, rfl⟩ := h
          obtain ⟨Ve, Vl, Vc⟩ := V
          simp only at hVe
          subst hVe
          simp only at h1
          subst h1
          rcases view_reads hm hy hv hc with ⟨r1, r2⟩ | ⟨r2, ad, cc, r1⟩ | ⟨g, o, cap, r1, r2, r3, r4⟩
          · simp only at r2
            subst r2
            rw [r1]
            exact Src.ofNil w ht 0
          · simp only at r2
            subst r2
            rw [r1]
            exact Src.ofSlice w ht ad 0 cc [] (by simp) (fun j u hu => by simp at hu) (fun u hu => by cases hu)
          · rw [r1]
            refine Src.ofSlice w ht ⟨g, o, none⟩ _ _ _ (by rw [cellsF_length, hsz]) (fun j u hu => ?_) (cellsF_one _ _)
            rw [addr_add]
            exact r4 j u hu
        · cases h
      · cases h
  · rename_i ht
    split at h
    · rename_i s f hf
      simp only [Option.some.injEq, Prod.mk.injEq] at h
      obtain ⟨rfl, rfl⟩ := h
      have hs := (E.fm e).strOk f hf
      obtain ⟨h1, h2⟩ := hs.2 s
      rw [rel_v.1 hy, h2, cellsF, h1, hsz, hs.1]
      exact Src.ofString w ht s
    · cases h
  · cases h
/-- What is appended to. -/
structure Dst (E : Env) (e : TypeId) where
  l : List (E.fm e).α
  k : Option Nat
  c : List Prop
def dstS (b : Tab E) (e : TypeId) (x : SV) : Option (Dst E e) := match x with
  | .v (.slice none n c) => bif Nat.beq n 0 && Nat.beq c 0 then some ⟨[], none, []⟩ else none
  | .o k => match look b k with
    | some (.own e' l) => if h : e' = e then some ⟨h ▸ l, some k, []⟩ else none
    | _ => none
  | .s k sz lo n => match look b k with
    | some (.own e' l) => if h : e' = e then (bif Nat.beq lo 0 && Nat.beq sz (E.fm e).sz then some ⟨h ▸ l.take n, some k, [n ≤ l.length]⟩ else none) else none
    | _ => none
  | .sb k lo n cap => match look b k with
    | some (.box t cs) => if h : t = e then (bif Nat.beq lo 0 && Nat.ble n cap && Nat.ble cap 1000000 && Nat.beq cs.length (cap * (E.fm e).sz) then (match allV (cs.take (n * (E.fm e).sz)) with
      | some vs => match decL (E.fm e) n vs with
        | some l => some ⟨l, some k, []⟩
        | none => none
      | none => none) else none) else none
    | _ => none
  | _ => none
theorem dstS_ok {e : TypeId} {x : SV} {D : Dst E e} (h : dstS b e x = some D) (hc : Conj D.c) (hm : Mem S w0 U μ b w) {ux : Value} (hx : rel U μ x ux) :
    w.ownsRow 0 e (E.fm e).sz ux D.l.length (cellsF (E.fm e) D.l) ∧ ((D.k = none ∧ blk ux = none) ∨ ∃ k x, D.k = some k ∧ look b k = some x ∧ owning x = true ∧ blk ux = blk (μ k)) := by
  unfold dstS at h
  split at h
  · rename_i n c
    cases hz : (Nat.beq n 0 && Nat.beq c 0) with
    | false => simp [hz] at h
    | true =>
      simp only [hz, cond_true, Option.some.injEq] at h
      subst h
      simp only [Bool.and_eq_true] at hz
      rw [rel_v.1 hx, Nat.eq_of_beq_eq_true hz.1, Nat.eq_of_beq_eq_true hz.2]
      exact ⟨World.ownsRow_nil w 0 e _, .inl ⟨rfl, rfl⟩⟩
  · rename_i k
    split at h
    · rename_i e' l hk
      split at h
      · rename_i he
        subst he
        simp only [Option.some.injEq] at h
        subst h
        unfold rel at hx
        rw [hx.2.1]
        exact ⟨(hm.obj k _ hk).2.1, .inr ⟨k, _, rfl, hk, rfl, rfl⟩⟩
      · cases h
    · cases h
  · rename_i k sz lo n
    split at h
    · rename_i e' l hk
      split at h
      · rename_i he
        subst he
        cases hz : (Nat.beq lo 0 && Nat.beq sz (E.fm e').sz) with
        | false => simp [hz] at h
        | true =>
          simp only [hz, cond_true, Option.some.injEq] at h
          subst h
          simp only [Bool.and_eq_true] at hz
          have e1 := Nat.eq_of_beq_eq_true hz.1
          have e2 := Nat.eq_of_beq_eq_true hz.2
          subst e1
          subst e2
          have hle : n ≤ l.length := hc
          have hln : (l.take n).length = n := by simp; omega
          unfold rel at hx
          obtain ⟨hU, hx⟩ := hx
          have ho := (hm.obj k _ hk).2.1
          rcases hx with ⟨a1, a2, _, a3⟩ | ⟨ad, cc, a1, a2, _, a3⟩ | ⟨g, o, len, cap, o', a1, a2, a3, a4⟩
          · subst a3
            rw [a2]
            refine ⟨by simpa [cellsF] using World.ownsRow_nil w 0 e' _, .inr ⟨k, _, rfl, hk, rfl, by rw [a1]⟩⟩
          · have hl0 : l.length = 0 := by
              rcases ho.2 with ⟨b1, _⟩ | ⟨g', cap', cur, b1, _⟩
              · rw [b1] at a1; cases a1
              · rw [b1] at a1
                simp only [Value.slice.injEq] at a1
                exact a1.2.1
            have hle0 : l = [] := List.eq_nil_of_length_eq_zero hl0
            have e1 : ux = μ k := by rw [a1, a2]
            rw [e1]
            refine ⟨?_, .inr ⟨k, _, rfl, hk, rfl, rfl⟩⟩
            simp only
            rw [hle0] at ho ⊢
            rw [List.take_nil]
            exact ho
          · rcases ho.2 with ⟨b1, _⟩ | ⟨g', cap', cur, b1, b2, b3, b4, b5, b6, b7⟩
            · rw [b1] at a1; cases a1
            · rw [b1] at a1
              cases a1
              have e0 : o' = 0 := by
                rcases a3 with a3 | a3
                · exact absurd rfl a3.2
                · rw [a3]; simp
              subst e0
              rw [a2]
              refine ⟨⟨by rw [cellsF_length], .inr ⟨g, cap, cur, by simp only [Nat.sub_zero]; rw [hln], b2, b3, by simp only; rw [hln]; omega, b5, b6, ?_⟩⟩, .inr ⟨k, _, rfl, hk, rfl, by rw [b1]; rfl⟩⟩
              simp only
              rw [hln, cellsF_take, ← b7, List.take_take]
              congr 1
              rw [Nat.min_eq_left]
              exact Nat.mul_le_mul_right _ hle
      · cases h
    · cases h
  · rename_i k lo n cap
    split at h
    · rename_i t cs hk
      split at h
      · rename_i he
        subst he
        cases hz : (Nat.beq lo 0 && Nat.ble n cap && Nat.ble cap 1000000 && Nat.beq cs.length (cap * (E.fm t).sz)) with
        | false => simp [hz] at h
        | true =>
          simp only [hz, cond_true] at h
          simp only [Bool.and_eq_true] at hz
          have e1 := Nat.eq_of_beq_eq_true hz.1.1.1
          have e2 := Nat.le_of_ble_eq_true hz.1.1.2
          have e3 := Nat.le_of_ble_eq_true hz.1.2
          have e4 := Nat.eq_of_beq_eq_true hz.2
          subst e1
          split at h
          · rename_i vs hv
            split at h
            · rename_i l hd
              simp only [Option.some.injEq] at h
              subst h
              obtain ⟨d1, d2⟩ := decL_ok _ _ _ _ hd
              obtain ⟨g, us, h1, h2, h3, h4⟩ := (hm.obj k _ hk).2
              unfold rel at hx
              obtain ⟨hU, g', h1', hx⟩ := hx
              rw [h1] at h1'
              cases h1'
              have hul := h3.length
              rw [hx]
              refine ⟨⟨by rw [cellsF_length], .inr ⟨g, cap, us.toArray, by simp only; rw [d2], Nat.zero_le _, h4, by simp only; rw [d2]; exact e2, by unfold maxLen; omega, by simp; omega, ?_⟩⟩, .inr ⟨k, _, rfl, hk, rfl, by rw [h1]; rfl⟩⟩
              simp only
              rw [d1, d2, ← allV_slots (h3.take (n * (E.fm t).sz)) hv]
            · cases h
          · cases h
      · cases h
    · cases h
  · cases h
def xAppend (b : Tab E) (key : Nat) (t tx : TypeId) (x y : SV) (d : List (Dec E)) : Option (Res E) := match E.P.underlying t with
  | some (.slice e) => match E.P.info? e with
    | some i => match i.zero with
      | some z => bif Nat.beq i.size (E.fm e).sz && Nat.beq z.cells.size (E.fm e).sz then (match dstS b e x, srcS b e tx y with
        | some D, some (news, c) => match D.k with
          | some k => some ⟨.o key, [(key, .own e (D.l ++ news)), (k, .gone)], key + 1, D.c ++ (c ++ [Room (D.l.length + news.length) i.bytes]), d⟩
          | none => some ⟨.o key, [(key, .own e (D.l ++ news))], key + 1, D.c ++ (c ++ [Room (D.l.length + news.length) i.bytes]), d⟩
        | _, _ => none) else none
      | none => none
    | none => none
  | _ => none
theorem own_slice {e : TypeId} {sz n : Nat} {v : Value} {xs : List Value} (h : w.ownsRow 0 e sz v n xs) : ∃ a n c, v = .slice a n c := by
  rcases h.2 with ⟨rfl, _⟩ | ⟨g, cap, cur, rfl, _⟩ <;> exact ⟨_, _, _, rfl⟩
theorem xAppend_ok {t tx ty : TypeId} {x y : SV} {d : List (Dec E)} {R : Res E} (h : xAppend b key t tx x y d = some R) (hcn : Conj R.c) (hf : Free U key R.n) (hm : Mem S w0 U μ b w) {ux uy : Value} (hx : rel U μ x ux) (hy : rel U μ y uy) :
    Good S w0 U μ b key R ((Builtin.append_ #[t, tx] ty #[ux, uy]).run E.P w) := by
  unfold xAppend at h
  split at h
  · rename_i e ht
    split at h
    · rename_i i hi
      split at h
      · rename_i z hz
        cases hcd : (Nat.beq i.size (E.fm e).sz && Nat.beq z.cells.size (E.fm e).sz) with
        | false => simp [hcd] at h
        | true =>
          simp only [hcd, cond_true] at h
          simp only [Bool.and_eq_true] at hcd
          have e1 := Nat.eq_of_beq_eq_true hcd.1
          have e2 := Nat.eq_of_beq_eq_true hcd.2
          split at h
          · rename_i D news c hD hsrc
            have fin : ∀ (u : Tab E) , R = ⟨.o key, u, key + 1, D.c ++ (c ++ [Room (D.l.length + news.length) i.bytes]), d⟩ → (match D.k with | some k => u = [(key, .own e (D.l ++ news)), (k, .gone)] | none => u = [(key, .own e (D.l ++ news))]) →
                Good S w0 U μ b key R ((Builtin.append_ #[t, tx] ty #[ux, uy]).run E.P w) := by
              intro u hR hu
              subst hR
              have c1 := Conj.app hcn
              have c2 := Conj.app c1.2
              have hroom : Room (D.l.length + news.length) i.bytes := c2.2
              have hS := srcS_ok hsrc c2.1 hm hy e1
              obtain ⟨hown, hk⟩ := dstS_ok hD c1.1 hm hx
              rw [← e1] at hown
              obtain ⟨v', w', r1, r2, r3, r4⟩ := run_append_src_at (P := E.P) w 0 t tx ty e i z ht hi hz (by rw [e2, e1]) (by rw [e1]; exact (E.fm e).pos) ux _ _ hown uy _ _ hS hroom (Nat.zero_le _)
              rw [e1, ← List.length_append, ← cellsF_app] at r2
              have hkey : ¬ U key := hf key (Nat.le_refl _) (Nat.lt_succ_self _)
              have hS' : ∀ g, blk v' = some g → ¬ S g := by
                intro g hg hSg
                have hlt := Nat.lt_of_lt_of_le (hm.dom.1 g hSg) hm.kept.size
                rcases r4 g hg with r4 | r4
                · rcases hk with ⟨_, hk⟩ | ⟨k, x, _, hk1, hk2, hk3⟩
                  · rw [hk] at r4; cases r4
                  · exact ((hm.obj k x hk1).2.lt hk2 (by rw [← hk3]; exact r4)).2 hSg
                · omega
              refine ⟨v', w', upd μ key v', r1, upd_old hkey, ?_, ?_⟩
              · unfold rel
                exact ⟨.inr ⟨Nat.le_refl _, Nat.lt_succ_self _⟩, upd_same.symm, by rw [upd_same]; exact own_slice r2⟩
              · have hh : Holds S w0 (Up U key (key + 1)) (upd μ key v') w' key (.own e (D.l ++ news)) := ⟨by rw [upd_same]; exact r2, by rw [upd_same]; exact hS'⟩
                rcases hk with ⟨hk0, hk⟩ | ⟨k, x, hk0, hk1, hk2, hk3⟩
                · rw [hk0] at hu
                  simp only at hu
                  subst hu
                  rw [hk] at r3
                  refine hm.new hf r3 v' _ hh (fun g hg => ?_)
                  rcases r4 g hg with r4 | r4
                  · rw [hk] at r4; cases r4
                  · exact r4
                · rw [hk0] at hu
                  simp only at hu
                  subst hu
                  rw [hk3] at r3
                  exact hm.pass hf hk1 hk2 r3 v' hh (fun g hg => by rw [← hk3]; exact r4 g hg)
            split at h
            · rename_i k hDk
              simp only [Option.some.injEq] at h
              exact fin _ h.symm (by rw [hDk])
            · rename_i hDk
              simp only [Option.some.injEq] at h
              exact fin _ h.symm (by rw [hDk])
          · cases h
      · cases h
    · cases h
  · cases h
end
end
end Go.Proofs.YtcneenlcbjicnaaDoorSx
