/- The program's and the reference's printing of a decimal come to the same text. -/
import Derived.Test.YtcneenlcbjicnaaDoorPT1
import Derived.Test.YtcneenlcbjicnaaDoorPE2
import Derived.Test.YtcneenlcbjicnaaDoorTA
import Derived.Test.YtcneenlcbjicnaaDoorSK
import Derived.Test.YtcneenlcbjicnaaDoorGb
namespace Go.Proofs.YtcneenlcbjicnaaDoorC
open Go.Proofs Go.Proofs.YtcneenlcbjicnaaDoorSx Go.RowKit Go.Sort Go.Lib
set_option maxRecDepth 100000
set_option linter.unusedVariables false
set_option linter.unusedSimpArgs false
/-! ### Strings as lists of bytes -/
def oL (l : List UInt8) : ByteArray := ⟨l.toArray⟩
theorem oL_size (l : List UInt8) : (oL l).size = l.length := by simp [oL, ByteArray.size]
theorem oL_app (a b : List UInt8) : oL a ++ oL b = oL (a ++ b) := by
  apply ByteArray.ext
  simp [oL, ByteArray.data_append]
theorem oL_ext (l : List UInt8) (i j : Nat) : (oL l).extract i j = oL ((l.drop i).take (j - i)) := by
  apply ByteArray.ext
  simp [oL, ByteArray.data_extract, List.extract_eq_take_drop]
theorem oL_data (l : List UInt8) : (oL l).data.toList = l := by simp [oL]
theorem oL_of (s : ByteArray) : s = oL s.data.toList := by
  apply ByteArray.ext
  simp [oL]
theorem bytesOf_one (x : Int) : bytesOf [x] = oL [UInt8.ofNat x.toNat] := rfl
theorem below_more (w : World) (k : Nat) (os : Array Obj) : Below w.heap.size w (grow (w.drewN k) os) :=
  ⟨rfl, rfl, rfl, by simp [grow], fun i hi => by
    show (w.heap ++ os)[i]? = w.heap[i]?
    rw [Array.getElem?_append_left hi]⟩
/-! ### Numerals, zeros -/
theorem fmt71_does (u : Nat) (hu : u < 18446744073709551616) : Does cE 71 [] 0 [.v (iu u), .v (it 10)] (.v (st (oL (decDigits u)))) [] 0 := by
  refine does_lib (l := [iu u, it 10]) (enters (fn := Tryd.f71) rfl (by kernel_rfl) rfl) (fun w hg => ?_)
  by_cases h : u < 100
  · exact (Tryd.fmt_small u h w).mono fun e w' hh => ⟨hh.1, hh.2 ▸ Below.refl _ _⟩
  · refine (Tryd.fmt_big u (by omega) hu w (tens_in hg)).mono fun e w' hh => ?_
    obtain ⟨e1, k, os, rfl⟩ := hh
    exact ⟨e1, below_more w k os⟩
theorem fmt59_does (u : Nat) (hu : u < 18446744073709551616) : Does cE 59 [] 0 [.v (iu u), .v (it 10)] (.v (st (oL (decDigits u)))) [] 0 := fmtu_1 _ _ (fmt71_does u hu)
theorem rep_48 : ∀ c : Nat, repeatL [48] c = List.replicate c 48
  | 0 => rfl
  | c + 1 => by
    rw [repeatL, rep_48 c]
    rfl
theorem rep60_does (c : Nat) (hc : c ≤ 100) : Does cE 60 [] 0 [.v (st (oL [48])), .v (it c)] (.v (st (oL (List.replicate c 48)))) [] 0 := by
  refine does_lib (l := [st (oL [48]), it c]) (enters (fn := Tryd.f60) rfl (by kernel_rfl) rfl) (fun w hg => ?_)
  refine (Any.strings_Repeat Tryd.laysRepeat Tryd.extra (oL [48]) c w (by omega) (by rw [oL_size]; simp; omega)).mono fun e w' hh => ?_
  rw [oL_data, rep_48] at hh
  exact hh
theorem nd_le {u : Nat} (hu : u < 18446744073709551616) : (decDigits u).length ≤ 20 := by
  rw [decDigits_length]
  by_cases h : 1 ≤ u
  · have := numDigits_eq u h hu
    split at this <;> omega
  · have : u = 0 := by omega
    subst this
    rw [nDigits_small (by decide)]
    omega
theorem pright_does (u x : Int) : Does cE 32 [] 0 [.v (dc u x)] (.v (.bool (decide (sc6 x)))) [] 0 := by
  have h := scales_does [x] (by simp)
  have e : [x].all inS = decide (sc6 x) := by simp [sc6]
  rw [e] at h
  exact prt_1 u x _ h
/-! ### The program's Print -/
theorem dot_slices (s : List UInt8) (sc : Int) (h : 0 < sc) (hl : sc.toNat ≤ s.length) (h2 : s.length < 1000) : 
    (oL s).extract (Int.toNat 0) (IntKind.i64.wrap (((oL s).size : Int) - sc)).toNat ++ (ByteArray.mk #[46]) ++ (oL s).extract (IntKind.i64.wrap (((oL s).size : Int) - sc)).toNat ((((oL s).size : Nat) : Int)).toNat = oL (dotL s sc) := by
  have e : (IntKind.i64.wrap (((oL s).size : Int) - sc)).toNat = s.length - sc.toNat := by
    rw [oL_size, wrap64 (by omega) (by omega)]
    omega
  have e1 : (Int.toNat 0) = 0 := rfl
  have e2 : ((((oL s).size : Nat) : Int)).toNat = s.length := by rw [oL_size]; omega
  have e3 : ByteArray.mk #[46] = oL [46] := rfl
  rw [e, e1, e2, e3, oL_ext, oL_ext, oL_app, oL_app]
  unfold dotL
  rw [if_neg (by omega)]
  congr 1
  have e4 : s.length - (s.length - sc.toNat) = (s.drop (s.length - sc.toNat)).length := by rw [List.length_drop]
  rw [e4, List.take_length]
  simp
theorem print_does (u sc : Int) (hu : I64 u) : Does cE 39 [] 0 [.v (dc u sc)] (.v (st (oL (printL u sc)))) [] 0 := by
  have hr := pright_does u sc
  by_cases hs : sc6 sc
  · have e0 : decide (sc6 sc) = true := by simpa using hs
    rw [e0] at hr
    have hof := pof_does hu
    have ha := ab_spec u
    have hn : u.natAbs < 18446744073709551616 := by omega
    have hf := fmt59_does u.natAbs hn
    have hd := nd_le hn
    have hd0 : 0 < (decDigits u.natAbs).length := by
      have := dec_ne u.natAbs
      cases h : decDigits u.natAbs with
      | nil => exact (this h).elim
      | cons a l => simp
    have eab : (ab u % 18446744073709551616) = ((u.natAbs : Nat) : Int) := by unfold ab; omega
    unfold Bv at hof
    rw [eab] at hof
    have hrep := rep60_does (sc.toNat + 1 - (decDigits u.natAbs).length) (by omega)
    have eif : (((sc.toNat + 1 - (decDigits u.natAbs).length : Nat)) : Int) = (if IntKind.i64.wrap (IntKind.i64.wrap (sc + 1) - ((oL (decDigits u.natAbs)).size : Int)) > 0 then IntKind.i64.wrap (IntKind.i64.wrap (sc + 1) - ((oL (decDigits u.natAbs)).size : Int)) else 0) := by
      rw [oL_size, wrap64 (n := sc + 1) (by omega) (by omega), wrap64 (by omega) (by omega)]
      split <;> omega
    rw [eif] at hrep
    have epad : oL (List.replicate (sc.toNat + 1 - (decDigits u.natAbs).length) 48) ++ oL (decDigits u.natAbs) = oL (padL u sc) := by rw [oL_app]; rfl
    have hpl := pad_len u sc
    have hsz : (oL (List.replicate (sc.toNat + 1 - (decDigits u.natAbs).length) 48)).size + (oL (decDigits u.natAbs)).size ≤ 9223372036854775807 := by
      rw [oL_size, oL_size, List.length_replicate]
      omega
    have hdl : (dotL (padL u sc) sc).length ≤ 1000 := by
      unfold dotL
      split
      · omega
      · rw [List.length_append, List.length_cons, List.length_take, List.length_drop]
        omega
    have e45 : ByteArray.mk #[45] = oL [45] := rfl
    have hp : printL u sc = if u < 0 then 45 :: dotL (padL u sc) sc else dotL (padL u sc) sc := by
      unfold printL
      rw [if_pos hs]
    rw [hp]
    by_cases hz : sc > 0
    · have hds := dot_slices (padL u sc) sc hz (by omega) (by omega)
      have hw : IntKind.i64.wrap (((oL (padL u sc)).size : Int) - sc) = (padL u sc).length - sc := by
        rw [oL_size, wrap64 (by omega) (by omega)]
      have b7 : (0 : Int) ≤ 0 ∧ (0 : Int) ≤ IntKind.i64.wrap (((oL (padL u sc)).size : Int) - sc) ∧ IntKind.i64.wrap (((oL (padL u sc)).size : Int) - sc) ≤ ((oL (padL u sc)).size : Int) := by
        rw [hw, oL_size]
        omega
      have b9 : (0 : Int) ≤ IntKind.i64.wrap (((oL (padL u sc)).size : Int) - sc) ∧ IntKind.i64.wrap (((oL (padL u sc)).size : Int) - sc) ≤ ((oL (padL u sc)).size : Int) ∧ ((oL (padL u sc)).size : Int) ≤ ((oL (padL u sc)).size : Int) := by
        rw [hw, oL_size]
        omega
      have e46 : ByteArray.mk #[46] = oL [46] := rfl
      have b8 : ((oL (padL u sc)).extract (Int.toNat 0) (IntKind.i64.wrap (((oL (padL u sc)).size : Int) - sc)).toNat).size + (ByteArray.mk #[46]).size ≤ 9223372036854775807 := by
        simp only [e46, oL_ext, oL_app, oL_size, List.length_append, List.length_take, List.length_drop, List.length_cons, List.length_nil]
        omega
      have b10 : ((oL (padL u sc)).extract (Int.toNat 0) (IntKind.i64.wrap (((oL (padL u sc)).size : Int) - sc)).toNat ++ (ByteArray.mk #[46])).size + ((oL (padL u sc)).extract (IntKind.i64.wrap (((oL (padL u sc)).size : Int) - sc)).toNat ((((oL (padL u sc)).size : Nat) : Int)).toNat).size ≤ 9223372036854775807 := by
        simp only [e46, oL_ext, oL_app, oL_size, List.length_append, List.length_take, List.length_drop, List.length_cons, List.length_nil]
        omega
      rw [← epad] at b7 b8 b9 b10 hds
      by_cases hneg : u < 0
      · have hng : ng u = true := by simpa using hneg
        rw [if_pos hneg]
        have h := prn_2 (h0 := hr) (h1 := rfl) (h2 := hof) (h3 := hf) (h4 := hrep) (h5 := hsz) (h6 := by simpa using hz) (h7 := b7) (h8 := b8) (h9 := b9) (h10 := b10) (h11 := hng) (h12 := by
          rw [hds, e45, oL_size, oL_size, List.length_cons, List.length_nil]
          omega)
        rw [hds, e45, oL_app] at h
        exact h
      · have hng : ng u = false := by simpa using hneg
        rw [if_neg hneg]
        have h := prn_3 (h0 := hr) (h1 := rfl) (h2 := hof) (h3 := hf) (h4 := hrep) (h5 := hsz) (h6 := by simpa using hz) (h7 := b7) (h8 := b8) (h9 := b9) (h10 := b10) (h11 := hng)
        rw [hds] at h
        exact h
    · have ed : dotL (padL u sc) sc = padL u sc := by
        unfold dotL
        rw [if_pos (by omega)]
      rw [ed]
      by_cases hneg : u < 0
      · have hng : ng u = true := by simpa using hneg
        rw [if_pos hneg]
        have h := prn_4 (h0 := hr) (h1 := rfl) (h2 := hof) (h3 := hf) (h4 := hrep) (h5 := hsz) (h6 := by simpa using hz) (h7 := hng) (h8 := by
          rw [epad, e45, oL_size, oL_size, List.length_cons, List.length_nil]
          omega)
        rw [epad, e45, oL_app] at h
        exact h
      · have hng : ng u = false := by simpa using hneg
        rw [if_neg hneg]
        have h := prn_5 (h0 := hr) (h1 := rfl) (h2 := hof) (h3 := hf) (h4 := hrep) (h5 := hsz) (h6 := by simpa using hz) (h7 := hng)
        rw [epad] at h
        exact h
  · have e0 : decide (sc6 sc) = false := by simpa using hs
    rw [e0] at hr
    have : printL u sc = [] := by
      unfold printL
      rw [if_neg hs]
    rw [this]
    exact prn_1 (h0 := hr) (h1 := rfl)
/-! ### The reference's Print -/
theorem digit_eq (d : Nat) (h : d < 10) : bytesOf [IntKind.u8.wrap (IntKind.u64.wrap (48 + (d : Int)))] = oL [UInt8.ofNat (48 + d)] := by
  have e : IntKind.u8.wrap (IntKind.u64.wrap (48 + (d : Int))) = ((48 + d : Nat) : Int) := by
    rw [wrU (by omega) (by omega)]
    simp [IntKind.wrap, IntKind.bits, IntKind.signed]
    omega
  rw [e]
  rfl
theorem dg_loop : ∀ (f u : Nat) (t : List UInt8), u < 10 ^ (f + 1) → u < 18446744073709551616 → t.length + f ≤ 100 → Fin cE Tryd.f61 0 (.v (st (oL (decDigits u ++ t)))) [] 0 (bodyK dgK f) ([.v (iu u), .na, .na, .v (st (oL t))] ++ List.replicate 19 .na) [] 0 := by
  intro f
  induction f with
  | zero =>
    intro u t h hu ht
    have h9 : u < 10 := by simpa using h
    have e := digit_eq u h9
    have hh := dgb_2 (u : Int) (oL t) 0 (by simp; omega) (by rw [e, oL_size, oL_size]; simp; omega)
    rw [e, oL_app, ← dec_small h9] at hh
    exact hh
  | succ f ih =>
    intro u t h hu ht
    by_cases h9 : u < 10
    · have e := digit_eq u h9
      have hh := dgb_2 (u : Int) (oL t) (f + 1) (by simp; omega) (by rw [e, oL_size, oL_size]; simp; omega)
      rw [e, oL_app, ← dec_small h9] at hh
      exact hh
    · have e := digit_eq (u % 10) (Nat.mod_lt _ (by decide))
      have em : ((u : Int).tmod 10) = ((u % 10 : Nat) : Int) := by rw [Int.tmod_eq_emod_of_nonneg (by omega)]; omega
      have ed : IntKind.u64.wrap ((u : Int).tdiv 10) = ((u / 10 : Nat) : Int) := by rw [Int.tdiv_eq_ediv_of_nonneg (by omega), wrU (by omega) (by omega)]; omega
      have hp : u / 10 < 10 ^ (f + 1) := by
        rw [Nat.pow_succ] at h
        omega
      have hi := ih (u / 10) (UInt8.ofNat (48 + u % 10) :: t) hp (by omega) (by simp; omega)
      have hh := dgb_1 (u : Int) (oL t) (f + 1) (.v (st (oL (decDigits u ++ t)))) [] 0 (by simp; omega) (by rw [em, e, oL_size, oL_size]; simp; omega)
      rw [em, e, ed, oL_app] at hh
      refine hh (fin_round ?_)
      rw [dec_big h9]
      simpa using hi
theorem digits_does (u : Nat) (hu : u < 18446744073709551616) : Does cE 61 [] 0 [.v (iu u)] (.v (st (oL (decDigits u)))) [] 0 := by
  refine does_of_fin (fn := Tryd.f61) (c := bd Tryd.f61) rfl (by kernel_rfl) rfl ?_
  refine dga_1 (u : Int) _ _ _ ?_
  refine fin_loop (19 + 1) (fin_round ?_)
  have h := dg_loop 19 u [] (by omega) hu (by simp)
  rw [List.append_nil] at h
  exact h
theorem rp_loop (u sc : Int) (hs : sc6 sc) (sg : List UInt8) (hg : sg.length ≤ 1) : ∀ (f : Nat) (t : List UInt8), sc.toNat + 1 ≤ t.length + f → t.length ≤ 100 → 
    Fin cE Tryd.f40 0 (.v (st (oL (sg ++ dotL (List.replicate (sc.toNat + 1 - t.length) 48 ++ t) sc)))) [] 0 (bodyK rpK f) ([.na, .p 0 0, .v (st ByteArray.empty), .na, .v (st (oL sg)), .v (st (oL t))] ++ List.replicate 44 .na) [(0, .box 23 [.v (it u), .v (it sc)])] 1 := by
  intro f
  have done : ∀ (f : Nat) (t : List UInt8), sc.toNat + 1 ≤ t.length → t.length ≤ 100 → Fin cE Tryd.f40 0 (.v (st (oL (sg ++ dotL (List.replicate (sc.toNat + 1 - t.length) 48 ++ t) sc)))) [] 0 (bodyK rpK f) ([.na, .p 0 0, .v (st ByteArray.empty), .na, .v (st (oL sg)), .v (st (oL t))] ++ List.replicate 44 .na) [(0, .box 23 [.v (it u), .v (it sc)])] 1 := by
    intro f t h1 h2
    have e0 : sc.toNat + 1 - t.length = 0 := by omega
    rw [e0]
    simp only [List.replicate_zero, List.nil_append]
    by_cases hz : sc = 0
    · have hh := rpb_2 u sc (oL t) (oL sg) f (by rw [oL_size]; simp; omega) (by simpa using hz) (by rw [oL_size, oL_size]; omega)
      rw [oL_app] at hh
      unfold dotL
      rw [if_pos hz]
      exact hh
    · have hds := dot_slices t sc (by omega) (by omega) (by omega)
      have hw : IntKind.i64.wrap (((oL t).size : Int) - sc) = t.length - sc := by
        rw [oL_size, wrap64 (by omega) (by omega)]
      have e46 : ByteArray.mk #[46] = oL [46] := rfl
      have hh := rpb_3 u sc (oL t) (oL sg) f (by rw [oL_size]; simp; omega) (by simpa using hz) (by rw [hw, oL_size]; omega) (by
        simp only [oL_ext, oL_app, oL_size, List.length_append, List.length_take, List.length_drop, List.length_cons, List.length_nil]
        omega) (by
        simp only [e46, oL_ext, oL_app, oL_size, List.length_append, List.length_take, List.length_drop, List.length_cons, List.length_nil]
        omega) (by rw [hw, oL_size]; omega) (by
        simp only [e46, oL_ext, oL_app, oL_size, List.length_append, List.length_take, List.length_drop, List.length_cons, List.length_nil]
        omega)
      have ea : oL sg ++ (oL t).extract (Int.toNat 0) (IntKind.i64.wrap (((oL t).size : Int) - sc)).toNat ++ (ByteArray.mk #[46]) ++ (oL t).extract (IntKind.i64.wrap (((oL t).size : Int) - sc)).toNat ((((oL t).size : Nat) : Int)).toNat = oL (sg ++ dotL t sc) := by
        rw [← oL_app, ← hds, ByteArray.append_assoc, ByteArray.append_assoc, ByteArray.append_assoc]
      rw [ea] at hh
      exact hh
  induction f with
  | zero =>
    intro t h1 h2
    exact done 0 t (by omega) h2
  | succ f ih =>
    intro t h1 h2
    by_cases hl : sc.toNat + 1 ≤ t.length
    · exact done (f + 1) t hl h2
    · have e48 : ByteArray.mk #[48] = oL [48] := rfl
      have hh := rpb_1 u sc (oL t) (oL sg) (f + 1) (.v (st (oL (sg ++ dotL (List.replicate (sc.toNat + 1 - t.length) 48 ++ t) sc)))) [] 0 (by rw [oL_size]; simp; omega) (by rw [e48, oL_size, oL_size]; simp; omega)
      rw [e48, oL_app] at hh
      refine hh (fin_round ?_)
      have hi := ih (48 :: t) (by simp; omega) (by simp; omega)
      have er : List.replicate (sc.toNat + 1 - (48 :: t).length) 48 ++ 48 :: t = List.replicate (sc.toNat + 1 - t.length) 48 ++ t := by
        have : sc.toNat + 1 - t.length = sc.toNat + 1 - (48 :: t).length + 1 := by simp; omega
        rw [this, List.replicate_succ']
        simp
      rw [er] at hi
      exact hi
theorem rprint_does (u sc : Int) (hu : I64 u) : Does cE 40 [] 0 [.v (dc u sc)] (.v (st (oL (printL u sc)))) [] 0 := by
  refine does_of_fin (fn := Tryd.f40) (c := bd Tryd.f40) rfl (by kernel_rfl) rfl ?_
  have hr := rright_does u sc
  by_cases hs : sc6 sc
  · have e0 : decide (sc6 sc) = true := by simpa using hs
    rw [e0] at hr
    have hn : u.natAbs < 18446744073709551616 := by have := ab_spec u; unfold ab at this; omega
    have hd := digits_does u.natAbs hn
    have hl := nd_le hn
    have hp : printL u sc = (if u < 0 then [45] else []) ++ dotL (padL u sc) sc := by
      unfold printL
      rw [if_pos hs]
      split <;> rfl
    rw [hp]
    by_cases hneg : u < 0
    · rw [if_pos hneg]
      have ew : IntKind.u64.wrap (0 - IntKind.u64.wrap u) = ((u.natAbs : Nat) : Int) := by
        rw [wrapU, wrapU]
        omega
      refine rpa_2 u sc true (oL (decDigits u.natAbs)) _ _ _ hr rfl (by simpa using hneg) (by rw [ew]; exact hd) ?_
      exact fin_loop (7 + 1) (fin_round (rp_loop u sc hs [45] (by simp) 7 (decDigits u.natAbs) (by omega) (by omega)))
    · rw [if_neg hneg]
      have ew : IntKind.u64.wrap u = ((u.natAbs : Nat) : Int) := by
        rw [wrapU]
        omega
      refine rpa_3 u sc true (oL (decDigits u.natAbs)) _ _ _ hr rfl (by simpa using hneg) (by rw [ew]; exact hd) ?_
      exact fin_loop (7 + 1) (fin_round (rp_loop u sc hs [] (by simp) 7 (decDigits u.natAbs) (by omega) (by omega)))
  · have e0 : decide (sc6 sc) = false := by simpa using hs
    rw [e0] at hr
    have : printL u sc = [] := by
      unfold printL
      rw [if_neg hs]
    rw [this]
    exact rpa_1 u sc false hr rfl
end Go.Proofs.YtcneenlcbjicnaaDoorC
