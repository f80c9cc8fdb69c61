import Derived.Test.YtcneenlcbjicnaaDoorSL
import Derived.Shelf.Strings.Search2
import Derived.Shelf.Strconv.Itoa2
import Derived.Test.YtcneenlcbjicnaaDoorPC0
import Derived.Lib.Agree
import Derived.KernelRfl
import Derived.Shelf.LaysM
import Derived.Shelf.Strconv.Itoa1
import Derived.Lib.Walk
import Derived.Lib.ItoaWalk
import Derived.Lib.ItoaMem
import Derived.Lib.AppendIntMem
import Derived.Lib.BufferKept
import Derived.Lib.Slices
import Derived.Lib.OwnKind
import Derived.Lib.Hide
import Derived.OwnWalk
import Derived.WalkKit
import Derived.BigCall
import Derived.BigGuard
import Derived.CellFam
import Derived.Test.YtcneenlcbjicnaaDoorSI
namespace Go.Proofs
open Go.Shelf Go.RowKit
theorem Tryd.extra : Builder.Extra Tryd.prog Tryd.laysRepeat_ren where
  sizeBuilder := by kernel_rfl
  liesBuilder := by kernel_rfl
  t5 := Tryd.laysRepeat.t5
  a5 := Tryd.laysRepeat.a5
  z5 := Tryd.laysRepeat.z5
  v5 := Tryd.laysRepeat.v5
  infoByte := by kernel_rfl
  cellsByte := by kernel_rfl
  sizeByte := by kernel_rfl
  neB5 := by decide
end Go.Proofs
namespace Go.Proofs
open Go.Shelf Go.RowKit Go.Sort Go.Lib
theorem Tryd.small_does (i : Nat) (h : i < 100) (w : World) : Calls Tryd.prog 82 #[.int .i64 i] w fun e w' => e = .returned (.string ⟨(Lib.decDigits i).toArray⟩) ∧ w' = w :=
  Any.internal_strconv_small Tryd.laysSmall i h w
theorem Tryd.digits_does (u : Nat) (h1 : 1 ≤ u) (h2 : u < 18446744073709551616) (w : World)
    (htab : Lib.TabIs Tryd.prog w "internal/strconv.uint64pow10" .u64 Lib.pow10Tab) :
    Calls Tryd.prog 83 #[.int .u64 u] w fun e w' => e = .returned (.int .i64 (Lib.nDigits u)) ∧ w' = w :=
  Any.internal_strconv_numDigits Tryd.laysDigits u h1 h2 w htab
set_option maxHeartbeats 6400000 in
set_option maxRecDepth 100000 in
theorem Tryd.fmt_small (i : Nat) (hi : i < 100) (w : World) : Calls Tryd.prog 71 #[.int .u64 i, .int .i64 10] w fun e w' => e = .returned (.string ⟨(Lib.decDigits i).toArray⟩) ∧ w' = w := by
  go_enter Tryd.func71, Tryd.ntmps71
  go_wp2_with (go_at_call 82; refine (Tryd.small_does i hi _).mono ?_; rintro e w' ⟨rfl, rfl⟩)
  go_ret
  exact ⟨rfl, rfl⟩
set_option maxHeartbeats 12800000 in
set_option maxRecDepth 100000 in
theorem Tryd.fmt_big (u : Nat) (hu : 100 ≤ u) (hu64 : u < 18446744073709551616) (w : World)
    (htab : Lib.TabIs Tryd.prog w "internal/strconv.uint64pow10" .u64 Lib.pow10Tab) :
    Calls Tryd.prog 71 #[.int .u64 u, .int .i64 10] w fun e w' => e = .returned (.string ⟨(Lib.decDigits u).toArray⟩) ∧ ∃ k os, w' = grow (w.drewN k) os := by
  have hu1 : 1 ≤ u := by omega
  have hnd20 : Lib.nDigits u ≤ 20 := by have := Lib.numDigits_eq u hu1 hu64; split at this <;> omega
  have hb : Lib.nDigits u ≤ 24 := by omega
  have hsl : ∀ W, (Instr.sliceAt 110 (.pointer (some ⟨w.heap.size, 0, none⟩)) none (some (.int .i64 (Lib.nDigits u : Int))) none).run Tryd.prog W = .ok (.slice (some ⟨w.heap.size, 0, none⟩) (Lib.nDigits u) 24) W := fun W => by
    rw [run_sliceAt_array_h W 110 ⟨w.heap.size, 0, none⟩ (by kernel_rfl) .i64 (Lib.nDigits u : Int) (by omega) (by rw [show Tryd.prog.arrayLen 110 = 24 by kernel_rfl]; omega)]
    rw [show Tryd.prog.arrayLen 110 = 24 by kernel_rfl]
    go_simp
  have hH0 := Lib.holds_zero0 w 110 (Lib.nDigits u) (by omega)
  have hfmt : Calls Tryd.prog 84 _ _ _ := Any.internal_strconv_formatBase10 Tryd.laysFmt w.heap.size 0 24 u (Array.replicate (Lib.nDigits u) 0) (w.alloc (.cells Lib.zeros24 110)) hH0 (by rw [Array.size_replicate]; exact Lib.lt_pow_nDigits u) hu64 (by rw [Array.size_replicate]; omega)
  rw [Array.size_replicate] at hfmt
  have HH0 := Lib.hid hH0
  have iu : (100 : Int) ≤ (u : Int) := by omega
  clear hH0
  go_enter Tryd.func71, Tryd.ntmps71
  go_wp2_with (first
    | (go_at_call 83; refine (Tryd.digits_does u hu1 hu64 _ (Lib.tabIs_alloc htab _)).mono ?_; rintro e w' ⟨rfl, rfl⟩))
  go_at_call 84
  refine hfmt.mono ?_
  rintro e w' ⟨rfl, k, v', dk, rfl, hF⟩
  have hcv : (convert 96 9 (.slice (some ⟨w.heap.size, 0, none⟩) (nDigits u) 24)).run Tryd.prog ((putRow (fun (b : UInt8) => Value.int .u8 (b.toNat : Int)) (w.alloc (.cells zeros24 110)) w.heap.size 0 dk).drewN k) = .ok (.string ⟨(decDigits u).toArray⟩) ((putRow (fun (b : UInt8) => Value.int .u8 (b.toNat : Int)) (w.alloc (.cells zeros24 110)) w.heap.size 0 dk).drewN k) := by
    have h := run_convert_bytes_back (P := Tryd.prog) ((putRow (fun (b : UInt8) => Value.int .u8 (b.toNat : Int)) (w.alloc (.cells zeros24 110)) w.heap.size 0 dk).drewN k) 96 9 5 ⟨w.heap.size, 0, none⟩ 24 (decDigits u) (by kernel_rfl) (by kernel_rfl) (by kernel_rfl) (fun j hj => by
      rw [row_is_numeral hF j hj, add_plain, World.cell?_drewN]
      exact cell?_putRow (fun (b : UInt8) => Value.int .u8 (b.toNat : Int)) _ w.heap.size 0 _ dk HH0.out (by rw [hF.size, Array.size_replicate]) j (by rw [hF.size]; rw [decDigits_length] at hj; exact hj))
    rw [decDigits_length] at h
    exact h
  go_wp2
  go_ret
  obtain ⟨os, eo⟩ := fin_at w (.cells zeros24 110) dk k 0
  exact ⟨rfl, k, os, eo⟩
end Go.Proofs
/- A callee off the shelf, in the symbolic machine's words. -/
namespace Go.Proofs.YtcneenlcbjicnaaDoorC
open Go.Proofs Go.Proofs.YtcneenlcbjicnaaDoorSx Go.RowKit
set_option maxRecDepth 100000
theorem slots_back (U : Nat → Prop) (μ : Nat → Value) : ∀ (l us : List Value), Slots U μ (l.map .v) us → us = l
  | [], us, h => h
  | _ :: r, us, h => by
    obtain ⟨u, t, rfl, e1, e2⟩ := h
    rw [rel_v.1 e1, slots_back U μ r t e2]
theorem does_lib {E : Env} {g : Nat} {l : List Value} {v : Value} (he : YtcneenlcbjicnaaDoorSx.Enters E g)
    (h : ∀ w, GlobIn E w → Calls E.P g l.toArray w fun e w' => e = .returned v ∧ Below w.heap.size w w') : Does E g [] 0 (l.map .v) (.v v) [] 0 := by
  intro S w μ vs hm hs
  have e := slots_back _ _ _ _ hs
  subst e
  refine .inr ⟨he _ _, (h w fun g vs hv => (hm.dom.2 g vs hv).2).mono fun e w' hh => ?_⟩
  obtain ⟨e1, e2⟩ := hh
  exact ⟨v, μ, e1, fun _ _ => rfl, rel_v.2 rfl, ⟨fun k x h => (nomatch (show (none : Option _) = some x from h)), fun k k' x x' g h => (nomatch (show (none : Option _) = some x from h)), ⟨e2.os, e2.tape, e2.output, e2.size, fun k hk => e2.block k (hm.dom.1 k hk)⟩, hm.dom⟩⟩
end Go.Proofs.YtcneenlcbjicnaaDoorC
