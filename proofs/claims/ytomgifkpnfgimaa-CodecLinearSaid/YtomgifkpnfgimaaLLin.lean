/- CodecLinear, in plain terms: the sum of bytes of which two are flipped together is both sums flipped together. -/
import Derived.Test.YtomgifkpnfgimaaCr
import Derived.Test.YtomgifkpnfgimaaRw
import Derived.Test.YtomgifkpnfgimaaPE
namespace Go.Proofs.YtomgifkpnfgimaaC
open Go.Proofs Go.Proofs.YtomgifkpnfgimaaSx Go.RowKit
set_option maxRecDepth 100000
set_option linter.unusedVariables false
section
variable (l r : List Int)
/-- What the first i of both come to. -/
def zr (i : Nat) : List Int := (List.zipWith xb l r).take i
theorem zip_get {i : Nat} (h1 : i < l.length) (h2 : i < r.length) : zr l r (i + 1) = zr l r i ++ [xb (l.getD i 0) (r.getD i 0)] := by
  unfold zr
  rw [List.take_add_one]
  congr 1
  rw [List.getElem?_zipWith]
  simp [h1, h2, List.getD]
theorem lin_end (hl : Byteish l) (hr : Byteish r) (h1 : l.length < 9223372036854775807) (h2 : r.length < 9223372036854775807) (n : Nat) (hn : n = min l.length r.length) :
    Does cE 18 [(0, .ro 5 (zr l r n) false)] 1 [.o 0] (.v (iu (sumL (zr l r n) 0))) [] 1 ∧ Does cE 18 [(0, .ro 5 (List.take ((n : Int).toNat - Int.toNat 0) (List.drop (Int.toNat 0) l)) false)] 1 [.o 0] (.v (iu (sumL (l.take n) 0))) [] 1 ∧
    Does cE 18 [(0, .ro 5 (List.take ((n : Int).toNat - Int.toNat 0) (List.drop (Int.toNat 0) r)) false)] 1 [.o 0] (.v (iu (sumL (r.take n) 0))) [] 1 ∧
    (sumL (zr l r n) 0 == IntKind.u64.wrap ↑(BitVec.ofInt 64 (sumL (l.take n) 0) ^^^ BitVec.ofInt 64 (sumL (r.take n) 0)).toNat) = true := by
  have e : ∀ x : List Int, List.take ((n : Int).toNat - Int.toNat 0) (List.drop (Int.toNat 0) x) = x.take n := by intro x; simp
  have s2 := Sum_spec (List.take ((n : Int).toNat - Int.toNat 0) (List.drop (Int.toNat 0) l)) (by simp; omega)
  have s3 := Sum_spec (List.take ((n : Int).toNat - Int.toNat 0) (List.drop (Int.toNat 0) r)) (by simp; omega)
  have e2 : sumL (List.take ((n : Int).toNat - Int.toNat 0) (List.drop (Int.toNat 0) l)) 0 = sumL (l.take n) 0 := by rw [e]
  have e3 : sumL (List.take ((n : Int).toNat - Int.toNat 0) (List.drop (Int.toNat 0) r)) 0 = sumL (r.take n) 0 := by rw [e]
  rw [e2] at s2
  rw [e3] at s3
  refine ⟨Sum_spec (zr l r n) (by unfold zr; simp; omega), s2, s3, ?_⟩
  unfold zr
  rw [List.take_zipWith, sum_linear (l.take n) (r.take n) (by simp; omega) (fun x hx => hl x (List.mem_of_mem_take hx)) (fun x hx => hr x (List.mem_of_mem_take hx))]
  simp
theorem lin_loop (hl : Byteish l) (hr : Byteish r) (h1 : l.length ≤ 140737488351232) (h2 : r.length ≤ 140737488351232) (n : Nat) (hn : n = min l.length r.length) : ∀ (k i : Nat), 0 < i → i + k = n → ∀ m,
    Fin cE Try.f5 2 (.v (.bool true)) [(0, .ro 5 l false), (1, .ro 5 r false)] 2 (inK linK (m + k + 1)) ([.o 0, .o 1, .na, .na, .na, .v (it n), .o 2, .v (it i)] ++ List.replicate 37 .na) (lrT l r ++ [(2, .own 5 (zr l r i))]) 3
  | 0, i, hi, hk, m => by
    refine fin_round ?_
    have hin : i = n := by omega
    subst hin
    obtain ⟨s1, s2, s3, s4⟩ := lin_end l r hl hr (by omega) (by omega) i hn
    exact lin2_2 l r _ i (m + 0) i _ _ _ true (by simp) s1 ⟨by omega, by omega, by omega⟩ (by simp; omega) s2 ⟨by omega, by omega, by omega⟩ (by simp; omega) s3 s4 knows_spec
  | k + 1, i, hi, hk, m => by
    refine fin_round ?_
    have hil : i < l.length := by omega
    have hir : i < r.length := by omega
    have ih := lin_loop hl hr h1 h2 n hn k (i + 1) (by omega) (by omega) m
    rw [zip_get l r hil hir] at ih
    have e : IntKind.i64.wrap ((i : Int) + 1) = ((i + 1 : Nat) : Int) := by rw [wrap64 (by omega) (by omega)]; rfl
    have h := lin2_1 l r (zr l r i) i (m + (k + 1)) n (.v (.bool true)) [(0, .ro 5 l false), (1, .ro 5 r false)] 2 (by simp; omega) ⟨by omega, by omega⟩ hil ⟨by omega, by omega⟩ hir (by unfold Room maxLen zr; simp; omega)
    rw [e] at h
    exact h ih
theorem lin_does (hl : Byteish l) (hr : Byteish r) (h1 : l.length ≤ 140737488351232) (h2 : r.length ≤ 140737488351232) : Does cE 5 [(0, .ro 5 l false), (1, .ro 5 r false)] 2 [.o 0, .o 1] (.v (.bool true)) [(0, .ro 5 l false), (1, .ro 5 r false)] 2 := by
  refine does_of_fin (fn := Try.f5) (c := bd Try.f5) rfl (by kernel_rfl) rfl ?_
  have h := lin0_1 l r (.v (.bool true)) [(0, .ro 5 l false), (1, .ro 5 r false)] 2
  refine h ?_
  obtain ⟨n, hn⟩ : ∃ n, n = min l.length r.length := ⟨_, rfl⟩
  have e : (if (r.length : Int) < (l.length : Int) then (r.length : Int) else (l.length : Int)) = (n : Int) := by
    split <;> omega
  rw [e]
  refine fin_loop (0 + n + 1) ?_
  by_cases h0 : n = 0
  · subst h0
    refine fin_round ?_
    obtain ⟨s1, s2, s3, s4⟩ := lin_end l r hl hr (by omega) (by omega) 0 hn
    exact lin1_2 l r 0 (0 + 0) ((0 : Nat) : Int) _ _ _ true (by simp) s1 ⟨by omega, by omega, by omega⟩ (by simp) s2 ⟨by omega, by omega, by omega⟩ (by simp) s3 s4 knows_spec
  · obtain ⟨k, rfl⟩ : ∃ k, n = k + 1 := ⟨n - 1, by omega⟩
    refine fin_round ?_
    have hil : 0 < l.length := by omega
    have hir : 0 < r.length := by omega
    have ih := lin_loop l r hl hr h1 h2 (k + 1) hn k 1 (by omega) (by omega) 0
    rw [zip_get l r hil hir] at ih
    exact lin1_1 l r 0 (0 + (k + 1)) ((k + 1 : Nat) : Int) (.v (.bool true)) [(0, .ro 5 l false), (1, .ro 5 r false)] 2 (by first | (simp; done) | (simp; omega)) ⟨by omega, by omega⟩ hil ⟨by omega, by omega⟩ hir (room_small (by simp)) ih
end
theorem linear_true (a0 : Option Addr) (len0 cap0 : Nat) (z0 : List Int) (a1 : Option Addr) (len1 cap1 : Nat) (z1 : List Int) (W : World) (w0 : IsRow .u8 W a0 len0 cap0 z0) (y0 : len0 * 1 ≤ 140737488351232) (w1 : IsRow .u8 W a1 len1 cap1 z1) (y1 : len1 * 1 ≤ 140737488351232) :
    Calls Try.prog 5 #[.slice a0 len0 cap0, .slice a1 len1 cap1] W fun e w' => e = .returned (.bool true) ∧ Below W.heap.size W w' := by
  obtain ⟨l0, b0⟩ := row_bytes w0
  obtain ⟨l1, b1⟩ := row_bytes w1
  have h := lin_does (z0.take len0) (z1.take len1) b0 b1 (by omega) (by omega)
  refine law_rows [.row a0 len0 cap0 z0, .row a1 len1 cap1 z1] (enters (fn := Try.f5) rfl (by kernel_rfl) rfl) h W ?_
  intro a len cap z hz
  simp only [List.mem_cons, ArgD.row.injEq, List.not_mem_nil, or_false] at hz
  rcases hz with ⟨rfl, rfl, rfl, rfl⟩ | ⟨rfl, rfl, rfl, rfl⟩
  · exact w0
  · exact w1
end Go.Proofs.YtomgifkpnfgimaaC
