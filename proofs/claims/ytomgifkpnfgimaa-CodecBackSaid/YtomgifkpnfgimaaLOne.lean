/- CodecOne, in plain terms: numbers' bytes are the same just if the numbers are; there are at most ten. -/
import Derived.Test.YtomgifkpnfgimaaSB
namespace Go.Proofs.YtomgifkpnfgimaaC
open Go.Proofs Go.Proofs.YtomgifkpnfgimaaSx Go.RowKit
set_option maxRecDepth 100000
set_option linter.unusedVariables false
abbrev toB (l : List Int) : List UInt8 := l.map fun n => UInt8.ofNat n.toNat
theorem bytes_from : ∀ (l : List Int) (s : ByteArray), (l.foldl (fun r n => r.push (UInt8.ofNat n.toNat)) s).data.toList = s.data.toList ++ toB l
  | [], s => by simp
  | n :: l, s => by
    simp only [List.foldl_cons]
    rw [bytes_from l]
    simp [ByteArray.push]
theorem bytes_list (l : List Int) : (bytesOf l).toList = toB l := by
  rw [ByteArray.toList_eq, bytes_from]
  rfl
def Byteish (l : List Int) : Prop := ∀ x ∈ l, 0 ≤ x ∧ x < 256
theorem toB_inj : ∀ {l r : List Int}, Byteish l → Byteish r → toB l = toB r → l = r
  | [], [], _, _, _ => rfl
  | [], _ :: _, _, _, h => by simp at h
  | _ :: _, [], _, _, h => by simp at h
  | x :: l, y :: r, hl, hr, h => by
    simp only [List.map_cons, List.cons.injEq] at h
    have h1 := hl x List.mem_cons_self
    have h2 := hr y List.mem_cons_self
    have h3 : x.toNat = y.toNat := by
      have := congrArg UInt8.toNat h.1
      simp at this
      omega
    rw [toB_inj (fun z hz => hl z (List.mem_cons_of_mem _ hz)) (fun z hz => hr z (List.mem_cons_of_mem _ hz)) h.2]
    congr 1
    omega
theorem encF_byteish : ∀ (f u : Nat), u < 128 ^ (f + 1) → Byteish (encF f u)
  | 0, u, hu => by
    intro x hx
    simp [encF] at hx
    omega
  | f + 1, u, hu => by
    intro x hx
    unfold encF at hx
    split at hx
    · simp at hx
      omega
    · rcases List.mem_cons.1 hx with rfl | hx
      · omega
      · refine encF_byteish f (u / 128) ?_ x hx
        refine Nat.div_lt_of_lt_mul ?_
        rw [Nat.mul_comm]
        exact hu
theorem encN_byteish {n : Int} (h0 : -9223372036854775808 ≤ n) (h1 : n ≤ 9223372036854775807) : Byteish (encN n) := by
  refine encF_byteish 9 _ ?_
  have := zz_lt h0 h1
  omega
theorem encN_eq {a b : Int} (a0 : -9223372036854775808 ≤ a) (a1 : a ≤ 9223372036854775807) (b0 : -9223372036854775808 ≤ b) (b1 : b ≤ 9223372036854775807) : ((bytesOf (encN a)).toList == (bytesOf (encN b)).toList) = (a == b) := by
  rw [bytes_list, bytes_list]
  by_cases h : a = b
  · subst h
    simp
  · have h1 : (a == b) = false := by simpa using h
    rw [h1]
    have : toB (encN a) ≠ toB (encN b) := by
      intro he
      have h2 := toB_inj (encN_byteish a0 a1) (encN_byteish b0 b1) he
      have l1 := zz_lt a0 a1
      have l2 := zz_lt b0 b1
      exact h (zz_inj (encF_inj 9 _ _ (by omega) (by omega) h2))
    simpa using this
theorem one_does {a b : Int} (a0 : -9223372036854775808 ≤ a) (a1 : a ≤ 9223372036854775807) (b0 : -9223372036854775808 ≤ b) (b1 : b ≤ 9223372036854775807) : Does cE 4 [] 0 [.v (it a), .v (it b)] (.v (.bool true)) [] 0 := by
  have hl := enc_len a
  exact law1_1 a b (encN a) (encN b) true (Number_spec a a0 a1) (Number_spec b b0 b1) (by rw [encN_eq a0 a1 b0 b1]; simp) (by simp; omega) (by simp; omega) knows_spec
theorem one_true (a b : Int) (ha : (Lit.int .i64 a).wf = true) (hb : (Lit.int .i64 b).wf = true) (w : World) : Calls Try.prog 4 #[.int .i64 a, .int .i64 b] w fun e w' => e = .returned (.bool true) ∧ Below w.heap.size w w' := by
  have ha' : -9223372036854775808 ≤ a ∧ a ≤ 9223372036854775807 := by simpa [Lit.wf, IntKind.min, IntKind.max, IntKind.signed, IntKind.bits] using ha
  have hb' : -9223372036854775808 ≤ b ∧ b ≤ 9223372036854775807 := by simpa [Lit.wf, IntKind.min, IntKind.max, IntKind.signed, IntKind.bits] using hb
  exact law_calls (E := cE) (l := [.int .i64 a, .int .i64 b]) (enters (fn := Try.f4) rfl (by kernel_rfl) rfl) (one_does ha'.1 ha'.2 hb'.1 hb'.2) w
end Go.Proofs.YtomgifkpnfgimaaC
