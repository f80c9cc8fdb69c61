/- slices.Equal over bytes. -/
import Derived.Test.YtomgifkpnfgimaaSB
namespace Go.Proofs.YtomgifkpnfgimaaC
open Go.Proofs Go.Proofs.YtomgifkpnfgimaaSx
set_option maxRecDepth 100000
set_option linter.unusedVariables false
theorem eq_loop (l r : List Int) (hn : l.length = r.length) (hl : l.length < 4611686018427387904) : ∀ (k i : Nat), i + k = l.length → ∀ m,
    Fin cE Try.f36 2 (.v (.bool (decide (l.drop i = r.drop i)))) [(0, .ro 5 l false), (1, .ro 5 r false)] 2 (inK eqK (m + k + 1)) ([.o 0, .o 1] ++ List.replicate 10 .na ++ [.v (it l.length), .v (it i)] ++ List.replicate 12 .na) [(0, .ro 5 l false), (1, .ro 5 r false)] 2
  | 0, i, hi, m => by
    refine fin_round ?_
    have e : decide (l.drop i = r.drop i) = true := by
      rw [List.drop_of_length_le (by omega), List.drop_of_length_le (by omega)]
      rfl
    rw [e]
    exact eq1_3 l r i m (by simp; omega)
  | k + 1, i, hi, m => by
    refine fin_round ?_
    have h1 : i < l.length := by omega
    have h2 : i < r.length := by omega
    rw [drop_cons h1, drop_cons h2]
    by_cases hx : l.getD i 0 = r.getD i 0
    · have ih := eq_loop l r hn hl k (i + 1) (by omega) m
      have e : IntKind.i64.wrap ((i : Int) + 1) = ((i + 1 : Nat) : Int) := by rw [wrap64 (by omega) (by omega)]; rfl
      have h := eq1_2 l r i (m + (k + 1)) (.v (.bool (decide (l.drop (i + 1) = r.drop (i + 1))))) [(0, .ro 5 l false), (1, .ro 5 r false)] 2 (by simp; omega) ⟨by omega, by omega⟩ h1 ⟨by omega, by omega⟩ h2 (by rw [hx]; exact bne_self_eq_false _)
      rw [e] at h
      have e2 : decide (l.getD i 0 :: l.drop (i + 1) = r.getD i 0 :: r.drop (i + 1)) = decide (l.drop (i + 1) = r.drop (i + 1)) := by rw [hx]; simp
      rw [e2]
      exact h ih
    · have e2 : decide (l.getD i 0 :: l.drop (i + 1) = r.getD i 0 :: r.drop (i + 1)) = false := decide_eq_false (fun h => hx (List.cons.inj h).1)
      rw [e2]
      exact eq1_1 l r i (m + (k + 1)) (by simp; omega) ⟨by omega, by omega⟩ h1 ⟨by omega, by omega⟩ h2 (by simpa using hx)
theorem Equal_spec (l r : List Int) (hl : l.length < 4611686018427387904) (hr : r.length < 4611686018427387904) : Does cE 36 [(0, .ro 5 l false), (1, .ro 5 r false)] 2 [.o 0, .o 1] (.v (.bool (decide (l = r)))) [] 2 := by
  refine Does.nil (T' := [(0, .ro 5 l false), (1, .ro 5 r false)]) ?_ rfl
  refine does_of_fin (fn := Try.f36) (c := bd Try.f36) rfl (by kernel_rfl) rfl ?_
  by_cases hn : l.length = r.length
  · refine eq0_2 l r _ _ _ (by simp; omega) ?_
    refine fin_loop (0 + l.length + 1) ?_
    exact eq_loop l r hn hl l.length 0 (by omega) 0
  · have e : decide (l = r) = false := decide_eq_false (fun h => hn (congrArg List.length h))
    rw [e]
    exact eq0_1 l r (by simp; omega)
end Go.Proofs.YtomgifkpnfgimaaC
