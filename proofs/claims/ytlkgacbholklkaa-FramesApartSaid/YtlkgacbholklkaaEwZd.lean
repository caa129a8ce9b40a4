/-
  THE EVALUATOR, PART ZD: a copy appended to an empty block.
-/
import Derived.Test.YtlkgacbholklkaaEwZc
set_option linter.unusedSimpArgs false
set_option linter.unusedVariables false
namespace Go.E
open Go
theorem SlO.ne {H : AHeap} {es l c : Nat} {a : Option Addr} {xs : List Value} {o : List Nat} (h : SlO H es (.slice a l c) xs o) (hl : l ≠ 0) : ∃ b off cs, a = some ⟨b, off, none⟩ ∧ o = [b] ∧ H.get b = .cells cs es false := by
  cases h with
  | nil => exact absurd rfl hl
  | blk hg hc hl => exact ⟨_, _, _, rfl, rfl, hg⟩
theorem list_of {α : Type} {Q : Nat → α → Prop} : ∀ (n : Nat), (∀ i, i < n → ∃ x, Q i x) → ∃ xs : List α, xs.length = n ∧ ∀ i x, xs[i]? = some x → Q i x
  | 0, _ => ⟨[], rfl, by simp⟩
  | n + 1, h => by
    obtain ⟨xs, h1, h2⟩ := list_of n fun i hi => h i (by omega)
    obtain ⟨x, hx⟩ := h n (by omega)
    refine ⟨xs ++ [x], by simp [h1], fun i y hi => ?_⟩
    by_cases hl : i < xs.length
    · rw [List.getElem?_append_left hl] at hi
      exact h2 i y hi
    · rw [List.getElem?_append_right (by omega)] at hi
      have : i = n := by
        have := (List.getElem?_eq_some_iff.1 hi).1
        simp at this; omega
      subst this
      rw [h1, Nat.sub_self] at hi
      simp at hi
      exact hi ▸ hx
section
variable {C : Callees} {T : FEnv} {H : AHeap} {K : FEnv → AHeap → Prop}
end
end Go.E
