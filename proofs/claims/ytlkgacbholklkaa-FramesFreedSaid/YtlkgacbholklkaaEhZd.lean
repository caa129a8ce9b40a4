/-
  THE EVALUATOR, PART ZD: a copy appended to an empty block.
-/
import Derived.Test.YtlkgacbholklkaaEhZc
set_option linter.unusedSimpArgs false
set_option linter.unusedVariables false
namespace Go.E
open Go
theorem SlO.ne {H : AHeap} {es l c : Nat} {a : Option Addr} {xs : List Value} {o : List Nat} (h : SlO H es (.slice a l c) xs o) (hl : l ≠ 0) : ∃ b off cs, a = some ⟨b, off, none⟩ ∧ o = [b] ∧ H.get b = .cells cs es false := by
  cases h with
  | nil => exact absurd rfl hl
  | blk hg hc hl => exact ⟨_, _, _, rfl, rfl, hg⟩
section
variable {C : Nat → Callee} {T : FEnv} {H : AHeap} {K : FEnv → AHeap → Prop}
end
end Go.E
