/-
  THE EVALUATOR WITH CHOICES, PART ZP: slices.Sort, as it is known by its contract.
-/
import Derived.Test.YtlkgacbholklkaaEwZo
import Derived.Sort.Grow
import Derived.Sort.EncStr
set_option linter.unusedSimpArgs false
set_option linter.unusedVariables false
set_option linter.unusedSectionVars false
namespace Go.E
open Go Go.Proofs
theorem Stp.grow {φ : Phi} {H : AHeap} {w : World} (hs : Sim φ H w) (os : Array Obj) : Stp φ H w φ H (Sort.grow w os) := by
  have hk : ∀ k, k < w.heap.size → (Sort.grow w os).heap[k]? = w.heap[k]? := fun k hk => Sort.heap_grow_old w os hk
  refine ⟨.refl _, ⟨hs.dom, fun b m hb => ?_, hs.inj⟩, rfl, rfl, rfl, by simp, fun k h _ => hk k h, fun _ _ h => h, Nat.le_refl _, fun _ _ h => ⟨rfl, h⟩⟩
  by_cases hd : H.get b = .dead
  · rw [hd]; trivial
  · exact ObjR.mono (.refl _) (hk _ (hs.blk_lt hb hd)) (hs.obj b m hb)

section
variable {α : Type} [Inhabited α] (enc : α → Value) (srt : List α → List α)
variable {enc srt}
end
end Go.E
