/-
  THE EVALUATOR, PART ZF: slices of known blocks, slices that a drawn region looks at twice, copy into a block.
-/
import Derived.Test.YtnbjnjichhepiaaDoorEwZe
set_option linter.unusedSimpArgs false
set_option linter.unusedVariables false
namespace Go.E
open Go
section
variable {C : Callees} {T : FEnv} {H : AHeap} {K : FEnv → AHeap → Prop} {d : Nat} {g : Option (Nat × Bool)}
theorem subOpt_none : subOpt T none = none := rfl
end
end Go.E
