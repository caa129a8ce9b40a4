/-
  THE EVALUATOR, PART ZM: slicing with a bound for the capacity; deleting: what is left.
-/
import Derived.Test.YtlkgacbholklkaaEwZl
set_option linter.unusedSimpArgs false
set_option linter.unusedVariables false
namespace Go.E
open Go
section
variable {C : Callees} {T : FEnv} {B H : AHeap} {K : FEnv → AHeap → Prop} {d : Nat} {g : Option (Nat × Bool)} {As : List Asn}
end
end Go.E
