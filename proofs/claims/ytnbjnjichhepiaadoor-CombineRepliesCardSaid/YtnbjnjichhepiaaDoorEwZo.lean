/-
  THE EVALUATOR WITH CHOICES, PART ZO: ranges over maps, as assertions: any entry that is left may come next.
-/
import Derived.Test.YtnbjnjichhepiaaDoorEwZn
set_option linter.unusedSimpArgs false
set_option linter.unusedVariables false
set_option linter.unusedSectionVars false
namespace Go.E
open Go
section
variable {α : Type} [DecidableEq α]
variable {C : Callees} {T : FEnv} {B H : AHeap} {As : List Asn} {K : FEnv → AHeap → Prop} {d : Nat} {g : Option (Nat × Bool)} {enc : α → Value} {m p : Nat} {kv rest : List (α × Value)} {cur : Option (α × Value)}
end
end Go.E
