/-
  THE EVALUATOR WITH CHOICES, PART ZQ: slices.Sort under assertions.
-/
import Derived.Test.YtlkgacbholklkaaEwZp
set_option linter.unusedSimpArgs false
set_option linter.unusedVariables false
set_option linter.unusedSectionVars false
namespace Go.E
open Go Go.Proofs
section
variable {α : Type} [Inhabited α] {enc : α → Value} {srt : List α → List α} {P : Program} {G : Nat} {X : Extra P G} {B H : AHeap} {As : List Asn}
end
end Go.E
