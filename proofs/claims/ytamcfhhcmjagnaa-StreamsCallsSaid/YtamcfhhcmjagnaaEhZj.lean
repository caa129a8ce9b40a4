/-
  THE EVALUATOR, PART ZJ: the rounds of a function's ranges over functions, by number; their records as assertions.
-/
import Derived.Test.YtamcfhhcmjagnaaEhZi
set_option linter.unusedSimpArgs false
set_option linter.unusedVariables false
namespace Go.E
open Go
section
variable {C : Nat → Callee} {B H : AHeap} {As : List Asn} {Q : Post}
end
end Go.E
