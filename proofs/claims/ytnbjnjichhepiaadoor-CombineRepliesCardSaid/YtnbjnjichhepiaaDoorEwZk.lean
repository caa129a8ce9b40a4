/-
  THE EVALUATOR, PART ZK: strings compared; bound methods; cuts behind which the code may have returned.
-/
import Derived.Test.YtnbjnjichhepiaaDoorEwZj
set_option linter.unusedSimpArgs false
set_option linter.unusedVariables false
namespace Go.E
open Go
section
variable {C : Callees} {T : FEnv} {H : AHeap} {K : KO}
end
end Go.E
