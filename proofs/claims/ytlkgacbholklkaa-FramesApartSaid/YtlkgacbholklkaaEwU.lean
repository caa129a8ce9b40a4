/-
  THE EVALUATOR, PART T: package-level tables: from what a row lists to the heap that a run begins with.
-/
import Derived.Test.YtlkgacbholklkaaEwT
import Derived.LaidMore
import Derived.LaidHandle
import Derived.ChangeAnyMap
import Derived.Lib.LaidTab
set_option linter.unusedSimpArgs false
set_option linter.unusedVariables false
namespace Go.E
open Go Go.MapKept Go.ChangeShapes Go.WideShapes Go.RowKit
variable {P : Program}
/-! ### look-ups among distinct keys -/
/-! ### what a reading tells of the cells -/
section
variable {X : Type} {enc : TypeId × Value → X} (hdec : X → Option Value)
variable {hdec}
end
end Go.E
