/- More of the attributes' functions. -/
import Derived.Test.YtgbnjcmjioiclaaDoorAtCode
namespace Go.E.At
open Go Go.E Go.Proofs.YtgbnjcmjioiclaaDoor.base Go.Proofs.YtgbnjcmjioiclaaDoor Go.Proofs
set_option linter.unusedVariables false
set_option maxRecDepth 100000
end Go.E.At
