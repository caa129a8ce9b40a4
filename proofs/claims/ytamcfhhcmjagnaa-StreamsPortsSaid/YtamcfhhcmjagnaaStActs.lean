/- What the laws of the streams need of the evaluator. -/
import Derived.Test.YtamcfhhcmjagnaaStCode
import Derived.Test.YtamcfhhcmjagnaaEhZl
namespace Go.E.St
open Go Go.E Go.ChangeShapes Go.WideShapes Go.ChangeAt Go.RowKit Go.Proofs.Ytamcfhhcmjagnaa Go.Proofs
set_option linter.unusedVariables false
set_option linter.unusedSimpArgs false
set_option maxRecDepth 100000
theorem mixed : Try.prog.follows .mixedOrders = true := by kernel_rfl
theorem awakeRun : ((callN (cProg Try.prog 0) 60 (.fn 15) [] (startH objs)).map (·.1)) = some (.bool true) := by kernel_rfl
theorem C_ok (n : Nat) : CalleeOk Try.prog 0 (C n) := callX_sound mixed (knownAt_ok (n := 60) mixed (by decide) (by decide) fun f v h => by
  simp only [K, List.lookup] at h
  split at h
  · rename_i he
    have : f = 15 := by simpa using he
    subst this
    cases h
    exact ⟨rfl, awakeRun⟩
  · cases h) n
theorem globAll (H : AHeap) : Glob objs H := ⟨fun b hb => by simp [objs] at hb, Nat.zero_le _⟩
end Go.E.St
