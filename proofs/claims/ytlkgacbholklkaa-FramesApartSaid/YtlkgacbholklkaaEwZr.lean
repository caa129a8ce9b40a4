/-
  THE EVALUATOR WITH CHOICES, PART ZR: maps from whole numbers to boxes, as assertions.
-/
import Derived.Test.YtlkgacbholklkaaEwZq
set_option linter.unusedSimpArgs false
set_option linter.unusedVariables false
set_option linter.unusedSectionVars false
namespace Go.E
open Go
def encI (n : Int) : Value := .int .i64 n
def ptrB (b : Nat) : Value := .pointer (some ⟨b, 0, none⟩)
section
variable {X : Type}
/-! ### the assertion -/
def qP (y : Int × Nat × X) : Int × X := (y.1, y.2.2)
def qK (y : Int × Nat × X) : Int × Value := (y.1, ptrB y.2.1)
def qB (f : X → List Value) (y : Int × Nat × X) : Asn := pto y.2.1 (.cells (f y.2.2) 0 false)
def rg (f : X → List Value) (m : Nat) (l : List (Int × X)) : Asn := exA fun (q : List (Int × Nat × X)) => seps [pur (q.map qP = l), im encI m (q.map qK), seps (q.map (qB f))]
variable {f : X → List Value} {m : Nat} {l : List (Int × X)} {B H : AHeap} {As : List Asn}
end
end Go.E
