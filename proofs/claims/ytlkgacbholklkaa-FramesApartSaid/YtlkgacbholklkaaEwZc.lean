/-
  THE EVALUATOR, PART ZC: a cut inside a region.
-/
import Derived.Test.YtlkgacbholklkaaEwZb
set_option linter.unusedSimpArgs false
set_option linter.unusedVariables false
namespace Go.E
open Go
section
variable {C : Callees} {T : FEnv} {H : AHeap} {K : KO} {d : Nat} {g : Option (Nat × Bool)} {e : EqT} {x y : NOpd}
theorem op1_eqlI_s {i : IntKind} {a : Int} (hw : wantedF g T = true) (hx : x.evF T = .int i a) (hy : y.evF T = .int i a) (k : K (upd T d (.bool true)) H) : op1 C ⟨some d, .bin .eql e x y, g⟩ T H K :=
  op1_eqlI hw hx hy (by rw [decide_eq_true rfl]; exact k)
theorem op1_neqI_s {i : IntKind} {a : Int} (hw : wantedF g T = true) (hx : x.evF T = .int i a) (hy : y.evF T = .int i a) (k : K (upd T d (.bool false)) H) : op1 C ⟨some d, .bin .neq e x y, g⟩ T H K :=
  op1_neqI hw hx hy (by rw [decide_eq_true rfl]; exact k)
end
theorem ArgsOk.cons {P : Program} {gs : List AObj} {n : Nat} {t : TypeId} {ts : List TypeId} {xs : List Value} (h : ArgsOk P gs n (t :: ts) xs) : ∃ a r, xs = a :: r ∧ (∃ cells, a = argV P t cells ∧ OkA P gs n t cells) ∧ ArgsOk P gs n ts r := by
  cases xs with
  | nil => exact h.elim
  | cons a r => exact ⟨a, r, rfl, h.1, h.2⟩
theorem ArgsOk.nil {P : Program} {gs : List AObj} {n : Nat} {xs : List Value} (h : ArgsOk P gs n [] xs) : xs = [] := by
  cases xs with
  | nil => rfl
  | cons a r => exact h.elim
end Go.E
