/-
  THE EVALUATOR, PART ZF: slices of known blocks, slices that a drawn region looks at twice, copy into a block.
-/
import Derived.Test.YtlkgacbholklkaaEwZe
set_option linter.unusedSimpArgs false
set_option linter.unusedVariables false
namespace Go.E
open Go
section
variable {C : Callees} {T : FEnv} {H : AHeap} {K : FEnv → AHeap → Prop} {d : Nat} {g : Option (Nat × Bool)}
theorem op1_sliceB {es : Nat} {x : NOpd} {lo hi : Option NOpd} {b o l c i h : Nat} {cs : List Value} {e : Nat} {ro : Bool} (hw : wantedF g T = true) (hx : x.evF T = .slice (some ⟨b, o, none⟩) l c) (hg : H.get b = .cells cs e ro) (he : e = 0 ∨ e = es)
    (hb : sliceBnds l c (lo.map (·.evF T)) (hi.map (·.evF T)) none = some (i, h, c)) (hih : i ≤ h) (hhc : h ≤ c)
    (kk : K (upd T d (.slice (some ⟨b, o + i * es, none⟩) (h - i) (c - i))) H) : op1 C ⟨some d, .slice es x lo hi none, g⟩ T H K := by
  by_cases h0 : c = 0
  · subst h0
    have e1 : h = 0 := by omega
    have e2 : i = 0 := by omega
    subst e1 e2
    refine op1_slice0 hw hx hb ?_
    simp only [Nat.zero_mul, Nat.add_zero, Nat.sub_zero] at kk
    exact kk
  · exact op1_slice hw hx h0 hb hg he kk
end
end Go.E
