/-
  THE EVALUATOR WITH CHOICES, PART ZQ: slices.Sort under assertions.
-/
import Derived.Test.YtgbnjcmjioiclaaDoorEwZp
set_option linter.unusedSimpArgs false
set_option linter.unusedVariables false
set_option linter.unusedSectionVars false
namespace Go.E
open Go Go.Proofs
section
variable {α : Type} [Inhabited α] {enc : α → Value} {srt : List α → List α} {P : Program} {G : Nat} {X : Extra P G} {B H : AHeap} {As : List Asn}
theorem wpF_sort {f : Nat} (hx : ∀ C g args H R, sortStep enc srt f g args H R → X.step C g args H R) (hlen : ∀ zs, (srt zs).length = zs.length) {v : Value} {l : List α} (hl : l.length ≤ 1000000) (hS : S B H (sl 1 v (l.map enc) :: As)) :
    wpF (callsX X) f [v] H fun w H' => w = .tuple ⟨[]⟩ ∧ S B H' (sl 1 v ((srt l).map enc) :: As) := by
  refine wpF_ext (hx _ _ _ _ _ ⟨rfl, ?_⟩)
  obtain ⟨a, c, rfl⟩ := S.shape1 hS
  rw [List.length_map] at hS ⊢
  by_cases h0 : l.length = 0
  · have : l = [] := List.eq_nil_of_length_eq_zero h0
    subst this
    have hsz : srt [] = [] := List.eq_nil_of_length_eq_zero (hlen [])
    refine .inl ⟨_, _, rfl, rfl, ?_⟩
    rw [hsz]; exact hS
  · obtain ⟨b, o, cs, rfl, h1, h2, h3, hB⟩ := S.slBlk hS h0
    refine .inr ⟨b, o, c, cs, 1, l, rfl, hB.get, by omega, by rw [h3]; simp, by omega, rfl, ?_⟩
    have hcs : o + l.length ≤ cs.length := by omega
    have hsl := hlen l
    have := S.slOf (es := 1) (off := o) (l := l.length) (c := c) (hB.set (.cells (cs.take o ++ (srt l).map enc ++ cs.drop (o + l.length)) 1 false)) (by simp [hsl]; omega) (by omega)
    have e : ((cs.take o ++ (srt l).map enc ++ cs.drop (o + l.length)).drop o).take (l.length * 1) = (srt l).map enc := by
      rw [List.append_assoc, List.drop_append_of_le_length (by simp; omega), List.drop_take]
      simp only [Nat.sub_self, List.take_zero, List.nil_append, Nat.mul_one]
      rw [List.take_append_of_le_length (by simp [hsl]), List.take_of_length_le (by simp [hsl])]
    rw [e] at this
    exact this
end
end Go.E
