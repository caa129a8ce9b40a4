/-
  THE EVALUATOR, PART ZH: bytes and whole numbers in slices; a slice deleted from in place.
-/
import Derived.Test.YtgbnjcmjioiclaaDoorEwZg
set_option linter.unusedSimpArgs false
set_option linter.unusedVariables false
namespace Go.E
open Go
def u8s (l : List Int) : List Value := l.map (.int .u8 ·)
def i64s (l : List Int) : List Value := l.map (.int .i64 ·)
@[simp] theorem u8s_length (l : List Int) : (u8s l).length = l.length := by simp [u8s]
@[simp] theorem i64s_length (l : List Int) : (i64s l).length = l.length := by simp [i64s]
theorem u8s_get {l : List Int} {i : Nat} {v : Value} (h : (u8s l)[i]? = some v) : ∃ x, l[i]? = some x ∧ v = .int .u8 x := by
  simp only [u8s, List.getElem?_map, Option.map_eq_some_iff] at h
  obtain ⟨x, h1, h2⟩ := h
  exact ⟨x, h1, h2.symm⟩
theorem i64s_get {l : List Int} {i : Nat} {v : Value} (h : (i64s l)[i]? = some v) : ∃ x, l[i]? = some x ∧ v = .int .i64 x := by
  simp only [i64s, List.getElem?_map, Option.map_eq_some_iff] at h
  obtain ⟨x, h1, h2⟩ := h
  exact ⟨x, h1, h2.symm⟩
theorem RdS.i1 {H : AHeap} {v : Value} {l : List Int} {o : List Nat} (h : RdS H 1 v (i64s l) o) : ∃ a c, v = .slice a l.length c := by simpa using h.shape1
section
variable {C : Callees} {T : FEnv} {B H : AHeap} {K : FEnv → AHeap → Prop} {d : Nat} {g : Option (Nat × Bool)} {As : List Asn}
end
section
variable {B H : AHeap} {As : List Asn}
theorem S.i1 {v : Value} {l : List Int} (h : S B H (sl 1 v (i64s l) :: As)) : ∃ a c, v = .slice a l.length c := by simpa using h.shape1
theorem flatMap_cut {α : Type} {f : α → List Value} {es : Nat} (hf : ∀ x, (f x).length = es) : ∀ {l : List α} {i : Nat} {x : α}, l[i]? = some x → ((l.flatMap f).drop (i * es)).take es = f x
  | [], i, x, h => by simp at h
  | y :: l, 0, x, h => by
    simp at h; subst h
    rw [List.flatMap_cons, Nat.zero_mul, List.drop_zero, List.take_append_of_le_length (by rw [hf]; exact Nat.le_refl _), List.take_of_length_le (by rw [hf]; exact Nat.le_refl _)]
  | y :: l, i + 1, x, h => by
    rw [List.flatMap_cons, Nat.add_mul, Nat.one_mul, Nat.add_comm, ← List.drop_drop, List.drop_left' (hf y)]
    exact flatMap_cut hf (by simpa using h)
end
end Go.E
