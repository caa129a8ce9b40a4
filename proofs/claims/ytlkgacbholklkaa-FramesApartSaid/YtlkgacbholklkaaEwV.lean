/-
  THE EVALUATOR, PART U: the heap that a run begins with, out of the package-level variables that a row lists.
-/
import Derived.Test.YtlkgacbholklkaaEwU
import Derived.Deep.DeepHandedRow
set_option linter.unusedSimpArgs false
set_option linter.unusedVariables false
namespace Go.E
open Go Go.MapKept Go.ChangeShapes Go.WideShapes Go.RowKit
variable {P : Program}
/-! ### the first heap -/
def startH (gs : List AObj) : AHeap := gs.foldl AHeap.add AHeap.empty

theorem get_fold : ∀ (gs : List AObj) (H : AHeap) (b : Nat), (gs.foldl AHeap.add H).get b = (if H.next ≤ b ∧ b < H.next + gs.length then gs.getD (b - H.next) .dead else H.get b) ∧ (gs.foldl AHeap.add H).next = H.next + gs.length
  | [], H, b => by
    refine ⟨?_, by simp⟩
    simp only [List.foldl_nil, List.length_nil]
    rw [if_neg (show ¬ (H.next ≤ b ∧ b < H.next + 0) from fun h => by omega)]
  | o :: gs, H, b => by
    obtain ⟨h1, h2⟩ := get_fold gs (H.add o) b
    refine ⟨?_, by rw [List.foldl_cons, h2]; simp; omega⟩
    rw [List.foldl_cons, h1]
    simp only [AHeap.next_add, AHeap.get_add, List.length_cons]
    by_cases e : b = H.next
    · subst e
      rw [if_neg (by omega), if_pos rfl, if_pos (by omega)]; simp
    · by_cases h : H.next + 1 ≤ b ∧ b < H.next + 1 + gs.length
      · rw [if_pos h, if_pos (by omega)]
        rw [show b - H.next = (b - (H.next + 1)) + 1 by omega]
        simp
      · rw [if_neg h, if_neg e, if_neg (by omega)]

theorem get_startH (gs : List AObj) (b : Nat) : (startH gs).get b = gs.getD b .dead := by
  unfold startH
  rw [(get_fold gs AHeap.empty b).1]
  have e0 : AHeap.empty.next = 0 := rfl
  rw [e0]
  split
  · rfl
  · rename_i h
    have : gs.length ≤ b := by omega
    have e1 : gs.getD b AObj.dead = .dead := by simp [List.getD_eq_getElem?_getD, this]
    rw [e1]; rfl

theorem next_startH (gs : List AObj) : (startH gs).next = gs.length := by
  unfold startH
  rw [(get_fold gs AHeap.empty 0).2]
  simp [AHeap.empty]

theorem start_sim {gs : List AObj} {ms : List Emb} {w : World} (hl : ms.length = gs.length) (hr : ∀ o ∈ gs, o.writable = false) (h : ∀ (b : Nat) o m, gs[b]? = some o → ms[b]? = some m → ObjR (fun b => ms[b]?) m w o) :
    Sim (fun b => ms[b]?) (startH gs) w ∧ ∀ k, ¬ Wr (fun b => ms[b]?) (startH gs) k := by
  have hget : ∀ b m, ms[b]? = some m → ∃ o, gs[b]? = some o ∧ (startH gs).get b = o := by
    intro b m hb
    have hlt : b < gs.length := by rw [← hl]; exact (List.getElem?_eq_some_iff.1 hb).1
    refine ⟨gs[b], by simp [hlt], ?_⟩
    rw [get_startH]; simp [List.getD_eq_getElem?_getD, hlt]
  have hw : ∀ b m, ms[b]? = some m → ((startH gs).get b).writable = false := by
    intro b m hb
    obtain ⟨o, h1, h2⟩ := hget b m hb
    rw [h2]; exact hr o (List.mem_of_getElem? h1)
  refine ⟨⟨fun b m hb => ?_, fun b m hb => ?_, fun b c m k hb hc _ _ hwr => ?_⟩, fun k ⟨b, m, hb, _, hwr⟩ => ?_⟩
  · rw [next_startH, ← hl]; exact (List.getElem?_eq_some_iff.1 hb).1
  · obtain ⟨o, h1, h2⟩ := hget b m hb
    rw [h2]; exact h b o m h1 hb
  · rw [hw b m hb] at hwr; cases hwr
  · rw [hw b m hb] at hwr; cases hwr

section
variable {X : Type} {enc : TypeId × Value → X} (hdec : X → Option Value)
variable {hdec}
end
end Go.E
