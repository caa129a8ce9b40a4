/-
  THE EVALUATOR, PART ZD: a copy appended to an empty block.
-/
import Derived.Test.YtgmmkajjigmjoaaEngZc
set_option linter.unusedSimpArgs false
set_option linter.unusedVariables false
namespace Go.E
open Go
theorem SlO.dropB {H : AHeap} {b off l c k : Nat} {xs : List Value} {o : List Nat} (h : SlO H 1 (.slice (some ⟨b, off, none⟩) l c) xs o) (hk : k ≤ l) : SlO H 1 (.slice (some ⟨b, off + k * 1, none⟩) (l - k) (c - k)) (xs.drop k) o := by
  cases h with
  | @blk _ _ _ _ cs hg hc hl =>
    have h2 := SlO.blk (H := H) (es := 1) (b := b) (off := off + k * 1) (l := l - k) (c := c - k) hg (by omega) (by omega)
    have e : (cs.drop (off + k * 1)).take ((l - k) * 1) = ((cs.drop off).take (l * 1)).drop k := by
      rw [List.drop_take, List.drop_drop]
      congr 1
      · omega
      · congr 1; omega
    rwa [e] at h2
theorem SlO.ne {H : AHeap} {es l c : Nat} {a : Option Addr} {xs : List Value} {o : List Nat} (h : SlO H es (.slice a l c) xs o) (hl : l ≠ 0) : ∃ b off cs, a = some ⟨b, off, none⟩ ∧ o = [b] ∧ H.get b = .cells cs es false := by
  cases h with
  | nil => exact absurd rfl hl
  | blk hg hc hl => exact ⟨_, _, _, rfl, rfl, hg⟩
theorem list_of {α : Type} {Q : Nat → α → Prop} : ∀ (n : Nat), (∀ i, i < n → ∃ x, Q i x) → ∃ xs : List α, xs.length = n ∧ ∀ i x, xs[i]? = some x → Q i x
  | 0, _ => ⟨[], rfl, by simp⟩
  | n + 1, h => by
    obtain ⟨xs, h1, h2⟩ := list_of n fun i hi => h i (by omega)
    obtain ⟨x, hx⟩ := h n (by omega)
    refine ⟨xs ++ [x], by simp [h1], fun i y hi => ?_⟩
    by_cases hl : i < xs.length
    · rw [List.getElem?_append_left hl] at hi
      exact h2 i y hi
    · rw [List.getElem?_append_right (by omega)] at hi
      have : i = n := by
        have := (List.getElem?_eq_some_iff.1 hi).1
        simp at this; omega
      subst this
      rw [h1, Nat.sub_self] at hi
      simp at hi
      exact hi ▸ hx
section
variable {C : Nat → Callee} {T : FEnv} {H : AHeap} {K : FEnv → AHeap → Prop}
theorem op1_appendE {by_ l d : Nat} {g : Option (Nat × Bool)} {s x : NOpd} {ys : List Value} {r : List Nat} {w : Value} (hw : wantedF g T = true) (hs : s.evF T = .slice (some ⟨H.next, 0, none⟩) 0 0) (hx : x.evF T = w) (hR : RdS H 1 w ys r) (hl : ys.length = l) (hr : ∀ b ∈ r, b < H.next)
    (h1 : ys.all (·.oneCell') = true) (hlim : l ≤ 2147483648)
    (kk : ∀ a' c' o' H', SlO H' 1 (.slice a' l c') ys o' → (∀ b ∈ o', H.next ≤ b ∧ b < H'.next) → (∀ b, b < H.next → H'.get b = H.get b) → H.next ≤ H'.next → K (upd T d (.slice a' l c')) H') :
    op1 C ⟨some d, .append 1 by_ s x, g⟩ T (H.add (.cells [] 1 false)) K := by
  have hS : SlO (H.add (.cells [] 1 false)) 1 (.slice (some ⟨H.next, 0, none⟩) 0 0) [] [H.next] := SlO.blk (cs := []) (es := 1) (b := H.next) (off := 0) (l := 0) (c := 0) AHeap.ga_same (by simp) (Nat.le_refl _)
  have hR2 : RdS (H.add (.cells [] 1 false)) 1 w ys r := hR.frame fun b hb => by rw [AHeap.get_add, if_neg (by have := hr b hb; omega)]
  obtain ⟨a, c, rfl⟩ := hR.shape1
  rw [hl] at hx hR2
  refine op1_appendO hw hs hx (by decide) hS rfl (hR2.src (by omega) (k := l) (by omega)) (by simp [hl]) (by rw [Nat.mul_one, List.take_of_length_le (by omega)]; exact h1) (by omega) (fun b hb => by simp at hb; subst hb; simp) ?_
  intro a' c' o' H' hO hE
  rw [List.nil_append, Nat.mul_one, List.take_of_length_le (by omega), Nat.zero_add] at hO
  rw [Nat.zero_add]
  have own := hE.own
  have hn := hE.next
  simp only [AHeap.next_add, List.mem_singleton] at own hn
  exact kk a' c' o' H' hO (fun b hb => ⟨by rcases own b hb with h | h <;> omega, hE.lt (fun b hb => by simp at hb; subst hb; simp) b hb⟩) (fun b hb => (hE.keep b (by simp only [AHeap.next_add]; omega) (by simp; omega)).trans (by rw [AHeap.get_add, if_neg (by omega)])) (by omega)
end
end Go.E
