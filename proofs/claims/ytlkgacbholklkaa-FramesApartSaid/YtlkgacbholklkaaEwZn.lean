/-
  THE EVALUATOR, PART ZN: a call's arguments laid into the first heap, with their sizes: no string, no slice is longer than what a call may reach.
-/
import Derived.Test.YtlkgacbholklkaaEwZm
import Derived.Test.YtlkgacbholklkaaEwZl
import Derived.SizedLaws
set_option linter.unusedSimpArgs false
set_option linter.unusedVariables false
namespace Go.E
open Go Go.ChangeShapes Go.WideShapes Go.ChangeAt Go.RowKit
variable {P : Program}
def OkS (P : Program) (gs : List AObj) : Nat → TypeId → List Value → Prop
  | 0, _, _ => False
  | n + 1, t, vs => match P.underlying t with
    | some .bool => ∃ b, vs = [.bool b]
    | some (.int k) => ∃ i, vs = [.int k i] ∧ (Lit.int k i).wf = true
    | some .string => ∃ s : ByteArray, vs = [.string s] ∧ s.size ≤ reachBytes
    | some (.slice e) => vs = [.slice none 0 0] ∨ (∃ b c, vs = [.slice (some ⟨b, 0, none⟩) 0 0] ∧ gs[b]? = some c) ∨ ∃ b l c cells, vs = [.slice (some ⟨b, 0, none⟩) l c] ∧ l ≤ c ∧ (c ≤ maxLen ∧ c * P.bytesOf e ≤ reachBytes) ∧ gs[b]? = some (.cells cells 0 true) ∧ cells.length = l * P.cellsOf e ∧
        ∀ i, i < l → OkS P gs n e ((cells.drop (i * P.cellsOf e)).take (P.cellsOf e))
    | some (.struct fs) => vs.length = P.cellsOf t ∧ ∀ f ∈ fs.toList, OkS P gs n f.type ((vs.drop f.offset).take (P.cellsOf f.type))
    | some (.array m e) => vs.length = P.cellsOf t ∧ ∀ i, i < m → OkS P gs n e ((vs.drop (i * P.cellsOf e)).take (P.cellsOf e))
    | _ => False

theorem OkS.mono {gs gs' : List AObj} : ∀ (n : Nat) (t : TypeId) (vs : List Value), OkS P gs n t vs → OkS P (gs ++ gs') n t vs
  | 0, _, _, h => h
  | n + 1, t, vs, h => by
    unfold OkS at h ⊢
    split at h <;> try exact h
    · rcases h with h | ⟨b, c, h, k⟩ | ⟨b, l, c, cells, h1, h2, hm, h4, h5, h6⟩
      · exact .inl h
      · exact .inr (.inl ⟨b, c, h, get_prefix k⟩)
      · exact .inr (.inr ⟨b, l, c, cells, h1, h2, hm, get_prefix h4, h5, fun i hi => OkS.mono n _ _ (h6 i hi)⟩)
    · exact ⟨h.1, fun f hf => OkS.mono n _ _ (h.2 f hf)⟩
    · exact ⟨h.1, fun i hi => OkS.mono n _ _ (h.2 i hi)⟩

section
variable {X : Type} {enc : TypeId × Value → X} {w : World} {base : Nat} {sp : Nat → Bool} {held : Bool} {r : Reach} {b0 : Nat}
def ArgsOkS (P : Program) (gs : List AObj) (n : Nat) : List TypeId → List Value → Prop
  | [], [] => True
  | t :: ts, a :: as => (∃ cells, a = argV P t cells ∧ OkS P gs n t cells) ∧ ArgsOkS P gs n ts as
  | _, _ => False

theorem ArgsOkS.mono {gs gs' : List AObj} {n : Nat} : ∀ (ts : List TypeId) (as : List Value), ArgsOkS P gs n ts as → ArgsOkS P (gs ++ gs') n ts as
  | [], [], _ => trivial
  | [], _ :: _, h => h
  | _ :: _, [], h => h
  | t :: ts, a :: as, ⟨⟨cells, h1, h2⟩, h3⟩ => ⟨⟨cells, h1, OkS.mono _ _ _ h2⟩, ArgsOkS.mono ts as h3⟩

theorem ArgsOkS.cons {gs : List AObj} {n : Nat} {t : TypeId} {ts : List TypeId} {xs : List Value} (h : ArgsOkS P gs n (t :: ts) xs) : ∃ a as, xs = a :: as ∧ (∃ cells, a = argV P t cells ∧ OkS P gs n t cells) ∧ ArgsOkS P gs n ts as := by
  cases xs with
  | nil => exact h.elim
  | cons a as => exact ⟨a, as, rfl, h.1, h.2⟩
theorem ArgsOkS.nil {gs : List AObj} {n : Nat} {xs : List Value} (h : ArgsOkS P gs n [] xs) : xs = [] := by
  cases xs with
  | nil => rfl
  | cons a as => exact h.elim
end
section
variable {gs : List AObj} {n : Nat} {t : TypeId} {vs : List Value}
theorem OkS.struct {l : List (TypeId × Nat)} {m : Nat} (hu : fieldsOf P t = some l) (hm : P.cellsOf t = m) (h : OkS P gs (n + 1) t vs) : vs.length = m ∧ ∀ p ∈ l, OkS P gs n p.1 ((vs.drop p.2).take (P.cellsOf p.1)) := by
  unfold fieldsOf at hu
  unfold OkS at h
  split at hu
  · rename_i fs hfs
    rw [hfs] at h
    cases hu
    refine ⟨hm ▸ h.1, fun p hp => ?_⟩
    obtain ⟨f, hf, rfl⟩ := List.mem_map.1 hp
    exact h.2 f hf
  · cases hu
theorem OkS.slice {X : Type} {f : X → List Value} {Q : X → Prop} {e es : Nat} (hu : P.underlying t = some (.slice e)) (he : P.cellsOf e = es) (hf : ∀ x, (f x).length = es)
    (hel : ∀ us, OkS P gs n e us → ∃ x, us = f x ∧ Q x) (h : OkS P gs (n + 1) t vs) :
    ∃ (a : Option Addr) (xs : List X) (c : Nat) (r : List Nat), vs = [.slice a xs.length c] ∧ (xs.length ≤ 9223372036854775807 ∧ xs.length * P.bytesOf e ≤ reachBytes) ∧ RdS (startH gs) es (.slice a xs.length c) (xs.flatMap f) r ∧ (∀ b ∈ r, b < (startH gs).next) ∧ ∀ x ∈ xs, Q x := by
  unfold OkS at h
  rw [hu] at h
  rcases h with rfl | ⟨b, c, rfl, _⟩ | ⟨b, l, c, cells, rfl, hlc, hcm, hg, hl, hc⟩
  · exact ⟨none, [], 0, [], rfl, ⟨by simp, by simp⟩, .nil, by simp, by simp⟩
  · exact ⟨some ⟨b, 0, none⟩, [], 0, [], rfl, ⟨by simp, by simp⟩, .empty _, by simp, by simp⟩
  · rw [he] at hl hc
    obtain ⟨xs, h1, h2⟩ := list_of (Q := fun i (x : X) => (cells.drop (i * es)).take es = f x ∧ Q x) l fun i hi => hel _ (hc i hi)
    have hb := (List.getElem?_eq_some_iff.1 hg).1
    have hm : maxLen = 9223372036854775807 := rfl
    have hq : ∀ x ∈ xs, Q x := fun x hx => by
      obtain ⟨i, hi⟩ := List.getElem?_of_mem hx
      exact (h2 i x hi).2
    have hcl : cells.length = xs.length * es := by rw [h1]; exact hl
    have e1 : cells = xs.flatMap f := flat_of (f := f) xs _ hcl (fun x _ => hf x) fun i x hx => (h2 i x hx).1
    refine ⟨some ⟨b, 0, none⟩, xs, c, [b], by rw [h1], ⟨by have := hcm.1; omega, Nat.le_trans (Nat.mul_le_mul_right _ (show xs.length ≤ c by omega)) hcm.2⟩, ?_, by simp; rw [next_startH]; exact hb, hq⟩
    rw [← e1]
    have := RdS.blk (H := startH gs) (b := b) (es := es) (off := 0) (l := xs.length) (c := c) (cs := cells) (e := 0) (ro := true) (by rw [get_startH, List.getD_eq_getElem?_getD, hg]; rfl) (by omega) (.inl rfl) (by omega)
    rw [List.drop_zero, List.take_of_length_le (by omega)] at this
    exact this
end
end Go.E
