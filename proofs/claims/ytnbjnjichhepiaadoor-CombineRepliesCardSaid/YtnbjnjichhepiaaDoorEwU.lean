/-
  THE EVALUATOR, PART T: package-level tables: from what a row lists to the heap that a run begins with.
-/
import Derived.Test.YtnbjnjichhepiaaDoorEwT
import Derived.LaidMore
import Derived.LaidHandle
import Derived.ChangeAnyMap
import Derived.Lib.LaidTab
set_option linter.unusedSimpArgs false
set_option linter.unusedVariables false
namespace Go.E
open Go Go.MapKept Go.ChangeShapes Go.WideShapes Go.RowKit
variable {P : Program}
/-! ### look-ups among distinct keys -/
/-! ### what a reading tells of the cells -/
section
variable {X : Type} {enc : TypeId × Value → X} (hdec : X → Option Value)
mutual
def flatV (P : Program) : Nat → TypeId → DataW X → Option (List Value)
  | 0, _, _ => none
  | n + 1, t, d =>
    match P.underlying t, d with
    | some .bool, .lit (.bool b) => some [.bool b]
    | some (.int k), .lit (.int k' m) => if k = k' then some [.int k m] else none
    | some (.func ..), .held x => (hdec x).map fun v => [v]
    | some (.struct fs), .agg parts => (flatFs P n fs.toList parts 0).bind fun cs => if cs.length = P.cellsOf t then some cs else none
    | some (.array m e), .agg parts => (flatEs P n e m parts).bind fun cs => if cs.length = P.cellsOf t then some cs else none
    | _, _ => none
def flatFs (P : Program) : Nat → List Field → List (DataW X) → Nat → Option (List Value)
  | _, [], [], _ => some []
  | 0, _, _, _ => none
  | n + 1, f :: fs, d :: ds, off => if f.offset = off then (flatV P n f.type d).bind fun cs => if cs.length = P.cellsOf f.type then (flatFs P n fs ds (off + cs.length)).map (cs ++ ·) else none else none
  | _, _, _, _ => none
def flatEs (P : Program) : Nat → TypeId → Nat → List (DataW X) → Option (List Value)
  | _, _, 0, [] => some []
  | 0, _, _, _ => none
  | n + 1, e, m + 1, d :: ds => (flatV P n e d).bind fun cs => if cs.length = P.cellsOf e then (flatEs P n e m ds).map (cs ++ ·) else none
  | _, _, _, _ => none
end
variable {hdec}
mutual
theorem flatV_sound (hdecS : ∀ t f a b v, hdec (enc (t, .func f a b)) = some v → v = .func f a b) {w : World} {base : Nat} {sp : Nat → Bool} {held : Bool} : ∀ (n fuel : Nat) (t : TypeId) (cs : List Value) (d : DataW X) (p : List MemPlace) (vs : List Value),
    DataW.trod enc P w base sp held fuel t cs = some (d, p) → flatV hdec P n t d = some vs → cs = vs
  | 0, _, _, _, _, _, _, _, h => by simp [flatV] at h
  | n + 1, fuel, t, cs, d, p, vs, ht, h => by
    unfold flatV at h
    split at h
    · rename_i hu
      obtain ⟨b, h1, h2⟩ := DataW.trod_bool hu ht
      cases h2; cases h; exact h1
    · rename_i k k' m hu
      split at h
      case isFalse => cases h
      rename_i hk
      subst hk
      obtain ⟨b, h1, h2, _⟩ := DataW.trod_int hu ht
      cases h2; cases h; exact h1
    · rename_i hu
      simp only [Option.map_eq_some_iff] at h
      obtain ⟨v, hv, rfl⟩ := h
      cases fuel with
      | zero => simp [DataW.trod] at ht
      | succ m =>
        unfold DataW.trod at ht
        rw [hu] at ht
        split at ht <;> simp_all
        rw [← ht.2.1] at hv
        rw [hdecS _ _ _ _ _ hv]
    · rename_i fs parts hu
      simp only [Option.bind_eq_some_iff] at h
      obtain ⟨cs', h1, h2⟩ := h
      split at h2
      case isFalse => cases h2
      rename_i hl
      cases h2
      obtain ⟨xs, m, _, h3, h4, h5, h6⟩ := DataW.trod_struct hu ht
      cases h3
      have := flatFs_sound hdecS (w := w) (base := base) (sp := sp) (held := held) n m fs.toList xs 0 vs cs (by simpa using h5) (fun i f hf => h6 i f (by simpa using hf)) h1
      rw [List.drop_zero, List.take_of_length_le (by omega)] at this
      exact this
    · rename_i k e parts hu
      simp only [Option.bind_eq_some_iff] at h
      obtain ⟨cs', h1, h2⟩ := h
      split at h2
      case isFalse => cases h2
      rename_i hl
      cases h2
      obtain ⟨xs, m, _, h3, h4, h5, h6⟩ := DataW.trod_array hu ht
      cases h3
      have := flatEs_sound hdecS (w := w) (base := base) (sp := sp) (held := held) n m e k xs vs cs h5 h6 h1
      rw [← this, List.take_of_length_le (by omega)]
    · cases h
theorem flatFs_sound (hdecS : ∀ t f a b v, hdec (enc (t, .func f a b)) = some v → v = .func f a b) {w : World} {base : Nat} {sp : Nat → Bool} {held : Bool} : ∀ (n m : Nat) (fs : List Field) (xs : List (DataW X × List MemPlace)) (off : Nat) (vs cs : List Value), xs.length = fs.length →
    (∀ (i : Nat) (f : Field), fs[i]? = some f → DataW.trod enc P w base sp held m f.type ((cs.drop f.offset).take (P.cellsOf f.type)) = xs[i]?) → flatFs hdec P n fs (xs.map (·.1)) off = some vs → (cs.drop off).take vs.length = vs
  | n, m, [], [], off, vs, cs, _, _, h => by
    cases n <;> (simp [flatFs] at h; subst h; simp)
  | n, m, [], _ :: _, off, vs, cs, hl, _, h => by simp at hl
  | n, m, _ :: _, [], off, vs, cs, hl, _, h => by simp at hl
  | 0, m, f :: fs, x :: xs, off, vs, cs, hl, hx, h => by simp [flatFs] at h
  | n + 1, m, f :: fs, x :: xs, off, vs, cs, hl, hx, h => by
    simp only [List.map_cons, flatFs] at h
    split at h
    case isFalse => cases h
    rename_i ho
    simp only [Option.bind_eq_some_iff] at h
    obtain ⟨v1, h1, h2⟩ := h
    split at h2
    case isFalse => cases h2
    rename_i hc
    simp only [Option.map_eq_some_iff] at h2
    obtain ⟨v2, h2, rfl⟩ := h2
    have g0 := hx 0 f rfl
    simp only [List.getElem?_cons_zero] at g0
    have e1 := flatV_sound hdecS n m f.type _ x.1 x.2 v1 g0 h1
    have e2 := flatFs_sound hdecS (w := w) (base := base) (sp := sp) (held := held) n m fs xs (off + v1.length) v2 cs (by simpa using hl) (fun i f hf => by simpa using hx (i + 1) f (by simpa using hf)) h2
    rw [ho, ← hc] at e1
    refine List.ext_getElem? fun i => ?_
    rw [List.length_append, ← e1, ← e2]
    simp [List.getElem?_append, List.getElem?_take, List.getElem?_drop]
    grind
theorem flatEs_sound (hdecS : ∀ t f a b v, hdec (enc (t, .func f a b)) = some v → v = .func f a b) {w : World} {base : Nat} {sp : Nat → Bool} {held : Bool} : ∀ (n m : Nat) (e : TypeId) (k : Nat) (xs : List (DataW X × List MemPlace)) (vs cs : List Value), xs.length = k →
    (∀ (i : Nat), i < k → DataW.trod enc P w base sp held m e ((cs.drop (i * P.cellsOf e)).take (P.cellsOf e)) = xs[i]?) → flatEs hdec P n e k (xs.map (·.1)) = some vs → cs.take vs.length = vs
  | n, m, e, 0, [], vs, cs, _, _, h => by
    cases n <;> (simp [flatEs] at h; subst h; simp)
  | n, m, e, 0, _ :: _, vs, cs, hl, _, h => by simp at hl
  | n, m, e, _ + 1, [], vs, cs, hl, _, h => by simp at hl
  | 0, m, e, k + 1, x :: xs, vs, cs, hl, hx, h => by simp [flatEs] at h
  | n + 1, m, e, k + 1, x :: xs, vs, cs, hl, hx, h => by
    simp only [List.map_cons, flatEs, Option.bind_eq_some_iff] at h
    obtain ⟨v1, h1, h2⟩ := h
    split at h2
    case isFalse => cases h2
    rename_i hc
    simp only [Option.map_eq_some_iff] at h2
    obtain ⟨v2, h2, rfl⟩ := h2
    have g0 := hx 0 (by omega)
    simp only [List.getElem?_cons_zero, Nat.zero_mul, List.drop_zero] at g0
    have e1 := flatV_sound hdecS n m e _ x.1 x.2 v1 g0 h1
    have e2 := flatEs_sound hdecS (w := w) (base := base) (sp := sp) (held := held) n m e k xs v2 (cs.drop (P.cellsOf e)) (by simpa using hl) (fun i hi => by
      have := hx (i + 1) (by omega)
      rw [List.drop_drop]
      rw [show P.cellsOf e + i * P.cellsOf e = (i + 1) * P.cellsOf e by rw [Nat.succ_mul]; omega]
      simpa using this) h2
    rw [← hc] at e1 e2
    refine List.ext_getElem? fun i => ?_
    rw [List.length_append, ← e1, ← e2]
    simp [List.getElem?_append, List.getElem?_take, List.getElem?_drop]
    grind
end
end
end Go.E
