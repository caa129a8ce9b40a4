/-
  THE EVALUATOR, PART ZL: arguments read kind by kind: numbers, switches, strings, structs, arrays, slices; rows of slices.
-/
import Derived.Test.YtlkgacbholklkaaEwZk
import Derived.Test.YtlkgacbholklkaaEwZb
import Derived.Test.YtlkgacbholklkaaEwZd
set_option linter.unusedSimpArgs false
set_option linter.unusedVariables false
namespace Go.E
open Go
section
variable {P : Program} {gs : List AObj} {n : Nat} {t : TypeId} {vs : List Value}
theorem OkA.int {k : IntKind} (hu : P.underlying t = some (.int k)) (h : OkA P gs (n + 1) t vs) : ∃ x, vs = [.int k x] ∧ k.min ≤ x ∧ x ≤ k.max := by
  unfold OkA at h
  rw [hu] at h
  obtain ⟨x, rfl, hw⟩ := h
  simp only [Lit.wf, decide_eq_true_eq] at hw
  exact ⟨x, rfl, by simpa using hw⟩
theorem OkA.i64 (hu : P.underlying t = some (.int .i64)) (h : OkA P gs (n + 1) t vs) : ∃ x : Int, vs = [.int .i64 x] ∧ -9223372036854775808 ≤ x ∧ x ≤ 9223372036854775807 := by
  obtain ⟨x, rfl, h1, h2⟩ := h.int hu
  exact ⟨x, rfl, by simpa [IntKind.min, IntKind.signed, IntKind.bits] using h1, by simpa [IntKind.max, IntKind.signed, IntKind.bits] using h2⟩
theorem OkA.i32 (hu : P.underlying t = some (.int .i32)) (h : OkA P gs (n + 1) t vs) : ∃ x : Int, vs = [.int .i32 x] ∧ -2147483648 ≤ x ∧ x ≤ 2147483647 := by
  obtain ⟨x, rfl, h1, h2⟩ := h.int hu
  exact ⟨x, rfl, by simpa [IntKind.min, IntKind.signed, IntKind.bits] using h1, by simpa [IntKind.max, IntKind.signed, IntKind.bits] using h2⟩
theorem OkA.u8 (hu : P.underlying t = some (.int .u8)) (h : OkA P gs (n + 1) t vs) : ∃ x : Int, vs = [.int .u8 x] ∧ 0 ≤ x ∧ x ≤ 255 := by
  obtain ⟨x, rfl, h1, h2⟩ := h.int hu
  exact ⟨x, rfl, by simpa [IntKind.min, IntKind.signed, IntKind.bits] using h1, by simpa [IntKind.max, IntKind.signed, IntKind.bits] using h2⟩
theorem OkA.bool (hu : P.underlying t = some .bool) (h : OkA P gs (n + 1) t vs) : ∃ b, vs = [.bool b] := by
  unfold OkA at h
  rw [hu] at h
  exact h
theorem OkA.string (hu : P.underlying t = some .string) (h : OkA P gs (n + 1) t vs) : ∃ s : ByteArray, vs = [.string s] ∧ s.size ≤ 9223372036854775807 := by
  unfold OkA at h
  rw [hu] at h
  exact h
def fieldsOf (P : Program) (t : TypeId) : Option (List (TypeId × Nat)) := match P.underlying t with | some (.struct fs) => some (fs.toList.map fun f => (f.type, f.offset)) | _ => none
theorem OkA.struct {l : List (TypeId × Nat)} {m : Nat} (hu : fieldsOf P t = some l) (hm : P.cellsOf t = m) (h : OkA P gs (n + 1) t vs) : vs.length = m ∧ ∀ p ∈ l, OkA P gs n p.1 ((vs.drop p.2).take (P.cellsOf p.1)) := by
  unfold fieldsOf at hu
  unfold OkA at h
  split at hu
  · rename_i fs hfs
    rw [hfs] at h
    cases hu
    refine ⟨hm ▸ h.1, fun p hp => ?_⟩
    obtain ⟨f, hf, rfl⟩ := List.mem_map.1 hp
    exact h.2 f hf
  · cases hu
theorem OkA.array {m k e es : Nat} (hu : P.underlying t = some (.array m e)) (hk : P.cellsOf t = k) (he : P.cellsOf e = es) (h : OkA P gs (n + 1) t vs) : vs.length = k ∧ ∀ i, i < m → OkA P gs n e ((vs.drop (i * es)).take es) := by
  unfold OkA at h
  rw [hu] at h
  exact ⟨hk ▸ h.1, fun i hi => he ▸ h.2 i hi⟩
theorem flat_of {X : Type} {f : X → List Value} {es : Nat} : ∀ (xs : List X) (cells : List Value), cells.length = xs.length * es → (∀ x ∈ xs, (f x).length = es) → (∀ (i : Nat) x, xs[i]? = some x → (cells.drop (i * es)).take es = f x) → cells = xs.flatMap f
  | [], cells, hl, _, _ => by simpa using hl
  | x :: xs, cells, hl, hes, h => by
    have h0 := h 0 x rfl
    rw [Nat.zero_mul, List.drop_zero] at h0
    rw [List.flatMap_cons, ← h0, ← flat_of (f := f) (es := es) xs (cells.drop es) (by rw [List.length_drop, hl, List.length_cons, Nat.add_mul, Nat.one_mul, Nat.add_sub_cancel]) (fun y hy => hes y (by simp [hy])) (fun i q hq => by
      have := h (i + 1) q (by simpa using hq)
      rw [List.drop_drop, show es + i * es = (i + 1) * es by rw [Nat.add_mul, Nat.one_mul, Nat.add_comm]]
      exact this), List.take_append_drop]
theorem OkA.slice {X : Type} {f : X → List Value} {Q : X → Prop} {e es : Nat} (hu : P.underlying t = some (.slice e)) (he : P.cellsOf e = es) (hf : ∀ x, (f x).length = es)
    (hel : ∀ us, OkA P gs n e us → ∃ x, us = f x ∧ Q x) (h : OkA P gs (n + 1) t vs) :
    ∃ (a : Option Addr) (xs : List X) (c : Nat) (r : List Nat), vs = [.slice a xs.length c] ∧ xs.length ≤ 9223372036854775807 ∧ RdS (startH gs) es (.slice a xs.length c) (xs.flatMap f) r ∧ (∀ b ∈ r, b < (startH gs).next) ∧ ∀ x ∈ xs, Q x := by
  unfold OkA at h
  rw [hu] at h
  rcases h with rfl | ⟨b, c, rfl, _⟩ | ⟨b, l, c, cells, rfl, hlc, hcm, hg, hl, hc⟩
  · exact ⟨none, [], 0, [], rfl, by simp, .nil, by simp, by simp⟩
  · exact ⟨some ⟨b, 0, none⟩, [], 0, [], rfl, by simp, .empty _, by simp, by simp⟩
  · rw [he] at hl hc
    obtain ⟨xs, h1, h2⟩ := list_of (Q := fun i (x : X) => (cells.drop (i * es)).take es = f x ∧ Q x) l fun i hi => hel _ (hc i hi)
    have hb := (List.getElem?_eq_some_iff.1 hg).1
    have hm : maxLen = 9223372036854775807 := rfl
    have hq : ∀ x ∈ xs, Q x := fun x hx => by
      obtain ⟨i, hi⟩ := List.getElem?_of_mem hx
      exact (h2 i x hi).2
    have hcl : cells.length = xs.length * es := by rw [h1]; exact hl
    have e1 : cells = xs.flatMap f := flat_of (f := f) xs _ hcl (fun x _ => hf x) fun i x hx => (h2 i x hx).1
    refine ⟨some ⟨b, 0, none⟩, xs, c, [b], by rw [h1], by omega, ?_, by simp; rw [next_startH]; exact hb, hq⟩
    rw [← e1]
    have := RdS.blk (H := startH gs) (b := b) (es := es) (off := 0) (l := xs.length) (c := c) (cs := cells) (e := 0) (ro := true) (by rw [get_startH, List.getD_eq_getElem?_getD, hg]; rfl) (by omega) (.inl rfl) (by omega)
    rw [List.drop_zero, List.take_of_length_le (by omega)] at this
    exact this
end
theorem RdS.row {X : Type} {f : X → List Value} {H : AHeap} {a : Option Addr} {l c i es : Nat} {xs : List X} {x : X} {r : List Nat} (hf : ∀ x, (f x).length = es) (h : RdS H es (.slice a l c) (xs.flatMap f) r) (hl : l = xs.length) (hx : xs[i]? = some x) :
    ∃ b off cs e ro, a = some ⟨b, off, none⟩ ∧ H.get b = .cells cs e ro ∧ off + i * es + es ≤ cs.length ∧ (cs.drop (off + i * es)).take es = f x := by
  have hi : i < xs.length := (List.getElem?_eq_some_iff.1 hx).1
  obtain ⟨b, off, cs, e, ro, rfl, _, hg, hlen, hv⟩ := h.at (i := i) (by omega)
  have hm : i * es + es ≤ l * es := by
    have := Nat.mul_le_mul_right es (show i + 1 ≤ l by omega)
    rwa [Nat.succ_mul] at this
  refine ⟨b, off, cs, e, ro, rfl, hg, by omega, ?_⟩
  have hcut := flatMap_cut hf hx
  apply List.ext_getElem?
  intro j
  by_cases hj : j < es
  · rw [List.getElem?_take, if_pos hj, List.getElem?_drop, hv j hj, ← hcut, List.getElem?_take, if_pos hj, List.getElem?_drop]
  · rw [List.getElem?_eq_none (by rw [List.length_take]; omega), List.getElem?_eq_none (by rw [hf]; omega)]
section
variable {P : Program} {gs : List AObj} {n : Nat} {t : TypeId} {vs : List Value}
end
end Go.E
