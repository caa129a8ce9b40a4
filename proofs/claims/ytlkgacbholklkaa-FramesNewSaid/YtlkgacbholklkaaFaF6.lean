/- The table of frames: Alloc. -/
import Derived.Test.YtlkgacbholklkaaFaF345
import Derived.Test.YtlkgacbholklkaaEhZk
namespace Go.E.Fa
open Go Go.E Go.Proofs.Ytlkgacbholklkaa Go.Proofs
set_option linter.unusedVariables false
set_option linter.unusedSimpArgs false
set_option maxRecDepth 100000
def zeros : List Int := List.replicate 64 0
/-! ### what is handed out is free and there -/
theorem skip_free {fr : Nat → Bool} {E : Nat} (n : Nat) {m : Nat} (h1 : n ≤ m) (h2 : m < skip fr E n) : fr m = true := by
  rw [skip.eq_def] at h2
  split at h2
  · rename_i h
    by_cases e : m = n
    · rw [e]; exact h.2
    · exact skip_free (n + 1) (by omega) h2
  · omega
termination_by E - n
/-- a free frame of a pool -/
def FreeIn (M : Fm) (p : Pl) (n : Int) : Prop := p.first ≤ n ∧ n < p.first + p.count ∧ M.refs n = 0
theorem FreeIn.dom {M : Fm} {p : Pl} {n : Int} (hp : PlOk M p) (h : FreeIn M p n) : n ∈ M.dom := by
  have h1 := hp.first
  have := hp.dom n.toNat (by have := h.1; omega) (by have := h.2.1; have := h.1; omega)
  rwa [show ((n.toNat : Nat) : Int) = n by have := h.1; omega] at this
theorem poolOf_ok {T : Tb} (hT : TbOk T) {i : Int} (h0 : 0 ≤ i) (h : i < T.pls.length) : PlOk T.m (poolOf T i) := by
  unfold poolOf
  rw [List.getD_eq_getElem?_getD, List.getElem?_eq_getElem (show i.toNat < T.pls.length by omega), Option.getD_some]
  exact hT.pls _ (List.getElem_mem _)
theorem consec_mem {a n : Int} {k : Nat} : n ∈ consec a k ↔ a ≤ n ∧ n < a + k := by
  unfold consec
  simp only [List.mem_map, List.mem_range]
  constructor
  · rintro ⟨m, hm, rfl⟩; omega
  · intro h; exact ⟨(n - a).toNat, by omega, by omega⟩
end Go.E.Fa
