/-
  THE EVALUATOR, PART ZE: the entries over bytes.
-/
import Derived.Test.YtlkgacbholklkaaEwZd
set_option linter.unusedSimpArgs false
set_option linter.unusedVariables false
namespace Go.E
open Go
section
variable {C : Callees} {T : FEnv} {H : AHeap} {K : FEnv → AHeap → Prop}
end
theorem toBytes_u8 (l : List Int) : toBytes (l.map (.int .u8 ·)) = some (l.map fun n => UInt8.ofNat n.toNat) := by
  induction l with
  | nil => rfl
  | cons a l ih => simp only [List.map_cons, toBytes] at ih ⊢; rw [ih]; rfl
theorem RdS.bytesV {H : AHeap} {v : Value} {l : List Int} {r : List Nat} (h : RdS H 1 v (l.map (.int .u8 ·)) r) : bytesV H v = some (l.map fun n => UInt8.ofNat n.toNat) := by
  generalize hx : l.map (Value.int .u8 ·) = xs at h
  cases h with
  | nil =>
    have : l = [] := by simpa using hx
    subst this; rfl
  | empty a =>
    have : l = [] := by simpa using hx
    subst this; rfl
  | @blk b off n c cs e ro hg hc he hl =>
    have hl : n = l.length := by have := congrArg List.length hx; simp at this; omega
    simp only [Go.E.bytesV]
    split
    · rename_i h0
      have : l = [] := List.eq_nil_of_length_eq_zero (by omega)
      subst this; rfl
    · simp only [AHeap.row, hg]
      rw [Nat.mul_one] at hc hx
      rw [if_pos hc, Option.bind_some, ← hx, toBytes_u8]
end Go.E
