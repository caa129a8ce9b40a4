/-
  THE EVALUATOR, PART ZI: maps with keys that are looked up at once (whole numbers, strings), as assertions.
-/
import Derived.Test.YtamcfhhcmjagnaaEhZh
set_option linter.unusedSimpArgs false
set_option linter.unusedVariables false
set_option linter.unusedSectionVars false
namespace Go.E
open Go
structure KeyEnc {α : Type} [DecidableEq α] (kd : TypeDesc) (enc : α → Value) : Prop where
  ok : ∀ a, keyOk kd (enc a) = true
  same : ∀ a b, Instr.sameNow kd (enc a) (enc b) = some (decide (a = b))
section
variable {α : Type} [DecidableEq α]
def kvE (e : MapEntry) : Value × Value := (e.key, e.val)
def kvP (enc : α → Value) (p : α × Value) : Value × Value := (enc p.1, p.2)
variable {kd : TypeDesc} {enc : α → Value} (hE : KeyEnc kd enc)
include hE
end
section
variable {α : Type} [DecidableEq α]
def im (enc : α → Value) (m : Nat) (kv : List (α × Value)) : Asn := exA fun (x : List MapEntry × Nat) => seps [pto m (.map x.1 x.2), pur (x.1.map kvE = kv.map (kvP enc))]
variable {C : Nat → Callee} {T : FEnv} {B H : AHeap} {As : List Asn} {K : FEnv → AHeap → Prop} {d : Nat} {g : Option (Nat × Bool)} {kd : TypeDesc} {enc : α → Value} {m : Nat} {kv : List (α × Value)}
variable (hE : KeyEnc kd enc)
include hE
end
theorem chk_unw {rs : List (FEnv × AHeap)} {Tf : FEnv} {o : NOper} {os : List NOper} {b : Nat} {c : List Nat} {cs : List (List Nat)} {r : Nat} {T : FEnv} {H : AHeap} (n : Nat) (hn : r + n + 1 = rs.length) (hs : rs[n]? = some (T, H)) (hw : wantedF o.guard T = false) (k : chkF rs.reverse Tf os cs (r + 1)) : chkF rs.reverse Tf (o :: os) ((b :: c) :: cs) r := by
  unfold chkF
  rw [rev_get hn hs]
  exact ⟨fun h => (by rw [hw] at h; cases h), k⟩
end Go.E
