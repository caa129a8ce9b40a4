/-
  THE EVALUATOR, PART ZI: maps with keys that are looked up at once (whole numbers, strings), as assertions.
-/
import Derived.Test.YtnbjnjichhepiaaDoorEwZh
set_option linter.unusedSimpArgs false
set_option linter.unusedVariables false
set_option linter.unusedSectionVars false
namespace Go.E
open Go
structure KeyEnc {α : Type} [DecidableEq α] (kd : TypeDesc) (enc : α → Value) : Prop where
  ok : ∀ a, keyOk kd (enc a) = true
  same : ∀ a b, Instr.sameNow kd (enc a) (enc b) = some (decide (a = b))
section
variable {α : Type} [DecidableEq α]
def kvE (e : MapEntry) : Value × Value := (e.key, e.val)
def kvP (enc : α → Value) (p : α × Value) : Value × Value := (enc p.1, p.2)
variable {kd : TypeDesc} {enc : α → Value} (hE : KeyEnc kd enc)
include hE
end
section
variable {α : Type} [DecidableEq α]
structure BornOk (es : List MapEntry) (clock : Nat) : Prop where
  nodup : (es.map (·.born)).Nodup
  lt : ∀ e ∈ es, e.born < clock
theorem BornOk.nil : BornOk [] 0 := ⟨List.nodup_nil, by simp⟩
theorem BornOk.app {es : List MapEntry} {clock : Nat} (h : BornOk es clock) (k v : Value) : BornOk (es ++ [{ key := k, val := v, born := clock }]) (clock + 1) := by
  refine ⟨?_, fun e he => ?_⟩
  · rw [List.map_append, List.nodup_append]
    refine ⟨h.nodup, by simp, fun a ha b hb => ?_⟩
    simp only [List.map_cons, List.map_nil, List.mem_singleton] at hb
    subst hb
    obtain ⟨e, he, rfl⟩ := List.mem_map.1 ha
    have := h.lt e he
    omega
  · rcases List.mem_append.1 he with he | he
    · have := h.lt e he; omega
    · simp only [List.mem_singleton] at he
      subst he
      exact Nat.lt_succ_self _
theorem BornOk.erase {es : List MapEntry} {clock : Nat} (h : BornOk es clock) (j : Nat) : BornOk (es.eraseIdx j) clock :=
  ⟨((List.eraseIdx_sublist es j).map _).nodup h.nodup, fun e he => h.lt e ((List.eraseIdx_sublist es j).mem he)⟩
def im (enc : α → Value) (m : Nat) (kv : List (α × Value)) : Asn := exA fun (x : List MapEntry × Nat) => seps [pto m (.map x.1 x.2), pur (x.1.map kvE = kv.map (kvP enc) ∧ BornOk x.1 x.2)]
variable {C : Callees} {T : FEnv} {B H : AHeap} {As : List Asn} {K : FEnv → AHeap → Prop} {d : Nat} {g : Option (Nat × Bool)} {kd : TypeDesc} {enc : α → Value} {m : Nat} {kv : List (α × Value)}
variable (hE : KeyEnc kd enc)
include hE
end
end Go.E
