/-
  THE EVALUATOR, PART ZK: strings compared; bound methods; cuts behind which the code may have returned.
-/
import Derived.Test.YtamcfhhcmjagnaaEhZj
set_option linter.unusedSimpArgs false
set_option linter.unusedVariables false
namespace Go.E
open Go
structure CutR (ds : List Nat) (J : List Value → AHeap → Prop) (Q : Post) (x : NX) (T : FEnv) (H : AHeap) : Prop where
  out : match x with
    | .normal => J (ds.map T) H
    | x => Q x T H
theorem cutR_ret {ds : List Nat} {J : List Value → AHeap → Prop} {Q : Post} {T : FEnv} {H : AHeap} (k : Q .ret T H) : CutR ds J Q .ret T H := ⟨k⟩
theorem cutR0 {J : List Value → AHeap → Prop} {Q : Post} {T : FEnv} {H : AHeap} (k : J [] H) : CutR [] J Q .normal T H := ⟨k⟩
theorem wp_cutR {C : Nat → Callee} {a b : NCode} {T : FEnv} {H : AHeap} {Q : Post} (ds : List Nat) (J : List Value → AHeap → Prop) (h1 : WP C a T H (CutR ds J Q))
    (h2 : ∀ vs T' H', J vs H' → WP C b (updL (havoc (asg a) T T') ds vs) H' Q) : WP C (.seq a b) T H Q :=
  ⟨fun Q' hQ => wp_mono (c := a) (fun x T' H' ⟨k, ha⟩ => by
    cases x with
    | normal =>
      have := h2 _ T' H' k.out
      rw [havoc_eq ha, updL_self] at this
      exact this.out Q' hQ
    | ret => exact hQ _ _ _ k.out
    | exit i => exact hQ _ _ _ k.out) (wp_frame (c := a) (h1.out _ fun _ _ _ k => k))⟩
theorem bool_leaf {x : Bool} {P : Prop} [Decidable P] (h : x = true ↔ P) : [Value.bool x] = [.bool (decide P)] := by
  congr 2
  cases x
  · rw [decide_eq_false (fun hp => by have := h.2 hp; cases this)]
  · rw [decide_eq_true (h.1 rfl)]
section
variable {C : Nat → Callee} {T : FEnv} {H : AHeap} {K : KO}
end
end Go.E
