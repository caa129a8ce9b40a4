/-
  THE EVALUATOR, PART V: calls of which something is known are not run again; one level of a call, for the functions' own lemmas.
-/
import Derived.Test.YtamcfhhcmjagnaaEhU
set_option linter.unusedSimpArgs false
set_option linter.unusedVariables false
namespace Go.E
open Go
variable {P : Program} {G : Nat}
def finishN (g : NFunc) (o : Out) : Option (Value × AHeap) :=
  match o with
  | some (.exit _, _, _) => none
  | some (_, T, H') => (resultsN T H' g.results).map fun vs => (resultV vs, H')
  | none => none

def enterN (g : NFunc) (args : List Value) : Env := args ++ List.replicate (g.ntmps - args.length) undef

def callX (X : Callee) (N : NProg) : Nat → Callee
  | 0, f, args, H => X f args H
  | n + 1, f, args, H => match X f args H with
    | some r => some r
    | none => match f with
      | .fn f => match N.fn f with
        | some g => finishN g (execN (callX X N n) n g.body (enterN g args) H)
        | none => none
      | .yield b => roundN (execN (callX X N n) n) N.code b args H

theorem callX_eq {X : Callee} {N : NProg} {n f : Nat} {args : List Value} {H : AHeap} {g : NFunc} (h : N.fn f = some g) (hx : X (.fn f) args H = none) : callX X N (n + 1) (.fn f) args H = finishN g (execN (callX X N n) n g.body (enterN g args) H) := by
  simp only [callX, hx, h]

theorem body_sound (hm : P.follows .mixedOrders = true) {C : Callee} (hC : CalleeOk P G C) {n f : Nat} {g : NFunc} (hN : (cProg P G).fn f = some g) {args : List Value} {H : AHeap} {v : Value} {H' : AHeap}
    (h : finishN g (execN C n g.body (enterN g args) H) = some (v, H')) : ∀ φ args' w, GOk G φ → VRs φ args args' → Sim φ H w → FidOk P (Gives φ H w v H') φ args'.toArray w (.fn f) := by
  intro φ args' w hg hargs hs
  unfold finishN at h
  split at h
  · cases h
  · rename_i x T H1 hx he
    simp only [Option.map_eq_some_iff, Prod.mk.injEq] at h
    obtain ⟨vs, hv, rfl, rfl⟩ := h
    refine body_soundD (drawSound hm) hC hN ?_ he hv hg hargs hs
    cases x with
    | normal => exact .inl rfl
    | ret => exact .inr rfl
    | exit i => exact absurd rfl (hx i)
  · cases h

theorem callX_sound (hm : P.follows .mixedOrders = true) {X : Callee} (hX : CalleeOk P G X) : ∀ n, CalleeOk P G (callX X (cProg P G) n)
  | 0 => hX
  | n + 1 => fun f args H v H' h => by
    simp only [callX] at h
    split at h
    · rename_i r hx
      cases h
      exact hX f args H v H' hx
    · cases f with
      | fn f =>
        simp only at h
        split at h
        · rename_i g hN
          exact body_sound hm (callX_sound hm hX n) hN h
        · cases h
      | yield b =>
        intro φ args' w hg hargs hs
        exact round_sound (drawSound hm) (callX_sound hm hX n) h hg hargs hs

end Go.E
