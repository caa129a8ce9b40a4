/-
  THE EVALUATOR, PART V: calls of which something is known are not run again; one level of a call, for the functions' own lemmas.
-/
import Derived.Test.YtgmmkajjigmjoaaEngU
set_option linter.unusedSimpArgs false
set_option linter.unusedVariables false
namespace Go.E
open Go
variable {P : Program} {G : Nat}
/-- what a function's run gives back -/
def finishN (g : NFunc) (o : Out) : Option (Value × AHeap) :=
  match o with
  | some (.exit _, _, _) => none
  | some (_, T, H') => (resultsN T H' g.results).map fun vs => (resultV vs, H')
  | none => none

def enterN (g : NFunc) (args : List Value) : Env := args ++ List.replicate (g.ntmps - args.length) undef

/-- calls, where X is asked first -/
def callX (X : Callee) (N : NProg) : Nat → Callee
  | 0, f, args, H => X f args H
  | n + 1, f, args, H => match X f args H with
    | some r => some r
    | none => match N f with
      | some g => finishN g (execN (callX X N n) n g.body (enterN g args) H)
      | none => none

theorem callX_eq {X : Callee} {N : NProg} {n f : Nat} {args : List Value} {H : AHeap} {g : NFunc} (h : N f = some g) (hx : X f args H = none) : callX X N (n + 1) f args H = finishN g (execN (callX X N n) n g.body (enterN g args) H) := by
  simp only [callX, hx, h]

/-- one level of a call is sound, if the calls below it are -/
theorem body_sound (hm : P.follows .mixedOrders = true) {C : Callee} (hC : CalleeOk P G C) {n f : Nat} {g : NFunc} (hN : cProg P G f = some g) {args : List Value} {H : AHeap} {v : Value} {H' : AHeap}
    (h : finishN g (execN C n g.body (enterN g args) H) = some (v, H')) : ∀ φ args' w, GOk G φ → VRs φ args args' → Sim φ H w →
    (∃ fn, P.funcs[f]? = some fn ∧ fn.body.isSome = true ∧ fn.name ≠ "runtime.NumGoroutine") ∧
    Calls P f args'.toArray w fun e w' => ∃ φ' v', e = .returned v' ∧ VR φ' v v' ∧ Stp φ H w φ' H' w' := by
  intro φ args' w hg hargs hs
  simp only [cProg, Option.bind_eq_some_iff] at hN
  obtain ⟨fn, hfn, hcf⟩ := hN
  unfold cFunc at hcf
  split at hcf
  · cases hcf
  rename_i c hbody
  split at hcf
  · cases hcf
  rename_i hname
  simp only [Option.bind_eq_some_iff, Option.map_eq_some_iff] at hcf
  obtain ⟨b, hb, rs, hrs, rfl⟩ := hcf
  refine ⟨⟨fn, hfn, by rw [hbody]; rfl, hname⟩, ?_⟩
  refine calls_of_wp hfn hbody ?_
  have hlen := hargs.length
  have ht0 : VRs φ (args ++ List.replicate (fn.ntmps - args.length) undef) (args'.toArray ++ Array.replicate (fn.ntmps - args'.toArray.size) undef).toList := by
    simp only [Array.toList_append, Array.toList_replicate, List.size_toArray, ← hlen]
    exact hargs.append (VRs.replicate (undefR φ) _)
  have key : ∀ (x : NX) (T : Env) (H1 : AHeap) (vs : List Value), x = .normal ∨ x = .ret → execN C n b (args ++ List.replicate (fn.ntmps - args.length) undef) H = some (x, T, H1) → resultsN T H1 rs = some vs →
      c.wp P (bodyPost P fn fun e w' => ∃ φ' v', e = .returned v' ∧ VR φ' (resultV vs) v' ∧ Stp φ H w φ' H1 w') { tmps := args'.toArray ++ Array.replicate (fn.ntmps - args'.toArray.size) undef, defers := [] } w := by
    intro x T H1 vs hx he hv
    refine Code.wp_mono ?_ (exec_sound (drawSound hm) hC c b hb _ H x T H1 he φ _ w hg ht0 hs)
    rintro e a' w' ⟨rfl, hds, φ', ht', hst⟩
    obtain ⟨vs', h1, h2⟩ := resN_sound ht' hst.sim hrs hv
    have hr : (results fn a'.tmps).run P w' = .ok (if h : vs'.toArray.size = 1 then vs'.toArray[0] else .tuple vs'.toArray) w' := by
      rw [results_eq, Array.mapM_eq_mapM_toList]
      simp only [Sem.run_bind, Sem.run_map]
      rw [h2]
      rfl
    rcases hx with rfl | rfl
    · exact ⟨hds, _, hr, φ', _, rfl, resultV_rel h1, hst⟩
    · exact ⟨hds, _, hr, φ', _, rfl, resultV_rel h1, hst⟩
  unfold finishN at h
  split at h
  · cases h
  · rename_i x T H1 hx he
    simp only [Option.map_eq_some_iff, Prod.mk.injEq] at h
    obtain ⟨vs, hv, rfl, rfl⟩ := h
    refine key x T H1 vs ?_ he hv
    cases x with
    | normal => exact .inl rfl
    | ret => exact .inr rfl
    | exit i => exact absurd rfl (hx i)
  · cases h

theorem callX_sound (hm : P.follows .mixedOrders = true) {X : Callee} (hX : CalleeOk P G X) : ∀ n, CalleeOk P G (callX X (cProg P G) n)
  | 0 => hX
  | n + 1 => fun f args H v H' h => by
    simp only [callX] at h
    split at h
    · rename_i r hx
      cases h
      exact hX f args H v H' hx
    · split at h
      · rename_i g hN
        exact body_sound hm (callX_sound hm hX n) hN h
      · cases h

end Go.E
