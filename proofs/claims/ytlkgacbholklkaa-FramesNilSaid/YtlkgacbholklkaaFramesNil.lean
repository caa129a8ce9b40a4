/- FramesNil answers true for all numbers: the whole road is one run of the evaluator (EhA to EhS), the numbers being looked at nowhere. No condition. -/
import Derived.Test.YtlkgacbholklkaaRows
import Derived.Test.YtlkgacbholklkaaEhS
import Derived.KernelRfl
namespace Go.Proofs.Ytlkgacbholklkaa.framesNil
open Go Go.E Go.ChangeShapes Go.WideShapes Go.ChangeAt Go.RowKit
set_option linter.unusedVariables false
set_option maxRecDepth 100000

theorem own : ownKnob Try.prog.godebug = none := by kernel_rfl
theorem laidOut : laidOutB Try.prog = true := by kernel_rfl
theorem mixed : Try.prog.follows .mixedOrders = true := by kernel_rfl
theorem shapes : shapesT Try.prog Try.f9.params.toList = some [(false, [false]), (false, [false]), (false, [false])] := by kernel_rfl

theorem run1 : ((callN (cProg Try.prog 0) 40 (.fn 9) [J, J, J] AHeap.empty).map (·.1)) = some (.bool true) := by kernel_rfl

theorem run (bss : List (List Bool)) (h : Fills [(false, [false]), (false, [false]), (false, [false])] bss) : ((callN (cProg Try.prog 0) 40 (.fn 9) (fillArgs [(false, [false]), (false, [false]), (false, [false])] bss) AHeap.empty).map (·.1)) = some (.bool true) := by
  cases h with
  | cons h1 h2 =>
  cases h2 with
  | cons h2 h3 =>
  cases h3 with
  | cons h3 h4 =>
    cases h4
    rename_i a b c
    match a, b, c, h1, h2, h3 with
    | [_], [_], [_], _, _, _ => exact run1

theorem contract (Hd : Type) (enc : TypeId × Value → Hd) (W : World) (base : Nat) (args : Array Value) (ds gs : List (DataW Hd)) (before : List MemPlace)
    (hval : ∀ (j : Nat) t v, Try.f9.params[j]? = some t → args[j]? = some v → Value.okWide Try.prog W .any base t v)
    (hW : DataW.Whole enc Try.prog Try.f9.params.toList Rows.framesNilSpec.vars false W args.toList ds gs before) :
    Calls Try.prog 9 args W fun e W' => ∃ v, e = .returned v ∧ Rows.framesNilSpec.post enc Try.prog Try.f9 false true false false W args v W' := by
  obtain ⟨p, q, hA, _⟩ := id hW
  refine (calls_of_run mixed shapes run (trodAll_length hA).1 (fun j t v a b => hval j t v (by simpa using a) (by simpa using b))).mono fun e W' ⟨he, hb⟩ => ?_
  exact ⟨_, he, post_of_below (tb := 4) laidOut (fun t ht => of_decide_eq_true ((List.all_eq_true.1 (show (Try.f9.params.toList.all fun t => decide (Try.prog.readableRec t = true ∧ t < Try.prog.types.size)) = true by kernel_rfl)) t ht)) rfl (by kernel_rfl) Try.underlying4
    (fun xs hx => by
      match xs, hx with
      | [d1, d2, d3], _ => rfl) hW hb⟩

theorem lifted (os : Os) (started : os.Started) (Hd : Type) (enc : TypeId × Value → Hd) :
    ReturnsInHanded {} Try.checked os 9 .any (Rows.framesNilSpec.pre6 enc Try.prog Try.f9 Rows.framesNilRow.domain false) (Rows.framesNilSpec.post enc Try.prog Try.f9 false true false false) := by
  refine returnsInHanded_of_change (C := Try.checked) own started (by kernel_rfl) Try.func9
    (ChangeSpec.witness6 (enc := enc) (C := Try.checked) false ⟨#[], #[.int .i64 0, .int .i64 0, .int .i64 0], []⟩ 8 (by kernel_rfl) (by kernel_rfl) (by kernel_rfl) (by kernel_rfl)) ?_
  intro W base args ds gs before hval hW _ _
  exact contract Hd enc W base args ds gs before hval hW

theorem proved : Rows.FramesNilSaid :=
  OpenClaim.holds_of_wide 9 Try.f9 rfl rfl rfl rfl rfl rfl rfl ⟨rfl, rfl, rfl, rfl, rfl⟩ rfl rfl rfl rfl rfl (by kernel_rfl) Try.func9 (by kernel_rfl)
    (of_decide_eq_true (by kernel_rfl)) (by unfold Func.isWrapper; first | (rw [if_pos (by decide +kernel)]; kernel_rfl) | (rw [if_neg (by decide +kernel)]; exact ⟨rfl, rfl⟩))
    (fun os started H enc _ => lifted os started H enc)
#print axioms proved
end Go.Proofs.Ytlkgacbholklkaa.framesNil
