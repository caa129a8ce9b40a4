/- PipeNil answers true for every Act, and leaves it as it was: the whole road is one run of the evaluator (EngA to EngS), the Act being looked at nowhere. No condition. -/
import Derived.Test.YtgmmkajjigmjoaaRows
import Derived.Test.YtgmmkajjigmjoaaEngS
import Derived.KernelRfl
namespace Go.Proofs.Ytgmmkajjigmjoaa.pipeNil
open Go Go.E Go.ChangeShapes Go.WideShapes Go.ChangeAt Go.RowKit
set_option linter.unusedVariables false
set_option maxRecDepth 100000

theorem own : ownKnob Try.prog.godebug = none := by kernel_rfl
theorem laidOut : laidOutB Try.prog = true := by kernel_rfl
theorem mixed : Try.prog.follows .mixedOrders = true := by kernel_rfl
theorem shapes : shapesT Try.prog Try.f5.params.toList = some [(true, [false, false, false, false, true])] := by kernel_rfl

theorem run1 (b : Bool) : ((callN (cProg Try.prog 0) 40 5 [.agg ⟨[J, J, J, J, .bool b]⟩] AHeap.empty).map (·.1)) = some (.bool true) := by kernel_rfl

theorem run (bss : List (List Bool)) (h : Fills [(true, [false, false, false, false, true])] bss) : ((callN (cProg Try.prog 0) 40 5 (fillArgs [(true, [false, false, false, false, true])] bss) AHeap.empty).map (·.1)) = some (.bool true) := by
  cases h with
  | cons h1 h2 =>
    cases h2
    rename_i bs
    match bs, h1 with
    | [_, _, _, _, b], _ => exact run1 b

theorem contract (Hd : Type) (enc : TypeId × Value → Hd) (W : World) (base : Nat) (args : Array Value) (ds gs : List (DataW Hd)) (before : List MemPlace)
    (hval : ∀ (j : Nat) t v, Try.f5.params[j]? = some t → args[j]? = some v → Value.okWide Try.prog W .any base t v)
    (hW : DataW.Whole enc Try.prog Try.f5.params.toList Rows.pipeNilSpec.vars false W args.toList ds gs before) :
    Calls Try.prog 5 args W fun e W' => ∃ v, e = .returned v ∧ Rows.pipeNilSpec.post enc Try.prog Try.f5 false true false false W args v W' := by
  obtain ⟨p, q, hA, _⟩ := id hW
  refine (calls_of_run mixed shapes run (trodAll_length hA).1 (fun j t v a b => hval j t v (by simpa using a) (by simpa using b))).mono fun e W' ⟨he, hb⟩ => ?_
  exact ⟨_, he, post_of_below (tb := 4) laidOut (fun t ht => of_decide_eq_true ((List.all_eq_true.1 (show (Try.f5.params.toList.all fun t => decide (Try.prog.readableRec t = true ∧ t < Try.prog.types.size)) = true by kernel_rfl)) t ht)) rfl (by kernel_rfl) Try.underlying4
    (fun xs hx => by
      match xs, hx with
      | [d1], _ => rfl) hW hb⟩

theorem lifted (os : Os) (started : os.Started) (Hd : Type) (enc : TypeId × Value → Hd) :
    ReturnsInHanded {} Try.checked os 5 .any (Rows.pipeNilSpec.pre6 enc Try.prog Try.f5 Rows.pipeNilRow.domain false) (Rows.pipeNilSpec.post enc Try.prog Try.f5 false true false false) := by
  refine returnsInHanded_of_change (C := Try.checked) own started (by kernel_rfl) Try.func5
    (ChangeSpec.witness6 (enc := enc) (C := Try.checked) false ⟨#[], #[.agg #[.int .u8 0, .int .i64 0, .int .i64 0, .slice none 0 0, .bool false]], []⟩ 8 (by kernel_rfl) (by kernel_rfl) (by kernel_rfl) (by kernel_rfl)) ?_
  intro W base args ds gs before hval hW _ _
  exact contract Hd enc W base args ds gs before hval hW

theorem proved : Rows.PipeNilSaid :=
  OpenClaim.holds_of_wide 5 Try.f5 rfl rfl rfl rfl rfl rfl rfl ⟨rfl, rfl, rfl, rfl, rfl⟩ rfl rfl rfl rfl rfl (by kernel_rfl) Try.func5 (by kernel_rfl)
    (of_decide_eq_true (by kernel_rfl)) (by unfold Func.isWrapper; first | (rw [if_pos (by decide +kernel)]; kernel_rfl) | (rw [if_neg (by decide +kernel)]; exact ⟨rfl, rfl⟩))
    (fun os started H enc _ => lifted os started H enc)
#print axioms proved
end Go.Proofs.Ytgmmkajjigmjoaa.pipeNil
