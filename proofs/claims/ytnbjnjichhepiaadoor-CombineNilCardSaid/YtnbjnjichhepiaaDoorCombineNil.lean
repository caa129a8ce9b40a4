/- CombineNil answers true for every client and every part, and leaves them as they were: the whole road is one run of the evaluator (EngA to EngU), the arguments being looked at nowhere. Conditions: those of the tied card. -/
import Derived.Test.YtnbjnjichhepiaaDoorBase
namespace Go.Proofs.YtnbjnjichhepiaaDoor.combineNil
open Go Go.E Go.ChangeShapes Go.WideShapes Go.ChangeAt Go.RowKit Go.Proofs.YtnbjnjichhepiaaDoor.base
set_option linter.unusedVariables false
set_option maxRecDepth 100000

theorem shapes : shapesT Tryd.prog Tryd.f7.params.toList = some [(false, [false]), (true, [false, false, false, false, false, false])] := by kernel_rfl

theorem run1 : ((callN (cProg Tryd.prog 2) 80 7 [J, .agg ⟨[J, J, J, J, J, J]⟩] (startH objs)).map (·.1)) = some (.bool true) := by kernel_rfl

theorem run (bss : List (List Bool)) (h : Fills [(false, [false]), (true, [false, false, false, false, false, false])] bss) : ((callN (cProg Tryd.prog 2) 80 7 (fillArgs [(false, [false]), (true, [false, false, false, false, false, false])] bss) (startH objs)).map (·.1)) = some (.bool true) := by
  cases h with
  | cons h1 h2 =>
    cases h2 with
    | cons h3 h4 =>
      cases h4
      rename_i bs cs
      match bs, cs, h1, h3 with
      | [_], [_, _, _, _, _, _], _, _ => exact run1

theorem contract (Hd : Type) (enc : TypeId × Value → Hd) (W : World) (base : Nat) (args : Array Value) (ds gs : List (DataW Hd)) (before : List MemPlace)
    (hval : ∀ (j : Nat) t v, Tryd.f7.params[j]? = some t → args[j]? = some v → Value.okWide Tryd.prog W .any base t v)
    (hW : DataW.Whole enc Tryd.prog Tryd.f7.params.toList Rows.combineNilSpec.vars false W args.toList ds gs before) (hL : laidMetH Tryd.prog laid W) :
    Calls Tryd.prog 7 args W fun e W' => ∃ v, e = .returned v ∧ Rows.combineNilSpec.post enc Tryd.prog Tryd.f7 false true false false W args v W' := by
  obtain ⟨p, q, hA, _⟩ := id hW
  obtain ⟨φ, hg, hs, hw⟩ := Go.Proofs.YtnbjnjichhepiaaDoor.base.start hL
  refine (calls_of_run_at mixed shapes run hg hs hw (trodAll_length hA).1 (fun j t v a b => hval j t v (by simpa using a) (by simpa using b))).mono fun e W' ⟨he, hb⟩ => ?_
  exact ⟨_, he, post_of_below (tb := 4) laidOut (fun t ht => of_decide_eq_true ((List.all_eq_true.1 (show (Tryd.f7.params.toList.all fun t => decide (Tryd.prog.readableRec t = true ∧ t < Tryd.prog.types.size)) = true by kernel_rfl)) t ht)) rfl (by kernel_rfl) Tryd.underlying4
    (fun xs hx => by
      match xs, hx with
      | [d1, d2], _ => rfl) hW hb⟩

theorem lifted (os : Os) (started : os.Started) (Hd : Type) (enc : TypeId × Value → Hd) :
    ReturnsInHanded {} Tryd.checked os 7 .any (fun w args => (Rows.combineNilSpec.pre enc Tryd.prog Tryd.f7 [] false w args ∧ laidMetH Tryd.prog laid w) ∧ sizedMet enc Tryd.prog Tryd.f7 (OpenSpec.ofChange Rows.combineNilSpec) false w args)
      (Rows.combineNilSpec.post enc Tryd.prog Tryd.f7 false true false false) := by
  refine returnsInHanded_of_change_and (C := Tryd.checked) (X := fun w _ => laidMetH Tryd.prog laid w) (fun _ _ _ hh h => h.of_heap hh) own started (by kernel_rfl) Tryd.func7
    (ChangeSpec.witness_shaped (enc := enc) (C := Tryd.checked) (os := os) (X := fun w _ => laidMetH Tryd.prog laid w) false (World.doorLaid Tryd.prog 400 os) #[.int .i64 0, .agg #[.int .i64 0, .int .i64 0, .int .i64 0, .int .i64 0, .string ⟨#[]⟩, .slice none 0 0]] 8 rfl (World.shaped_of_RefB (by kernel_rfl) (by kernel_rfl)) (by kernel_rfl) (by kernel_rfl) (by kernel_rfl) (door_met os _)) ?_
  intro W base args ds gs before hval hW _ _ hL _
  exact contract Hd enc W base args ds gs before hval hW hL

theorem said : Rows.CombineNilSaid :=
  OpenClaim.holds_of_wide 7 Tryd.f7 rfl rfl rfl rfl rfl rfl rfl ⟨rfl, rfl, rfl, rfl, rfl⟩ rfl rfl rfl rfl rfl (by kernel_rfl) Tryd.func7 (by kernel_rfl)
    (of_decide_eq_true (by kernel_rfl)) (by unfold Func.isWrapper; first | (rw [if_pos (by decide +kernel)]; kernel_rfl) | (rw [if_neg (by decide +kernel)]; exact ⟨rfl, rfl⟩))
    (fun os started H enc _ => lifted os started H enc)

/-- No parameter wants a stand-in; the program's own looks are off. -/
theorem plain (f : FuncId) (fn : Func) (hf : Tryd.pinned.checked.prog.funcNamed "orpiment/orpimentlaw23.CombineNil" = some f) (hfn : Tryd.pinned.checked.prog.funcs[f]? = some fn) :
    false = Tryd.pinned.checked.prog.looks [] ∧ ∀ (j : Nat) t, fn.params[j]? = some t → Tryd.pinned.checked.prog.wantsStandIn t = false := by
  obtain rfl : f = 7 := Option.some.inj ((show Tryd.prog.funcNamed "orpiment/orpimentlaw23.CombineNil" = some 7 by kernel_rfl).symm.trans hf) |>.symm
  obtain rfl : fn = Tryd.f7 := (Option.some.inj (Tryd.func7.symm.trans hfn)).symm
  refine ⟨by kernel_rfl, fun j t ht => ?_⟩
  have := List.all_eq_true.1 (show (Tryd.f7.params.toList.all fun t => !Tryd.prog.wantsStandIn t) = true by kernel_rfl) t (Array.mem_toList_iff.2 (Array.mem_of_getElem? ht))
  exact (by simpa using this : Tryd.prog.wantsStandIn t = false)

theorem proved : Rows.CombineNilCardSaid :=
  Claim7.holds_tied_plain_at .later [] _ _ _ _ said (fun _ h => by cases h) (by kernel_rfl) (fun _ h => by cases h) combineNil_row_tie rfl ⟨rfl, rfl⟩ (by kernel_rfl) rfl plain (by kernel_rfl)
#print axioms proved
end Go.Proofs.YtnbjnjichhepiaaDoor.combineNil
