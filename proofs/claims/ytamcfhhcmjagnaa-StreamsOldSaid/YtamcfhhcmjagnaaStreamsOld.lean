/- StreamsOld answers true whatever happens to the segments, and leaves its arguments as they were: input of a segment that was taken already changes no stream. The functions of the program and those of the reference are walked through once each; awake is one closed run. No condition. -/
import Derived.Test.YtamcfhhcmjagnaaStT3
namespace Go.Proofs.Ytamcfhhcmjagnaa.streamsOld
open Go Go.E Go.E.St Go.ChangeShapes Go.WideShapes Go.ChangeAt Go.RowKit
set_option linter.unusedVariables false
set_option maxRecDepth 100000
theorem own : ownKnob Try.prog.godebug = none := by kernel_rfl
theorem laidOut : laidOutB Try.prog = true := by kernel_rfl

theorem law (gs' : List AObj) (xs : List Value) (h : ArgsOkS Try.prog gs' 6 Try.f9.params.toList xs) : wpF Go.E.St.C 9 xs (startH gs') fun v _ => v = .bool true := by
  rw [show Try.f9.params.toList = [58, 86] by kernel_rfl] at h
  obtain ⟨a, xs, rfl, h1, h⟩ := h.cons
  obtain ⟨b, xs, rfl, h2, h⟩ := h.cons
  obtain rfl := h.nil
  obtain ⟨x, rfl, rfl⟩ := arg_talk h1 h2
  exact Go.E.St.L9 x

theorem contract (Hd : Type) (enc : TypeId × Value → Hd) (W : World) (base : Nat) (args : Array Value) (ds gs : List (DataW Hd)) (before : List MemPlace)
    (hval : ∀ (j : Nat) t v, Try.f9.params[j]? = some t → args[j]? = some v → Value.okWide Try.prog W .any base t v)
    (hW : DataW.Whole enc Try.prog Try.f9.params.toList Rows.streamsOldSpec.vars false W args.toList ds gs before)
    (hsz : (DataW.weightsEach Try.prog (Try.f9.params.toList ++ Rows.streamsOldSpec.plain.varTypes Try.prog) (ds ++ gs)).all (· ≤ reachBytes) = true) :
    Calls Try.prog 9 args W fun e W' => ∃ v, e = .returned v ∧ Rows.streamsOldSpec.post enc Try.prog Try.f9 false true false false W args v W' := by
  obtain ⟨p, q, hA, _⟩ := id hW
  refine (callsS_lay (gs := []) (ms := []) (n := 6) C_ok (fun _ => rfl) ⟨rfl, by simp, fun b o m hb => by simp at hb⟩ (fun g hg => by omega) (ts := Try.f9.params.toList) (vs := args.toList) (by kernel_rfl) (fun j t v a b => hval j t v (by simpa using a) (by simpa using b)) hA (fun k hk => by simpa using List.all_eq_true.1 hsz k (weightsEach_app hk)) (fun gs' zs h => law gs' zs (by simpa using h))).mono fun e W' ⟨he, hb⟩ => ?_
  exact ⟨_, he, post_of_below (tb := 4) laidOut (fun t ht => of_decide_eq_true ((List.all_eq_true.1 (show (Try.f9.params.toList.all fun t => decide (Try.prog.readableRec t = true ∧ t < Try.prog.types.size)) = true by kernel_rfl)) t ht)) rfl (by kernel_rfl) Try.underlying4
    (fun xs hx => by
      match xs, hx with
      | [d1, d2], _ => rfl) hW hb⟩

theorem lifted (os : Os) (started : os.Started) (Hd : Type) (enc : TypeId × Value → Hd) :
    ReturnsInHanded {} Try.checked os 9 .any (Rows.streamsOldSpec.pre6 enc Try.prog Try.f9 Rows.streamsOldRow.domain false) (Rows.streamsOldSpec.post enc Try.prog Try.f9 false true false false) := by
  refine returnsInHanded_of_change_sized (C := Try.checked) own started (by kernel_rfl) Try.func9
    (ChangeSpec.witness6 (enc := enc) (C := Try.checked) false ⟨#[], #[.agg #[.int .u32 0, .int .i64 0, .int .i64 0, .int .u32 0, .int .i64 0, .int .i64 0], .slice none 0 0], []⟩ 8 (by kernel_rfl) (by kernel_rfl) (by kernel_rfl) (by kernel_rfl)) ?_
  intro W base args ds gs before hval hW _ hsz _
  exact contract Hd enc W base args ds gs before hval hW hsz

theorem proved : Rows.StreamsOldSaid :=
  OpenClaim.holds_of_wide 9 Try.f9 rfl rfl rfl rfl rfl rfl rfl ⟨rfl, rfl, rfl, rfl, rfl⟩ rfl rfl rfl rfl rfl (by kernel_rfl) Try.func9 (by kernel_rfl)
    (of_decide_eq_true (by kernel_rfl)) (by unfold Func.isWrapper; first | (rw [if_pos (by decide +kernel)]; kernel_rfl) | (rw [if_neg (by decide +kernel)]; exact ⟨rfl, rfl⟩))
    (fun os started H enc _ => lifted os started H enc)
#print axioms proved
end Go.Proofs.Ytamcfhhcmjagnaa.streamsOld
