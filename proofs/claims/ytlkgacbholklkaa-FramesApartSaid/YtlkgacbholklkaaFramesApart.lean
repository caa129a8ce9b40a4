/- FramesApart answers true for any pools and any calls, and leaves its arguments as they were. The frames' functions are walked through once each (FaF1 to FaF10); what is handed out is free and different, what is used is counted (FaP1, FaP2, in plain Lean); the law's own map is followed (FaL5), its range in whatever order; awake is one closed run. No condition. -/
import Derived.Test.YtlkgacbholklkaaFaL5
namespace Go.Proofs.Ytlkgacbholklkaa.framesApart
open Go Go.E Go.E.Fa Go.ChangeShapes Go.WideShapes Go.ChangeAt Go.RowKit
set_option linter.unusedVariables false
set_option maxRecDepth 100000
theorem own : ownKnob Try.prog.godebug = none := by kernel_rfl
theorem laidOut : laidOutB Try.prog = true := by kernel_rfl

theorem law (gs' : List AObj) (xs : List Value) (h : ArgsOk Try.prog gs' 4 Try.f4.params.toList xs) : wpF Go.E.Fa.C 4 xs (startH gs') fun v _ => v = .bool true := by
  rw [show Try.f4.params.toList = [39, 40] by kernel_rfl] at h
  obtain ⟨a, xs, rfl, h1, h⟩ := h.cons
  obtain ⟨b, xs, rfl, h2, h⟩ := h.cons
  obtain rfl := h.nil
  obtain ⟨ad, pls, c, r, rfl, hl, hd, hr, hb⟩ := arg_pools (n := 1) h1
  obtain ⟨xa, xs, xc, rfl, hA⟩ := arg_acts h2
  exact Go.E.Fa.L4 hl hb hd hr hA

theorem contract (Hd : Type) (enc : TypeId × Value → Hd) (W : World) (base : Nat) (args : Array Value) (ds gs : List (DataW Hd)) (before : List MemPlace)
    (hval : ∀ (j : Nat) t v, Try.f4.params[j]? = some t → args[j]? = some v → Value.okWide Try.prog W .any base t v)
    (hW : DataW.Whole enc Try.prog Try.f4.params.toList Rows.framesApartSpec.vars false W args.toList ds gs before) :
    Calls Try.prog 4 args W fun e W' => ∃ v, e = .returned v ∧ Rows.framesApartSpec.post enc Try.prog Try.f4 false true false false W args v W' := by
  obtain ⟨p, q, hA, _⟩ := id hW
  refine (calls_lay (gs := []) (ms := []) (n := 4) C_ok (fun _ => rfl) ⟨rfl, by simp, fun b o m hb => by simp at hb⟩ (fun g hg => by omega) (ts := Try.f4.params.toList) (vs := args.toList) (by kernel_rfl) (fun j t v a b => hval j t v (by simpa using a) (by simpa using b)) hA (fun gs' zs h => law gs' zs (by simpa using h))).mono fun e W' ⟨he, hb⟩ => ?_
  exact ⟨_, he, post_of_below (tb := 4) laidOut (fun t ht => of_decide_eq_true ((List.all_eq_true.1 (show (Try.f4.params.toList.all fun t => decide (Try.prog.readableRec t = true ∧ t < Try.prog.types.size)) = true by kernel_rfl)) t ht)) rfl (by kernel_rfl) Try.underlying4
    (fun xs hx => by
      match xs, hx with
      | [d1, d2], _ => rfl) hW hb⟩

theorem lifted (os : Os) (started : os.Started) (Hd : Type) (enc : TypeId × Value → Hd) :
    ReturnsInHanded {} Try.checked os 4 .any (Rows.framesApartSpec.pre6 enc Try.prog Try.f4 Rows.framesApartRow.domain false) (Rows.framesApartSpec.post enc Try.prog Try.f4 false true false false) := by
  refine returnsInHanded_of_change (C := Try.checked) own started (by kernel_rfl) Try.func4
    (ChangeSpec.witness6 (enc := enc) (C := Try.checked) false ⟨#[], #[.slice none 0 0, .slice none 0 0], []⟩ 8 (by kernel_rfl) (by kernel_rfl) (by kernel_rfl) (by kernel_rfl)) ?_
  intro W base args ds gs before hval hW _ _
  exact contract Hd enc W base args ds gs before hval hW

theorem proved : Rows.FramesApartSaid :=
  OpenClaim.holds_of_wide 4 Try.f4 rfl rfl rfl rfl rfl rfl rfl ⟨rfl, rfl, rfl, rfl, rfl⟩ rfl rfl rfl rfl rfl (by kernel_rfl) Try.func4 (by kernel_rfl)
    (of_decide_eq_true (by kernel_rfl)) (by unfold Func.isWrapper; first | (rw [if_pos (by decide +kernel)]; kernel_rfl) | (rw [if_neg (by decide +kernel)]; exact ⟨rfl, rfl⟩))
    (fun os started H enc _ => lifted os started H enc)
#print axioms proved
end Go.Proofs.Ytlkgacbholklkaa.framesApart
