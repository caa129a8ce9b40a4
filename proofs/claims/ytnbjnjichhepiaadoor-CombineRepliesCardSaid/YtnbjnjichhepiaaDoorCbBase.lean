/- The first heap of the seat: what the rows list of the package-level variable uses, as the evaluator reads it. -/
import Derived.Test.YtnbjnjichhepiaaDoorCards
import Derived.Test.YtnbjnjichhepiaaDoorTie
import Derived.Test.YtnbjnjichhepiaaDoorEwZq
import Derived.KernelRfl
import Derived.Stop.Joined
namespace Go.Proofs.YtnbjnjichhepiaaDoor.base
open Go Go.E Go.ChangeShapes Go.WideShapes Go.ChangeAt Go.RowKit
set_option linter.unusedVariables false
set_option maxRecDepth 100000
def usesV : List Value := [.bool true, .bool false, .bool true, .bool false, .bool false, .bool false, .bool true, .bool false, .bool false, .bool false, .bool false, .bool true, .bool true, .bool false, .bool false, .bool false, .bool true, .bool false, .bool false, .bool true, .bool false, .bool true, .bool false, .bool true, .bool false, .bool false, .bool true, .bool false, .bool false, .bool false, .bool false, .bool true, .bool false, .bool true, .bool false, .bool true, .bool false, .bool false, .bool false, .bool false]
def objs : List AObj := [.cells usesV 0 true, .dead]
def laid : List (String × DataW Unit) := [("orpiment/combine.uses", Rows.laid_orpiment_combine_uses)]

theorem own : ownKnob Tryd.prog.godebug = none := by kernel_rfl
theorem laidOut : laidOutB Tryd.prog = true := by kernel_rfl
theorem mixed : Tryd.prog.follows .mixedOrders = true := by kernel_rfl
theorem gUses : Tryd.prog.globalNamed "orpiment/combine.uses" = some 0 := by kernel_rfl
theorem tUses : (Tryd.prog.globals[0]?).map (·.type) = some 81 := by kernel_rfl

theorem start {W : World} (h : laidMetH Tryd.prog laid W) : ∃ φ, GOk 2 φ ∧ Sim φ (startH objs) W ∧ ∀ k, ¬ Wr φ (startH objs) k := by
  have h1 : laidMet Tryd.prog laid W := h
  obtain ⟨ps, ⟨g0, t0, cs0, f0, p0, q0, hg0, ht0, hv0, hd0, _, _⟩, _⟩ := h1
  obtain rfl := Option.some.inj (gUses.symm.trans hg0)
  obtain rfl := Option.some.inj (tUses.symm.trans ht0)
  have hcs : cs0.toList = usesV := flatV_sound (enc := fun _ => ()) (hdec := fun _ => none) (unitDec (enc := fun _ => ())) 40 _ _ _ _ _ _ hd0 (by kernel_rfl)
  let ms : List Emb := [⟨0, 0, 40, 40, 0⟩, ⟨1, 0, 0, 0, 0⟩]
  refine ⟨fun b => ms[b]?, fun g hg => ?_, start_sim (ms := ms) rfl (by simp [objs, AObj.writable]) fun b o m hb hm => ?_⟩
  · match g, hg with
    | 0, _ => exact ⟨_, rfl, rfl, rfl⟩
    | 1, _ => exact ⟨_, rfl, rfl, rfl⟩
  · match b, hb, hm with
    | 0, hb, hm => cases hb; cases hm; exact ObjR.ofFlat gUses hv0 hcs rfl rfl rfl
    | 1, hb, hm => cases hb; trivial
    | n + 2, hb, hm => simp [objs] at hb

theorem door_met (os : Os) (args : Array Value) : laidMetH Tryd.prog laid ((World.doorLaid Tryd.prog 400 os).forCall (fun _ _ => 0) ⟨#[], args, []⟩).memory :=
  laidMetH_of_parts3 (fuel := 8) (laidMet_of_run' 8 (by kernel_rfl) (by kernel_rfl)) (by kernel_rfl) (by kernel_rfl)
theorem startSt {W : World} (h : laidMetH Tryd.prog laid W) : ∃ ms, St W objs ms ∧ GOk 2 fun b => ms[b]? := by
  have h1 : laidMet Tryd.prog laid W := h
  obtain ⟨ps, ⟨g0, t0, cs0, f0, p0, q0, hg0, ht0, hv0, hd0, _, _⟩, _⟩ := h1
  obtain rfl := Option.some.inj (gUses.symm.trans hg0)
  obtain rfl := Option.some.inj (tUses.symm.trans ht0)
  have hcs : cs0.toList = usesV := flatV_sound (enc := fun _ => ()) (hdec := fun _ => none) (unitDec (enc := fun _ => ())) 40 _ _ _ _ _ _ hd0 (by kernel_rfl)
  refine ⟨[⟨0, 0, 40, 40, 0⟩, ⟨1, 0, 0, 0, 0⟩], ⟨rfl, by simp [objs, AObj.writable], fun b o m hb hm => ?_⟩, fun g hg => ?_⟩
  · match b, hb, hm with
    | 0, hb, hm => cases hb; cases hm; exact ObjR.ofFlat gUses hv0 hcs rfl rfl rfl
    | 1, hb, hm => cases hb; trivial
    | n + 2, hb, hm => simp [objs] at hb
  · match g, hg with
    | 0, _ => exact ⟨_, rfl, rfl, rfl⟩
    | 1, _ => exact ⟨_, rfl, rfl, rfl⟩
end Go.Proofs.YtnbjnjichhepiaaDoor.base
