/- The first heap of the seat: what the rows list of the package-level variables sends and edits, as the evaluator reads it. -/
import Derived.Test.YtfgejkhhkacknaaDoorCards
import Derived.Test.YtfgejkhhkacknaaDoorTie
import Derived.Test.YtfgejkhhkacknaaDoorEngU
import Derived.KernelRfl
import Derived.Stop.Joined
namespace Go.Proofs.YtfgejkhhkacknaaDoor.base
open Go Go.E Go.ChangeShapes Go.WideShapes Go.ChangeAt Go.RowKit
set_option linter.unusedVariables false
set_option maxRecDepth 100000

def editsL : List (Lit × DataW (List UInt8)) := [(.int .u8 4, .held [40, 42, 111, 114, 112, 105, 109, 101, 110, 116, 47, 112, 116, 121, 46, 84, 101, 114, 109, 105, 110, 97, 108, 41, 46, 102, 105, 110, 105, 115, 104]), (.int .u8 10, .held [40, 42, 111, 114, 112, 105, 109, 101, 110, 116, 47, 112, 116, 121, 46, 84, 101, 114, 109, 105, 110, 97, 108, 41, 46, 110, 101, 120, 116]), (.int .u8 21, .held [40, 42, 111, 114, 112, 105, 109, 101, 110, 116, 47, 112, 116, 121, 46, 84, 101, 114, 109, 105, 110, 97, 108, 41, 46, 107, 105, 108, 108]), (.int .u8 127, .held [40, 42, 111, 114, 112, 105, 109, 101, 110, 116, 47, 112, 116, 121, 46, 84, 101, 114, 109, 105, 110, 97, 108, 41, 46, 101, 114, 97, 115, 101])]
def editsTab : List (List UInt8 × Nat) := [([40, 42, 111, 114, 112, 105, 109, 101, 110, 116, 47, 112, 116, 121, 46, 84, 101, 114, 109, 105, 110, 97, 108, 41, 46, 102, 105, 110, 105, 115, 104], 115), ([40, 42, 111, 114, 112, 105, 109, 101, 110, 116, 47, 112, 116, 121, 46, 84, 101, 114, 109, 105, 110, 97, 108, 41, 46, 110, 101, 120, 116], 116), ([40, 42, 111, 114, 112, 105, 109, 101, 110, 116, 47, 112, 116, 121, 46, 84, 101, 114, 109, 105, 110, 97, 108, 41, 46, 107, 105, 108, 108], 114), ([40, 42, 111, 114, 112, 105, 109, 101, 110, 116, 47, 112, 116, 121, 46, 84, 101, 114, 109, 105, 110, 97, 108, 41, 46, 101, 114, 97, 115, 101], 113)]
def editsT : List MapEntry := [{ key := .int .u8 4, val := .func (.func 115) #[] #[], born := 0 }, { key := .int .u8 10, val := .func (.func 116) #[] #[], born := 0 }, { key := .int .u8 21, val := .func (.func 114) #[] #[], born := 0 }, { key := .int .u8 127, val := .func (.func 113) #[] #[], born := 0 }]

def sendsL : List (Lit × DataW Unit) := [(.int .u8 3, .lit (.int .i64 2)), (.int .u8 26, .lit (.int .i64 20)), (.int .u8 28, .lit (.int .i64 3))]
def sendsT : List MapEntry := [{ key := .int .u8 3, val := .int .i64 2, born := 0 }, { key := .int .u8 26, val := .int .i64 20, born := 0 }, { key := .int .u8 28, val := .int .i64 3, born := 0 }]

/-- the first heap: the five package-level variables, and the two maps -/
def objs : List AObj := [.cells [.map (some 5)] 0 true, .cells [.map (some 6)] 0 true, .dead, .dead, .dead, .table sendsT, .table editsT]

def laid : List (String × DataW Unit) := [("orpiment/pty.edits", Rows.laid_orpiment_pty_edits), ("orpiment/pty.sends", Rows.laid_orpiment_pty_sends)]

theorem own : ownKnob Tryd.prog.godebug = none := by kernel_rfl
theorem laidOut : laidOutB Tryd.prog = true := by kernel_rfl
theorem mixed : Tryd.prog.follows .mixedOrders = true := by kernel_rfl
theorem gSends : Tryd.prog.globalNamed "orpiment/pty.sends" = some 0 := by kernel_rfl
theorem gEdits : Tryd.prog.globalNamed "orpiment/pty.edits" = some 1 := by kernel_rfl
theorem tSends : (Tryd.prog.globals[0]?).map (·.type) = some 102 := by kernel_rfl
theorem tEdits : (Tryd.prog.globals[1]?).map (·.type) = some 104 := by kernel_rfl
theorem u102 : Tryd.prog.underlying 102 = some (.map 5 3) := by kernel_rfl
theorem u104 : Tryd.prog.underlying 104 = some (.map 5 103) := by kernel_rfl
theorem u5 : Tryd.prog.underlying 5 = some (.int .u8) := by kernel_rfl
theorem u3 : Tryd.prog.underlying 3 = some (.int .i64) := by kernel_rfl
theorem o103 : oneT Tryd.prog 103 = true := by kernel_rfl
theorem o3 : oneT Tryd.prog 3 = true := by kernel_rfl
theorem nameOk : nameDecOk Tryd.prog editsTab = true := by kernel_rfl
theorem editsOut : (match (Rows.laid_orpiment_pty_edits : DataW Unit) with | .iface _ d => d.funcsOut | _ => .nil) = .map editsL := by kernel_rfl

/-- WHAT THE ROWS' LIST GIVES: a world that holds it is related to the first heap. -/
theorem start {W : World} (h : laidMetH Tryd.prog laid W) : ∃ φ, GOk 5 φ ∧ Sim φ (startH objs) W ∧ ∀ k, ¬ Wr φ (startH objs) k := by
  have h1 : laidMet Tryd.prog [("orpiment/pty.sends", Rows.laid_orpiment_pty_sends)] W ∧ handlesMet Tryd.prog [("orpiment/pty.edits", Rows.laid_orpiment_pty_edits)] W := h
  obtain ⟨⟨ps, ⟨g0, t0, cs0, f0, p0, q0, hg0, ht0, hv0, hd0, _, _⟩, _⟩, _⟩ := h1
  obtain ⟨g1, t1, cs1, f1, p1, hg1, ht1, hv1, hd1⟩ := laidMetH.funcs h (n := "orpiment/pty.edits") (d := match (Rows.laid_orpiment_pty_edits : DataW Unit) with | .iface _ d => d | _ => .nil) (by simp [laid, Rows.laid_orpiment_pty_edits])
  obtain rfl := Option.some.inj (gSends.symm.trans hg0)
  obtain rfl := Option.some.inj (gEdits.symm.trans hg1)
  obtain rfl := Option.some.inj (tSends.symm.trans ht0)
  obtain rfl := Option.some.inj (tEdits.symm.trans ht1)
  have e1 : (match (Rows.laid_orpiment_pty_edits : DataW Unit) with | .iface _ d => d | _ => .nil).funcsOut = .map editsL := editsOut
  rw [e1] at hd1
  obtain ⟨b0, hb0, ho0⟩ := table_of (enc := fun _ => ()) (hdec := fun _ => none) (unitDec (enc := fun _ => ())) u102 u5 (oneT_struct o3) (oneT_array o3) (L := sendsL) hd0 (n := 3) (T := sendsT) (by kernel_rfl) (by simp [sendsT]) (by simp [sendsL])
  obtain ⟨b1, hb1, ho1⟩ := table_of (enc := funcToken Tryd.prog) (hdec := nameDec editsTab) (nameDecS nameOk) u104 u5 (oneT_struct o103) (oneT_array o103) (L := editsL) hd1 (n := 3) (T := editsT) (by kernel_rfl) (by simp [editsT]) (by simp [editsL])
  let ms : List Emb := [⟨0, 0, 1, 1, 0⟩, ⟨1, 0, 1, 1, 0⟩, ⟨2, 0, 0, 0, 0⟩, ⟨3, 0, 0, 0, 0⟩, ⟨4, 0, 0, 0, 0⟩, ⟨b0, 0, 0, 0, 0⟩, ⟨b1, 0, 0, 0, 0⟩]
  refine ⟨fun b => ms[b]?, fun g hg => ?_, start_sim (ms := ms) rfl (by simp [objs, AObj.writable]) fun b o m hb hm => ?_⟩
  · match g, hg with
    | 0, _ => exact ⟨_, rfl, rfl, rfl⟩
    | 1, _ => exact ⟨_, rfl, rfl, rfl⟩
    | 2, _ => exact ⟨_, rfl, rfl, rfl⟩
    | 3, _ => exact ⟨_, rfl, rfl, rfl⟩
    | 4, _ => exact ⟨_, rfl, rfl, rfl⟩
  · match b, hb, hm with
    | 0, hb, hm => cases hb; cases hm; exact ObjR.ofMap gSends hv0 hb0 (mb := ⟨b0, 0, 0, 0, 0⟩) rfl rfl rfl
    | 1, hb, hm => cases hb; cases hm; exact ObjR.ofMap gEdits hv1 hb1 (mb := ⟨b1, 0, 0, 0, 0⟩) rfl rfl rfl
    | 2, hb, hm => cases hb; trivial
    | 3, hb, hm => cases hb; trivial
    | 4, hb, hm => cases hb; trivial
    | 5, hb, hm => cases hb; cases hm; exact ho0 _ _ rfl
    | 6, hb, hm => cases hb; cases hm; exact ho1 _ _ rfl
    | n + 7, hb, hm => simp [objs] at hb

/-- The door's own heap meets the condition. -/
theorem door_met (os : Os) (args : Array Value) : laidMetH Tryd.prog laid ((World.doorLaid Tryd.prog 400 os).forCall (fun _ _ => 0) ⟨#[], args, []⟩).memory :=
  laidMetH_of_parts3 (fuel := 8) (laidMet_of_run' 8 (by kernel_rfl) (by kernel_rfl)) (by kernel_rfl) (by kernel_rfl)
end Go.Proofs.YtfgejkhhkacknaaDoor.base
