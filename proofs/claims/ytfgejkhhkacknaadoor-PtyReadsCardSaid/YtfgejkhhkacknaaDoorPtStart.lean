/- The first heap of the seat and the sound callee: what every law of the seat starts from. -/
import Derived.Test.YtfgejkhhkacknaaDoorPtCode
import Derived.Test.YtfgejkhhkacknaaDoorEngZb
import Derived.KernelRfl
import Derived.Stop.Joined
namespace Go.E.Pty
open Go Go.E Go.ChangeShapes Go.WideShapes Go.ChangeAt Go.RowKit Go.Proofs.YtfgejkhhkacknaaDoor.base Go.Proofs.YtfgejkhhkacknaaDoor Go.Proofs
set_option linter.unusedVariables false
set_option maxRecDepth 100000

theorem startSt {W : World} (h : laidMetH Tryd.prog laid W) : ∃ ms, St W objs ms ∧ GOk 5 fun b => ms[b]? := by
  have h1 : laidMet Tryd.prog [("orpiment/pty.sends", Rows.laid_orpiment_pty_sends)] W ∧ handlesMet Tryd.prog [("orpiment/pty.edits", Rows.laid_orpiment_pty_edits)] W := h
  obtain ⟨⟨ps, ⟨g0, t0, cs0, f0, p0, q0, hg0, ht0, hv0, hd0, _, _⟩, _⟩, _⟩ := h1
  obtain ⟨g1, t1, cs1, f1, p1, hg1, ht1, hv1, hd1⟩ := laidMetH.funcs h (n := "orpiment/pty.edits") (d := match (Rows.laid_orpiment_pty_edits : DataW Unit) with | .iface _ d => d | _ => .nil) (by simp [laid, Rows.laid_orpiment_pty_edits])
  obtain rfl := Option.some.inj (gSends.symm.trans hg0)
  obtain rfl := Option.some.inj (gEdits.symm.trans hg1)
  obtain rfl := Option.some.inj (tSends.symm.trans ht0)
  obtain rfl := Option.some.inj (tEdits.symm.trans ht1)
  have e1 : (match (Rows.laid_orpiment_pty_edits : DataW Unit) with | .iface _ d => d | _ => .nil).funcsOut = .map editsL := editsOut
  rw [e1] at hd1
  obtain ⟨b0, hb0, ho0⟩ := table_of (enc := fun _ => ()) (hdec := fun _ => none) (unitDec (enc := fun _ => ())) u102 u5 (oneT_struct Go.Proofs.YtfgejkhhkacknaaDoor.base.o3) (oneT_array Go.Proofs.YtfgejkhhkacknaaDoor.base.o3) (L := sendsL) hd0 (n := 3) (T := sendsT) (by kernel_rfl) (by simp [sendsT]) (by simp [sendsL])
  obtain ⟨b1, hb1, ho1⟩ := table_of (enc := funcToken Tryd.prog) (hdec := nameDec editsTab) (nameDecS nameOk) u104 u5 (oneT_struct o103) (oneT_array o103) (L := editsL) hd1 (n := 3) (T := editsT) (by kernel_rfl) (by simp [editsT]) (by simp [editsL])
  refine ⟨[⟨0, 0, 1, 1, 0⟩, ⟨1, 0, 1, 1, 0⟩, ⟨2, 0, 0, 0, 0⟩, ⟨3, 0, 0, 0, 0⟩, ⟨4, 0, 0, 0, 0⟩, ⟨b0, 0, 0, 0, 0⟩, ⟨b1, 0, 0, 0, 0⟩], ⟨rfl, by simp [objs, AObj.writable], fun b o m hb hm => ?_⟩, fun g hg => ?_⟩
  · match b, hb, hm with
    | 0, hb, hm => cases hb; cases hm; exact ObjR.ofMap gSends hv0 hb0 (mb := ⟨b0, 0, 0, 0, 0⟩) rfl rfl rfl
    | 1, hb, hm => cases hb; cases hm; exact ObjR.ofMap gEdits hv1 hb1 (mb := ⟨b1, 0, 0, 0, 0⟩) rfl rfl rfl
    | 2, hb, hm => cases hb; trivial
    | 3, hb, hm => cases hb; trivial
    | 4, hb, hm => cases hb; trivial
    | 5, hb, hm => cases hb; cases hm; exact ho0 _ _ rfl
    | 6, hb, hm => cases hb; cases hm; exact ho1 _ _ rfl
    | n + 7, hb, hm => simp [objs] at hb
  · match g, hg with
    | 0, _ => exact ⟨_, rfl, rfl, rfl⟩
    | 1, _ => exact ⟨_, rfl, rfl, rfl⟩
    | 2, _ => exact ⟨_, rfl, rfl, rfl⟩
    | 3, _ => exact ⟨_, rfl, rfl, rfl⟩
    | 4, _ => exact ⟨_, rfl, rfl, rfl⟩

theorem awakeRun : ((callN (cProg Tryd.prog 5) 60 10 [] (startH objs)).map (·.1)) = some (.bool true) := by kernel_rfl
theorem C_ok (n : Nat) : CalleeOk Tryd.prog 5 (C n) := callX_sound mixed (knownAt_ok (n := 60) mixed (by decide) (by decide) fun f v h => by
  simp only [K, List.lookup] at h
  split at h
  · rename_i e
    cases h
    have : f = 10 := by simpa using e
    subst this
    exact ⟨rfl, awakeRun⟩
  · cases h) n

theorem globS (gs' : List AObj) : Glob objs (startH (objs ++ gs')) :=
  ⟨fun b hb => by rw [get_startH, List.getD_eq_getElem?_getD, List.getElem?_append_left hb, List.getD_eq_getElem?_getD], by rw [next_startH]; simp⟩

theorem u22 : Tryd.prog.underlying 22 = some (.slice 5) := by kernel_rfl
theorem u4 : Tryd.prog.underlying 4 = some .bool := by kernel_rfl
theorem co5 : Tryd.prog.cellsOf 5 = 1 := by kernel_rfl
theorem ag22 : aggT Tryd.prog 22 = false := by kernel_rfl
theorem ag5 : aggT Tryd.prog 5 = false := by kernel_rfl
theorem ag4 : aggT Tryd.prog 4 = false := by kernel_rfl
theorem ag3 : aggT Tryd.prog 3 = false := by kernel_rfl

/-- an argument of bytes -/
theorem arg_bytes {gs : List AObj} {n : Nat} {a : Value} (h : ∃ cells, a = argV Tryd.prog 22 cells ∧ OkA Tryd.prog gs (n + 2) 22 cells) :
    ∃ (l : List Int) (r : List Nat), RdS (startH gs) 1 a (l.map (.int .u8 ·)) r ∧ (∀ b ∈ r, b < (startH gs).next) ∧ ∀ x ∈ l, (0 : Int) ≤ x ∧ x ≤ 255 := by
  obtain ⟨cells, rfl, h⟩ := h
  obtain ⟨v, l, r, rfl, h1, h2, h3⟩ := h.bytes u22 u5 co5
  exact ⟨l, r, by unfold argV; rw [ag22]; exact h1, by rw [next_startH]; exact h2, h3⟩
theorem arg_bool {gs : List AObj} {n : Nat} {a : Value} (h : ∃ cells, a = argV Tryd.prog 4 cells ∧ OkA Tryd.prog gs (n + 1) 4 cells) : ∃ b, a = .bool b := by
  obtain ⟨cells, rfl, h⟩ := h
  unfold OkA at h
  rw [u4] at h
  obtain ⟨b, rfl⟩ := h
  exact ⟨b, by unfold argV; rw [ag4]; rfl⟩
theorem arg_int {gs : List AObj} {n : Nat} {a : Value} (h : ∃ cells, a = argV Tryd.prog 3 cells ∧ OkA Tryd.prog gs (n + 1) 3 cells) : ∃ x, a = .int .i64 x ∧ (Lit.int .i64 x).wf = true := by
  obtain ⟨cells, rfl, h⟩ := h
  unfold OkA at h
  rw [u3] at h
  obtain ⟨b, rfl, hw⟩ := h
  exact ⟨b, by unfold argV; rw [ag3]; rfl, hw⟩
theorem arg_u8 {gs : List AObj} {n : Nat} {a : Value} (h : ∃ cells, a = argV Tryd.prog 5 cells ∧ OkA Tryd.prog gs (n + 1) 5 cells) : ∃ x, a = .int .u8 x ∧ 0 ≤ x ∧ x ≤ 255 := by
  obtain ⟨cells, rfl, h⟩ := h
  unfold OkA at h
  rw [u5] at h
  obtain ⟨b, rfl, hw⟩ := h
  refine ⟨b, by unfold argV; rw [ag5]; rfl, ?_⟩
  simp [Lit.wf, IntKind.min, IntKind.max, IntKind.signed, IntKind.bits] at hw
  omega
end Go.E.Pty
