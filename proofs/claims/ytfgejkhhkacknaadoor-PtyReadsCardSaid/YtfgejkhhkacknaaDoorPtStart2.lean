/- Rows that list two tables of Go's library more: their condition is more than the seat's own. -/
import Derived.Test.YtfgejkhhkacknaaDoorPtStart
import Derived.Lay
namespace Go.E.Pty
open Go Go.E Go.ChangeShapes Go.WideShapes Go.ChangeAt Go.RowKit Go.Proofs.YtfgejkhhkacknaaDoor.base Go.Proofs.YtfgejkhhkacknaaDoor Go.Proofs
set_option linter.unusedVariables false
set_option maxRecDepth 100000

theorem LaidVars.sub {P : Program} {w : World} {l' l : List (String × DataW Unit)} (hs : l'.Sublist l) : ∀ {ps : List MemPlace}, DataW.LaidVars P w l ps → ∃ ps', DataW.LaidVars P w l' ps' ∧ ps'.Sublist ps := by
  induction hs with
  | slnil => intro ps h; exact ⟨[], rfl, by rw [show ps = [] from h]; exact .slnil⟩
  | @cons l1 l2 x hs ih =>
    intro ps h
    obtain ⟨n, d⟩ := x
    obtain ⟨g, t, cs, fuel, p, q, h1, h2, h3, h4, h5, rfl⟩ := h
    obtain ⟨ps', h6, h7⟩ := ih h5
    exact ⟨ps', h6, h7.trans (List.sublist_append_right _ _)⟩
  | @cons_cons l1 l2 x hs ih =>
    intro ps h
    obtain ⟨n, d⟩ := x
    obtain ⟨g, t, cs, fuel, p, q, h1, h2, h3, h4, h5, rfl⟩ := h
    obtain ⟨ps', h6, h7⟩ := ih h5
    exact ⟨_, ⟨g, t, cs, fuel, p, ps', h1, h2, h3, h4, h6, rfl⟩, List.Sublist.append (.refl _) h7⟩
theorem laidMet_sub {P : Program} {w : World} {l' l : List (String × DataW Unit)} (hs : l'.Sublist l) (h : laidMet P l w) : laidMet P l' w := by
  obtain ⟨ps, h1, h2, h3⟩ := h
  obtain ⟨ps', h4, h5⟩ := LaidVars.sub hs h1
  exact ⟨ps', h4, h2.sublist h5, fun b off hm => h3 b off (h5.subset hm)⟩

def laidX : List (String × DataW Unit) := [("unicode/utf8.acceptRanges", Rows.laid_unicode_utf8_acceptRanges), ("orpiment/pty.edits", Rows.laid_orpiment_pty_edits), ("orpiment/pty.sends", Rows.laid_orpiment_pty_sends), ("unicode/utf8.first", Rows.laid_unicode_utf8_first)]
theorem ofX {W : World} (h : laidMetH Tryd.prog laidX W) : laidMetH Tryd.prog laid W := by
  have h1 : laidMet Tryd.prog [("unicode/utf8.acceptRanges", Rows.laid_unicode_utf8_acceptRanges), ("orpiment/pty.sends", Rows.laid_orpiment_pty_sends), ("unicode/utf8.first", Rows.laid_unicode_utf8_first)] W ∧ handlesMet Tryd.prog [("orpiment/pty.edits", Rows.laid_orpiment_pty_edits)] W := h
  exact ⟨laidMet_sub (.cons _ (.cons_cons _ (.cons _ .slnil))) h1.1, h1.2⟩
noncomputable def doorX (os : Os) : World := (World.doorLaid Tryd.prog 400 os).layVars Tryd.prog [("unicode/utf8.first", Rows.laid_unicode_utf8_first)]
theorem door_metX (os : Os) (args : Array Value) : laidMetH Tryd.prog laidX ((doorX os).forCall (fun _ _ => 0) ⟨#[], args, []⟩).memory := by
  refine laidMetH_of_parts3 (fuel := 8) ?_ (by kernel_rfl) (by kernel_rfl)
  have h : laidMet Tryd.prog [("unicode/utf8.acceptRanges", Rows.laid_unicode_utf8_acceptRanges), ("orpiment/pty.sends", Rows.laid_orpiment_pty_sends), ("unicode/utf8.first", Rows.laid_unicode_utf8_first)] (doorX os) :=
    laidMet_layVars (w0 := World.doorLaid Tryd.prog 400 os) ["unicode/utf8.first"] [0, 1, 2, 4, 5, 6, 7, 8, 9, 10, 11] rfl (by kernel_rfl) (by kernel_rfl) (LaidIn.of_run _ 8 (by kernel_rfl) (by kernel_rfl) (by kernel_rfl) (by kernel_rfl))
  exact h.of_heap (by simp [World.memory, World.forCall, Input.heap])
end Go.E.Pty
