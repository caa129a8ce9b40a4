/-
  DERIVED. GIVEN WITH THE SEED: THE PROGRAM's TIES (one call each: nine closed facts by the kernel) AND EACH ROW's TIE, after the 31st guide's Derived/Test/Toyas{Tie, Card}.lean. No idea stands in it: it is a product of the set-up. Laid BY PROGRAM, IN A SANDBOX (cutbox-door.mjs). By AI agents, Wed Nov 11 2026. No macro, syntax, notation, axiom, sorry.
-/
import Derived.Test.YtfgejkhhkacknaaDoorRows
import Derived.LaidByTextLater
import Derived.SevenTiedAt
import Derived.LaidSub
import Derived.LaidOnce
namespace Go.Proofs.YtfgejkhhkacknaaDoor
open Go
set_option maxRecDepth 100000
theorem seatTie1 : Tryd.prog.laidByTextLater [("unicode/utf8.acceptRanges", Rows.laid_unicode_utf8_acceptRanges), ("orpiment/pty.edits", Rows.laid_orpiment_pty_edits), ("orpiment/pty.sends", Rows.laid_orpiment_pty_sends)] [.data, .funcs, .mapped] true :=
  Program.laidByTextLater_by_one 64 8 33 (by kernel_rfl) (by kernel_rfl) (by kernel_rfl) (by kernel_rfl) (by kernel_rfl) (by kernel_rfl) (fun _ _ => by kernel_rfl)
theorem pin_laid_unicode_utf8_first : Tryd.pinned.checked.prog.pinnedFits "unicode/utf8.first" = true := by kernel_rfl
theorem noOwnUnsafe : Tryd.pinned.checked.prog.headLifts.contains "ownunsafe" = false := by kernel_rfl
theorem tie : Tryd.prog.laidByTextLater [("orpiment/pty.edits", Rows.laid_orpiment_pty_edits), ("orpiment/pty.sends", Rows.laid_orpiment_pty_sends)] [.funcs, .mapped] true :=
  Program.laidByTextLater.sub seatTie1 ["orpiment/pty.edits", "orpiment/pty.sends"] (by kernel_rfl) (by kernel_rfl)
theorem ptyRaw_row_tie : Rows.ptyRawRow.laidByTextAt .later Tryd.pinned [.funcs, .mapped] true :=
  OpenClaim.laidByTextAt_later rfl rfl tie noOwnUnsafe
theorem ptyPieces_row_tie : Rows.ptyPiecesRow.laidByTextAt .later Tryd.pinned [.funcs, .mapped] true :=
  OpenClaim.laidByTextAt_later rfl rfl tie noOwnUnsafe
theorem ptyNil_row_tie : Rows.ptyNilRow.laidByTextAt .later Tryd.pinned [.funcs, .mapped] true :=
  OpenClaim.laidByTextAt_later rfl rfl tie noOwnUnsafe
theorem ptyPlays_row_tie : Rows.ptyPlaysRow.laidByTextAt .later Tryd.pinned [.funcs, .mapped] true :=
  OpenClaim.laidByTextAt_later rfl rfl tie noOwnUnsafe
theorem fits2 : Tryd.pinned.checked.prog.listedFits [("unicode/utf8.acceptRanges", Rows.laid_unicode_utf8_acceptRanges), ("orpiment/pty.edits", Rows.laid_orpiment_pty_edits), ("orpiment/pty.sends", Rows.laid_orpiment_pty_sends), ("unicode/utf8.first", Rows.laid_unicode_utf8_first)] = true := by
  unfold Program.listedFits
  rw [noOwnUnsafe]
  kernel_rfl
theorem tie2 : Tryd.prog.laidByTextLater [("unicode/utf8.acceptRanges", Rows.laid_unicode_utf8_acceptRanges), ("orpiment/pty.edits", Rows.laid_orpiment_pty_edits), ("orpiment/pty.sends", Rows.laid_orpiment_pty_sends)] [.data, .funcs, .mapped] true :=
  Program.laidByTextLater.sub seatTie1 ["unicode/utf8.acceptRanges", "orpiment/pty.edits", "orpiment/pty.sends"] (by kernel_rfl) (by kernel_rfl)
theorem ptyLines_row_tie : Rows.ptyLinesRow.laidByTextAt .later Tryd.pinned [.data, .funcs, .mapped, .pinned] true :=
  OpenClaim.laidByTextAt_pinned rfl rfl tie2 rfl rfl rfl rfl (fun y hy _e => by
    simp only [Rows.ptyLinesRow, List.zip_cons_cons, List.zip_nil_right, List.mem_cons, List.mem_nil_iff, or_false] at hy
    rcases hy with rfl | rfl | rfl | rfl
    · cases _e
    · cases _e
    · cases _e
    · exact ⟨pin_laid_unicode_utf8_first, by kernel_rfl⟩) fits2
theorem ptyReads_row_tie : Rows.ptyReadsRow.laidByTextAt .later Tryd.pinned [.data, .funcs, .mapped, .pinned] true :=
  OpenClaim.laidByTextAt_pinned rfl rfl tie2 rfl rfl rfl rfl (fun y hy _e => by
    simp only [Rows.ptyReadsRow, List.zip_cons_cons, List.zip_nil_right, List.mem_cons, List.mem_nil_iff, or_false] at hy
    rcases hy with rfl | rfl | rfl | rfl
    · cases _e
    · cases _e
    · cases _e
    · exact ⟨pin_laid_unicode_utf8_first, by kernel_rfl⟩) fits2
theorem ptyRawUpto_row_tie : Rows.ptyRawUptoRow.laidByTextAt .later Tryd.pinned [.funcs, .mapped] true :=
  OpenClaim.laidByTextAt_later rfl rfl tie noOwnUnsafe
theorem ptyPiecesUpto_row_tie : Rows.ptyPiecesUptoRow.laidByTextAt .later Tryd.pinned [.funcs, .mapped] true :=
  OpenClaim.laidByTextAt_later rfl rfl tie noOwnUnsafe
theorem ptyNilUpto_row_tie : Rows.ptyNilUptoRow.laidByTextAt .later Tryd.pinned [.funcs, .mapped] true :=
  OpenClaim.laidByTextAt_later rfl rfl tie noOwnUnsafe
theorem ptyPlaysUpto_row_tie : Rows.ptyPlaysUptoRow.laidByTextAt .later Tryd.pinned [.funcs, .mapped] true :=
  OpenClaim.laidByTextAt_later rfl rfl tie noOwnUnsafe
theorem ptyLinesUpto_row_tie : Rows.ptyLinesUptoRow.laidByTextAt .later Tryd.pinned [.data, .funcs, .mapped, .pinned] true :=
  OpenClaim.laidByTextAt_pinned rfl rfl tie2 rfl rfl rfl rfl (fun y hy _e => by
    simp only [Rows.ptyLinesUptoRow, List.zip_cons_cons, List.zip_nil_right, List.mem_cons, List.mem_nil_iff, or_false] at hy
    rcases hy with rfl | rfl | rfl | rfl
    · cases _e
    · cases _e
    · cases _e
    · exact ⟨pin_laid_unicode_utf8_first, by kernel_rfl⟩) fits2
theorem ptyReadsUpto_row_tie : Rows.ptyReadsUptoRow.laidByTextAt .later Tryd.pinned [.data, .funcs, .mapped, .pinned] true :=
  OpenClaim.laidByTextAt_pinned rfl rfl tie2 rfl rfl rfl rfl (fun y hy _e => by
    simp only [Rows.ptyReadsUptoRow, List.zip_cons_cons, List.zip_nil_right, List.mem_cons, List.mem_nil_iff, or_false] at hy
    rcases hy with rfl | rfl | rfl | rfl
    · cases _e
    · cases _e
    · cases _e
    · exact ⟨pin_laid_unicode_utf8_first, by kernel_rfl⟩) fits2
end Go.Proofs.YtfgejkhhkacknaaDoor
