/-
  DERIVED. GIVEN WITH THE SEED: THE CARDS: each row of YtfgejkhhkacknaaDoorRows.lean that lists a variable, with what it lists TIED to the program's text (the seventh form; the later family's looks); each row that meets fmt, with fmt's text TOLD by the authors' own Lean function (tested against real Go, not proved from fmt's source: count such statements apart). THE CARD IS WHAT COUNTS. Prove the row's statement (the work); the ties are given (YtfgejkhhkacknaaDoorTie.lean); close each card by the builder's one call (the guide's Derived/Test/ToyasCard.lean, 'card_holds'). Laid BY PROGRAM, IN A SANDBOX (cutbox-door.mjs). By AI agents, Wed Nov 11 2026. No macro, syntax, notation, axiom, sorry.
-/
import Derived.Test.YtfgejkhhkacknaaDoorRows
import GoSem.ClaimSeven
namespace Go.Proofs.YtfgejkhhkacknaaDoor
namespace Rows

/-- THE TIED CARD OF 'orpimentlaw26.PtyRaw'. -/
def ptyRawCard : Claim7 := { stood := { row := ptyRawRow, standIns := [], harness := (true, "17855d74503685621c09df983c2d896ab0d109f41a7276571187b829bda59543"), looks := false }, kinds := [], alts := [], laidByText := true, laidKinds := [.funcs, .mapped], laidTests := true, laidLooks := .later }
def PtyRawCardSaid : Prop := Claim7.holds Tryd.pinned (.plain (OpenSpec.ofChange ptyRawSpec)) ptyRawCard

/-- THE TIED CARD OF 'orpimentlaw26.PtyPieces'. -/
def ptyPiecesCard : Claim7 := { stood := { row := ptyPiecesRow, standIns := [], harness := (true, "17855d74503685621c09df983c2d896ab0d109f41a7276571187b829bda59543"), looks := false }, kinds := [], alts := [], laidByText := true, laidKinds := [.funcs, .mapped], laidTests := true, laidLooks := .later }
def PtyPiecesCardSaid : Prop := Claim7.holds Tryd.pinned (.plain (OpenSpec.ofChange ptyPiecesSpec)) ptyPiecesCard

/-- THE TIED CARD OF 'orpimentlaw26.PtyNil'. -/
def ptyNilCard : Claim7 := { stood := { row := ptyNilRow, standIns := [], harness := (true, "17855d74503685621c09df983c2d896ab0d109f41a7276571187b829bda59543"), looks := false }, kinds := [], alts := [], laidByText := true, laidKinds := [.funcs, .mapped], laidTests := true, laidLooks := .later }
def PtyNilCardSaid : Prop := Claim7.holds Tryd.pinned (.plain (OpenSpec.ofChange ptyNilSpec)) ptyNilCard

/-- THE TIED CARD OF 'orpimentlaw26.PtyPlays'. -/
def ptyPlaysCard : Claim7 := { stood := { row := ptyPlaysRow, standIns := [], harness := (true, "17855d74503685621c09df983c2d896ab0d109f41a7276571187b829bda59543"), looks := false }, kinds := [], alts := [], laidByText := true, laidKinds := [.funcs, .mapped], laidTests := true, laidLooks := .later }
def PtyPlaysCardSaid : Prop := Claim7.holds Tryd.pinned (.plain (OpenSpec.ofChange ptyPlaysSpec)) ptyPlaysCard

/-- THE TIED CARD OF 'orpimentlaw26.PtyLines'. -/
def ptyLinesCard : Claim7 := { stood := { row := ptyLinesRow, standIns := [], harness := (true, "17855d74503685621c09df983c2d896ab0d109f41a7276571187b829bda59543"), looks := false }, kinds := [], alts := [], laidByText := true, laidKinds := [.data, .funcs, .mapped, .pinned], laidTests := true, laidLooks := .later }
def PtyLinesCardSaid : Prop := Claim7.holds Tryd.pinned (.plain (OpenSpec.ofChange ptyLinesSpec)) ptyLinesCard

/-- THE TIED CARD OF 'orpimentlaw26.PtyReads'. -/
def ptyReadsCard : Claim7 := { stood := { row := ptyReadsRow, standIns := [], harness := (true, "17855d74503685621c09df983c2d896ab0d109f41a7276571187b829bda59543"), looks := false }, kinds := [], alts := [], laidByText := true, laidKinds := [.data, .funcs, .mapped, .pinned], laidTests := true, laidLooks := .later }
def PtyReadsCardSaid : Prop := Claim7.holds Tryd.pinned (.plain (OpenSpec.ofChange ptyReadsSpec)) ptyReadsCard

/-- THE SECOND FORM's CARD OF 'orpimentlaw26.PtyRaw'. -/
def ptyRawUptoCard : Claim7 := { stood := { row := ptyRawUptoRow, standIns := [], harness := (true, "17855d74503685621c09df983c2d896ab0d109f41a7276571187b829bda59543"), looks := false }, kinds := [], alts := [], laidByText := true, laidKinds := [.funcs, .mapped], laidTests := true, laidLooks := .later }
def PtyRawUptoCardSaid : Prop := Claim7.holds Tryd.pinned (.plain (OpenSpec.upto ptyRawSpec)) ptyRawUptoCard

/-- THE SECOND FORM's CARD OF 'orpimentlaw26.PtyPieces'. -/
def ptyPiecesUptoCard : Claim7 := { stood := { row := ptyPiecesUptoRow, standIns := [], harness := (true, "17855d74503685621c09df983c2d896ab0d109f41a7276571187b829bda59543"), looks := false }, kinds := [], alts := [], laidByText := true, laidKinds := [.funcs, .mapped], laidTests := true, laidLooks := .later }
def PtyPiecesUptoCardSaid : Prop := Claim7.holds Tryd.pinned (.plain (OpenSpec.upto ptyPiecesSpec)) ptyPiecesUptoCard

/-- THE SECOND FORM's CARD OF 'orpimentlaw26.PtyNil'. -/
def ptyNilUptoCard : Claim7 := { stood := { row := ptyNilUptoRow, standIns := [], harness := (true, "17855d74503685621c09df983c2d896ab0d109f41a7276571187b829bda59543"), looks := false }, kinds := [], alts := [], laidByText := true, laidKinds := [.funcs, .mapped], laidTests := true, laidLooks := .later }
def PtyNilUptoCardSaid : Prop := Claim7.holds Tryd.pinned (.plain (OpenSpec.upto ptyNilSpec)) ptyNilUptoCard

/-- THE SECOND FORM's CARD OF 'orpimentlaw26.PtyPlays'. -/
def ptyPlaysUptoCard : Claim7 := { stood := { row := ptyPlaysUptoRow, standIns := [], harness := (true, "17855d74503685621c09df983c2d896ab0d109f41a7276571187b829bda59543"), looks := false }, kinds := [], alts := [], laidByText := true, laidKinds := [.funcs, .mapped], laidTests := true, laidLooks := .later }
def PtyPlaysUptoCardSaid : Prop := Claim7.holds Tryd.pinned (.plain (OpenSpec.upto ptyPlaysSpec)) ptyPlaysUptoCard

/-- THE SECOND FORM's CARD OF 'orpimentlaw26.PtyLines'. -/
def ptyLinesUptoCard : Claim7 := { stood := { row := ptyLinesUptoRow, standIns := [], harness := (true, "17855d74503685621c09df983c2d896ab0d109f41a7276571187b829bda59543"), looks := false }, kinds := [], alts := [], laidByText := true, laidKinds := [.data, .funcs, .mapped, .pinned], laidTests := true, laidLooks := .later }
def PtyLinesUptoCardSaid : Prop := Claim7.holds Tryd.pinned (.plain (OpenSpec.upto ptyLinesSpec)) ptyLinesUptoCard

/-- THE SECOND FORM's CARD OF 'orpimentlaw26.PtyReads'. -/
def ptyReadsUptoCard : Claim7 := { stood := { row := ptyReadsUptoRow, standIns := [], harness := (true, "17855d74503685621c09df983c2d896ab0d109f41a7276571187b829bda59543"), looks := false }, kinds := [], alts := [], laidByText := true, laidKinds := [.data, .funcs, .mapped, .pinned], laidTests := true, laidLooks := .later }
def PtyReadsUptoCardSaid : Prop := Claim7.holds Tryd.pinned (.plain (OpenSpec.upto ptyReadsSpec)) ptyReadsUptoCard
end Rows
end Go.Proofs.YtfgejkhhkacknaaDoor
