/-
  DERIVED. GIVEN WITH THE SEED: THE CARDS: each row of YtnbjnjichhepiaaDoorRows.lean that lists a variable, with what it lists TIED to the program's text (the seventh form; the later family's looks); each row that meets fmt, with fmt's text TOLD by the authors' own Lean function (tested against real Go, not proved from fmt's source: count such statements apart). THE CARD IS WHAT COUNTS. Prove the row's statement (the work); the ties are given (YtnbjnjichhepiaaDoorTie.lean); close each card by the builder's one call (the guide's Derived/Test/ToyasCard.lean, 'card_holds'). Laid BY PROGRAM, IN A SANDBOX (cutbox-door.mjs). By AI agents, Wed Nov 11 2026. No macro, syntax, notation, axiom, sorry.
-/
import Derived.Test.YtnbjnjichhepiaaDoorRows
import GoSem.ClaimSeven
namespace Go.Proofs.YtnbjnjichhepiaaDoor
namespace Rows

/-- THE TIED CARD OF 'orpimentlaw23.CombineEncodes'. -/
def combineEncodesCard : Claim7 := { stood := { row := combineEncodesRow, standIns := [], harness := (true, "5d6eba521ba48c0f65a072e5784584eb58c5046628f47eb9de0fdb081dffed19"), looks := false }, kinds := [], alts := [], laidByText := true, laidKinds := [.data], laidTests := true, laidLooks := .later }
def CombineEncodesCardSaid : Prop := Claim7.holds Tryd.pinned (.plain (OpenSpec.ofChange combineEncodesSpec)) combineEncodesCard

/-- THE TIED CARD OF 'orpimentlaw23.CombineBack'. -/
def combineBackCard : Claim7 := { stood := { row := combineBackRow, standIns := [], harness := (true, "5d6eba521ba48c0f65a072e5784584eb58c5046628f47eb9de0fdb081dffed19"), looks := false }, kinds := [], alts := [], laidByText := true, laidKinds := [.data], laidTests := true, laidLooks := .later }
def CombineBackCardSaid : Prop := Claim7.holds Tryd.pinned (.plain (OpenSpec.ofChange combineBackSpec)) combineBackCard

/-- THE TIED CARD OF 'orpimentlaw23.CombineReplies'. -/
def combineRepliesCard : Claim7 := { stood := { row := combineRepliesRow, standIns := [], harness := (true, "5d6eba521ba48c0f65a072e5784584eb58c5046628f47eb9de0fdb081dffed19"), looks := false }, kinds := [], alts := [], laidByText := true, laidKinds := [.data], laidTests := true, laidLooks := .later }
def CombineRepliesCardSaid : Prop := Claim7.holds Tryd.pinned (.plain (OpenSpec.ofChange combineRepliesSpec)) combineRepliesCard

/-- THE TIED CARD OF 'orpimentlaw23.CombineDecodes'. -/
def combineDecodesCard : Claim7 := { stood := { row := combineDecodesRow, standIns := [], harness := (true, "5d6eba521ba48c0f65a072e5784584eb58c5046628f47eb9de0fdb081dffed19"), looks := false }, kinds := [], alts := [], laidByText := true, laidKinds := [.data], laidTests := true, laidLooks := .later }
def CombineDecodesCardSaid : Prop := Claim7.holds Tryd.pinned (.plain (OpenSpec.ofChange combineDecodesSpec)) combineDecodesCard

/-- THE TIED CARD OF 'orpimentlaw23.CombineNil'. -/
def combineNilCard : Claim7 := { stood := { row := combineNilRow, standIns := [], harness := (true, "5d6eba521ba48c0f65a072e5784584eb58c5046628f47eb9de0fdb081dffed19"), looks := false }, kinds := [], alts := [], laidByText := true, laidKinds := [.data], laidTests := true, laidLooks := .later }
def CombineNilCardSaid : Prop := Claim7.holds Tryd.pinned (.plain (OpenSpec.ofChange combineNilSpec)) combineNilCard

/-- THE SECOND FORM's CARD OF 'orpimentlaw23.CombineEncodes'. -/
def combineEncodesUptoCard : Claim7 := { stood := { row := combineEncodesUptoRow, standIns := [], harness := (true, "5d6eba521ba48c0f65a072e5784584eb58c5046628f47eb9de0fdb081dffed19"), looks := false }, kinds := [], alts := [], laidByText := true, laidKinds := [.data], laidTests := true, laidLooks := .later }
def CombineEncodesUptoCardSaid : Prop := Claim7.holds Tryd.pinned (.plain (OpenSpec.upto combineEncodesSpec)) combineEncodesUptoCard

/-- THE SECOND FORM's CARD OF 'orpimentlaw23.CombineBack'. -/
def combineBackUptoCard : Claim7 := { stood := { row := combineBackUptoRow, standIns := [], harness := (true, "5d6eba521ba48c0f65a072e5784584eb58c5046628f47eb9de0fdb081dffed19"), looks := false }, kinds := [], alts := [], laidByText := true, laidKinds := [.data], laidTests := true, laidLooks := .later }
def CombineBackUptoCardSaid : Prop := Claim7.holds Tryd.pinned (.plain (OpenSpec.upto combineBackSpec)) combineBackUptoCard

/-- THE SECOND FORM's CARD OF 'orpimentlaw23.CombineReplies'. -/
def combineRepliesUptoCard : Claim7 := { stood := { row := combineRepliesUptoRow, standIns := [], harness := (true, "5d6eba521ba48c0f65a072e5784584eb58c5046628f47eb9de0fdb081dffed19"), looks := false }, kinds := [], alts := [], laidByText := true, laidKinds := [.data], laidTests := true, laidLooks := .later }
def CombineRepliesUptoCardSaid : Prop := Claim7.holds Tryd.pinned (.plain (OpenSpec.upto combineRepliesSpec)) combineRepliesUptoCard

/-- THE SECOND FORM's CARD OF 'orpimentlaw23.CombineDecodes'. -/
def combineDecodesUptoCard : Claim7 := { stood := { row := combineDecodesUptoRow, standIns := [], harness := (true, "5d6eba521ba48c0f65a072e5784584eb58c5046628f47eb9de0fdb081dffed19"), looks := false }, kinds := [], alts := [], laidByText := true, laidKinds := [.data], laidTests := true, laidLooks := .later }
def CombineDecodesUptoCardSaid : Prop := Claim7.holds Tryd.pinned (.plain (OpenSpec.upto combineDecodesSpec)) combineDecodesUptoCard

/-- THE SECOND FORM's CARD OF 'orpimentlaw23.CombineNil'. -/
def combineNilUptoCard : Claim7 := { stood := { row := combineNilUptoRow, standIns := [], harness := (true, "5d6eba521ba48c0f65a072e5784584eb58c5046628f47eb9de0fdb081dffed19"), looks := false }, kinds := [], alts := [], laidByText := true, laidKinds := [.data], laidTests := true, laidLooks := .later }
def CombineNilUptoCardSaid : Prop := Claim7.holds Tryd.pinned (.plain (OpenSpec.upto combineNilSpec)) combineNilUptoCard
end Rows
end Go.Proofs.YtnbjnjichhepiaaDoor
