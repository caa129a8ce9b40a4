/-
  DERIVED. GIVEN WITH THE SEED: THE CARDS: each row of YtgbnjcmjioiclaaDoorRows.lean that lists a variable, with what it lists TIED to the program's text (the seventh form; the later family's looks); each row that meets fmt, with fmt's text TOLD by the authors' own Lean function (tested against real Go, not proved from fmt's source: count such statements apart). THE CARD IS WHAT COUNTS. Prove the row's statement (the work); the ties are given (YtgbnjcmjioiclaaDoorTie.lean); close each card by the builder's one call (the guide's Derived/Test/ToyasCard.lean, 'card_holds'). Laid BY PROGRAM, IN A SANDBOX (cutbox-door.mjs). By AI agents, Wed Nov 11 2026. No macro, syntax, notation, axiom, sorry.
-/
import Derived.Test.YtgbnjcmjioiclaaDoorRows
import GoSem.ClaimSeven
namespace Go.Proofs.YtgbnjcmjioiclaaDoor
namespace Rows

/-- THE TIED CARD OF 'orpimentlaw20.AttributesAllowed'. -/
def attributesAllowedCard : Claim7 := { stood := { row := attributesAllowedRow, standIns := [], harness := (true, "8f06e6afc137c759b53bad1439af8e95e0b40ea146449386f64456c31bba51ed"), looks := false }, kinds := [], alts := [], laidByText := true, laidKinds := [.data], laidTests := true, laidLooks := .later }
def AttributesAllowedCardSaid : Prop := Claim7.holds Tryd.pinned (.plain (OpenSpec.ofChange attributesAllowedSpec)) attributesAllowedCard

/-- THE TIED CARD OF 'orpimentlaw20.AttributesAppends'. -/
def attributesAppendsCard : Claim7 := { stood := { row := attributesAppendsRow, standIns := [], harness := (true, "8f06e6afc137c759b53bad1439af8e95e0b40ea146449386f64456c31bba51ed"), looks := false }, kinds := [], alts := [], laidByText := true, laidKinds := [.data], laidTests := true, laidLooks := .later }
def AttributesAppendsCardSaid : Prop := Claim7.holds Tryd.pinned (.plain (OpenSpec.ofChange attributesAppendsSpec)) attributesAppendsCard

/-- THE TIED CARD OF 'orpimentlaw20.AttributesShares'. -/
def attributesSharesCard : Claim7 := { stood := { row := attributesSharesRow, standIns := [], harness := (true, "8f06e6afc137c759b53bad1439af8e95e0b40ea146449386f64456c31bba51ed"), looks := false }, kinds := [], alts := [], laidByText := true, laidKinds := [.data], laidTests := true, laidLooks := .later }
def AttributesSharesCardSaid : Prop := Claim7.holds Tryd.pinned (.plain (OpenSpec.ofChange attributesSharesSpec)) attributesSharesCard

/-- THE TIED CARD OF 'orpimentlaw20.AttributesNil'. -/
def attributesNilCard : Claim7 := { stood := { row := attributesNilRow, standIns := [], harness := (true, "8f06e6afc137c759b53bad1439af8e95e0b40ea146449386f64456c31bba51ed"), looks := false }, kinds := [], alts := [], laidByText := true, laidKinds := [.data], laidTests := true, laidLooks := .later }
def AttributesNilCardSaid : Prop := Claim7.holds Tryd.pinned (.plain (OpenSpec.ofChange attributesNilSpec)) attributesNilCard

/-- THE TIED CARD OF 'orpimentlaw20.AttributesGets'. -/
def attributesGetsCard : Claim7 := { stood := { row := attributesGetsRow, standIns := [], harness := (true, "8f06e6afc137c759b53bad1439af8e95e0b40ea146449386f64456c31bba51ed"), looks := false }, kinds := [], alts := [], laidByText := true, laidKinds := [.data], laidTests := true, laidLooks := .later }
def AttributesGetsCardSaid : Prop := Claim7.holds Tryd.pinned (.plain (OpenSpec.ofChange attributesGetsSpec)) attributesGetsCard

/-- THE TIED CARD OF 'orpimentlaw20.AttributesPlays'. -/
def attributesPlaysCard : Claim7 := { stood := { row := attributesPlaysRow, standIns := [], harness := (true, "8f06e6afc137c759b53bad1439af8e95e0b40ea146449386f64456c31bba51ed"), looks := false }, kinds := [], alts := [], laidByText := true, laidKinds := [.data], laidTests := true, laidLooks := .later }
def AttributesPlaysCardSaid : Prop := Claim7.holds Tryd.pinned (.plain (OpenSpec.ofChange attributesPlaysSpec)) attributesPlaysCard

/-- THE SECOND FORM's CARD OF 'orpimentlaw20.AttributesAllowed'. -/
def attributesAllowedUptoCard : Claim7 := { stood := { row := attributesAllowedUptoRow, standIns := [], harness := (true, "8f06e6afc137c759b53bad1439af8e95e0b40ea146449386f64456c31bba51ed"), looks := false }, kinds := [], alts := [], laidByText := true, laidKinds := [.data], laidTests := true, laidLooks := .later }
def AttributesAllowedUptoCardSaid : Prop := Claim7.holds Tryd.pinned (.plain (OpenSpec.upto attributesAllowedSpec)) attributesAllowedUptoCard

/-- THE SECOND FORM's CARD OF 'orpimentlaw20.AttributesAppends'. -/
def attributesAppendsUptoCard : Claim7 := { stood := { row := attributesAppendsUptoRow, standIns := [], harness := (true, "8f06e6afc137c759b53bad1439af8e95e0b40ea146449386f64456c31bba51ed"), looks := false }, kinds := [], alts := [], laidByText := true, laidKinds := [.data], laidTests := true, laidLooks := .later }
def AttributesAppendsUptoCardSaid : Prop := Claim7.holds Tryd.pinned (.plain (OpenSpec.upto attributesAppendsSpec)) attributesAppendsUptoCard

/-- THE SECOND FORM's CARD OF 'orpimentlaw20.AttributesShares'. -/
def attributesSharesUptoCard : Claim7 := { stood := { row := attributesSharesUptoRow, standIns := [], harness := (true, "8f06e6afc137c759b53bad1439af8e95e0b40ea146449386f64456c31bba51ed"), looks := false }, kinds := [], alts := [], laidByText := true, laidKinds := [.data], laidTests := true, laidLooks := .later }
def AttributesSharesUptoCardSaid : Prop := Claim7.holds Tryd.pinned (.plain (OpenSpec.upto attributesSharesSpec)) attributesSharesUptoCard

/-- THE SECOND FORM's CARD OF 'orpimentlaw20.AttributesNil'. -/
def attributesNilUptoCard : Claim7 := { stood := { row := attributesNilUptoRow, standIns := [], harness := (true, "8f06e6afc137c759b53bad1439af8e95e0b40ea146449386f64456c31bba51ed"), looks := false }, kinds := [], alts := [], laidByText := true, laidKinds := [.data], laidTests := true, laidLooks := .later }
def AttributesNilUptoCardSaid : Prop := Claim7.holds Tryd.pinned (.plain (OpenSpec.upto attributesNilSpec)) attributesNilUptoCard

/-- THE SECOND FORM's CARD OF 'orpimentlaw20.AttributesGets'. -/
def attributesGetsUptoCard : Claim7 := { stood := { row := attributesGetsUptoRow, standIns := [], harness := (true, "8f06e6afc137c759b53bad1439af8e95e0b40ea146449386f64456c31bba51ed"), looks := false }, kinds := [], alts := [], laidByText := true, laidKinds := [.data], laidTests := true, laidLooks := .later }
def AttributesGetsUptoCardSaid : Prop := Claim7.holds Tryd.pinned (.plain (OpenSpec.upto attributesGetsSpec)) attributesGetsUptoCard

/-- THE SECOND FORM's CARD OF 'orpimentlaw20.AttributesPlays'. -/
def attributesPlaysUptoCard : Claim7 := { stood := { row := attributesPlaysUptoRow, standIns := [], harness := (true, "8f06e6afc137c759b53bad1439af8e95e0b40ea146449386f64456c31bba51ed"), looks := false }, kinds := [], alts := [], laidByText := true, laidKinds := [.data], laidTests := true, laidLooks := .later }
def AttributesPlaysUptoCardSaid : Prop := Claim7.holds Tryd.pinned (.plain (OpenSpec.upto attributesPlaysSpec)) attributesPlaysUptoCard
end Rows
end Go.Proofs.YtgbnjcmjioiclaaDoor
