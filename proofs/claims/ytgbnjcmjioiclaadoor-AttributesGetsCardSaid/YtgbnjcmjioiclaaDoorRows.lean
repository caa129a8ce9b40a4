/-
  NARROWER THAN 'FOR EVERY INPUT', by the rows' own cells (each row's printed sentence says how): AttributesAllowed: laid · AttributesAppends: laid · AttributesShares: laid · AttributesNil: laid · AttributesGets: laid · AttributesPlays: laid.
  DERIVED. THE GIVEN ROWS OF THIS SEAT. 6 by the template 'for every input the law returns true; each argument reads behind the call as it read before'; 0 by the template 'total and deterministic' (their statements: YtgbnjcmjioiclaaDoorTotals.lean).
  GIVEN WITH THE SEED: the statements are not yours to turn. If you find one false, say at which input.
  Laid BY PROGRAM, IN A SANDBOX (cutbox-rows.mjs): the forced cells as the released guide's own fill.sh prints them over the translation 00b1a9bbf186f9a7… (all of the seat's roots in one cut). By AI agents, Wed Nov 11 2026. No macro, syntax, notation, axiom, sorry.
-/
import Derived.Test.YtgbnjcmjioiclaaDoorChecked
import GoSem.Claim
import GoSem.ClaimJoined
import GoSem.ClaimMapViews
import Derived.JoinedTies
import Derived.KernelRfl
namespace Go.Proofs.YtgbnjcmjioiclaaDoor
/- THE CELL 'sum', in the pinned program and in every row, IS THE sha256 OF THE DUMP (.gsa) THAT YtgbnjcmjioiclaaDoorProg.lean LOADS. Nothing in Lean hashes anything: it is a label: what it is worth is what the hold of that sum in a sandbox is worth. -/
noncomputable def Tryd.pinned : Pinned := { name := "ytgbnjcmjioiclaadoor", sum := "00b1a9bbf186f9a775b50967886db7e51364ed1aa84772aa6044ac7790272749", checked := Tryd.checked }
namespace Rows
def none {H : Type} : Left H := { results := [], args := [] }

/- WHAT THE LISTED PACKAGE-LEVEL VARIABLES READ AS WHEN THE CALL BEGINS. Each datum BY PROGRAM (the guide's laid-datum.mjs) off the statement by which the dump's own 'gosem.cut.vars' lays the variable. In a bare row this is a premise. The card (YtgbnjcmjioiclaaDoorCards.lean) ties it to the program's text. -/
def laid_orpiment_attributes_bits {H : Type} : DataW H := .agg [.agg [.lit (.int .i64 4), .lit (.int .i64 1)], .agg [.lit (.int .i64 2), .lit (.int .i64 2)], .agg [.lit (.int .i64 1), .lit (.int .i64 4)]]

/-- 'orpimentlaw20.AttributesAllowed': WHATEVER THE INPUT: true; the input reads as it did. -/
def attributesAllowedSpec : ChangeSpec := { name := "attributesAllowed", fn := fun _ => fun
  | [d1, d2, d3] => { results := [.lit (.bool true)], args := [d1, d2, d3] }
  | _ => none }
def attributesAllowedRow : OpenClaim := { program := "ytgbnjcmjioiclaadoor", sum := "00b1a9bbf186f9a775b50967886db7e51364ed1aa84772aa6044ac7790272749", func := "orpiment/orpimentlaw20.AttributesAllowed", spec := "attributesAllowed", unfollowed := true, recurses := true, named := ["orpiment/attributes.bits"], apart := false, laid := [("orpiment/attributes.bits", laid_orpiment_attributes_bits)] }
def AttributesAllowedSaid : Prop := attributesAllowedRow.holds Tryd.pinned (OpenSpec.ofChange attributesAllowedSpec)

/-- ITS FALSE NEIGHBOUR: 'it returns false'. Refute it at one input. -/
def attributesAllowedWrong : ChangeSpec := { name := "attributesAllowed", fn := fun _ => fun
  | [d1, d2, d3] => { results := [.lit (.bool false)], args := [d1, d2, d3] }
  | _ => none }
def AttributesAllowedWrongFalsely : Prop := attributesAllowedRow.holds Tryd.pinned (OpenSpec.ofChange attributesAllowedWrong)

/-- 'orpimentlaw20.AttributesAppends': WHATEVER THE INPUT: true; the input reads as it did. -/
def attributesAppendsSpec : ChangeSpec := { name := "attributesAppends", fn := fun _ => fun
  | [d1, d2] => { results := [.lit (.bool true)], args := [d1, d2] }
  | _ => none }
def attributesAppendsRow : OpenClaim := { program := "ytgbnjcmjioiclaadoor", sum := "00b1a9bbf186f9a775b50967886db7e51364ed1aa84772aa6044ac7790272749", func := "orpiment/orpimentlaw20.AttributesAppends", spec := "attributesAppends", unfollowed := true, recurses := true, named := ["orpiment/attributes.bits"], apart := false, laid := [("orpiment/attributes.bits", laid_orpiment_attributes_bits)] }
def AttributesAppendsSaid : Prop := attributesAppendsRow.holds Tryd.pinned (OpenSpec.ofChange attributesAppendsSpec)

/-- ITS FALSE NEIGHBOUR: 'it returns false'. Refute it at one input. -/
def attributesAppendsWrong : ChangeSpec := { name := "attributesAppends", fn := fun _ => fun
  | [d1, d2] => { results := [.lit (.bool false)], args := [d1, d2] }
  | _ => none }
def AttributesAppendsWrongFalsely : Prop := attributesAppendsRow.holds Tryd.pinned (OpenSpec.ofChange attributesAppendsWrong)

/-- 'orpimentlaw20.AttributesShares': WHATEVER THE INPUT: true; the input reads as it did. -/
def attributesSharesSpec : ChangeSpec := { name := "attributesShares", fn := fun _ => fun
  | [d] => { results := [.lit (.bool true)], args := [d] }
  | _ => none }
def attributesSharesRow : OpenClaim := { program := "ytgbnjcmjioiclaadoor", sum := "00b1a9bbf186f9a775b50967886db7e51364ed1aa84772aa6044ac7790272749", func := "orpiment/orpimentlaw20.AttributesShares", spec := "attributesShares", unfollowed := true, recurses := true, named := ["orpiment/attributes.bits"], apart := false, laid := [("orpiment/attributes.bits", laid_orpiment_attributes_bits)] }
def AttributesSharesSaid : Prop := attributesSharesRow.holds Tryd.pinned (OpenSpec.ofChange attributesSharesSpec)

/-- ITS FALSE NEIGHBOUR: 'it returns false'. Refute it at one input. -/
def attributesSharesWrong : ChangeSpec := { name := "attributesShares", fn := fun _ => fun
  | [d] => { results := [.lit (.bool false)], args := [d] }
  | _ => none }
def AttributesSharesWrongFalsely : Prop := attributesSharesRow.holds Tryd.pinned (OpenSpec.ofChange attributesSharesWrong)

/-- 'orpimentlaw20.AttributesNil': WHATEVER THE INPUT: true; the input reads as it did. -/
def attributesNilSpec : ChangeSpec := { name := "attributesNil", fn := fun _ => fun
  | [d] => { results := [.lit (.bool true)], args := [d] }
  | _ => none }
def attributesNilRow : OpenClaim := { program := "ytgbnjcmjioiclaadoor", sum := "00b1a9bbf186f9a775b50967886db7e51364ed1aa84772aa6044ac7790272749", func := "orpiment/orpimentlaw20.AttributesNil", spec := "attributesNil", unfollowed := true, recurses := true, named := ["orpiment/attributes.bits"], apart := false, laid := [("orpiment/attributes.bits", laid_orpiment_attributes_bits)] }
def AttributesNilSaid : Prop := attributesNilRow.holds Tryd.pinned (OpenSpec.ofChange attributesNilSpec)

/-- ITS FALSE NEIGHBOUR: 'it returns false'. Refute it at one input. -/
def attributesNilWrong : ChangeSpec := { name := "attributesNil", fn := fun _ => fun
  | [d] => { results := [.lit (.bool false)], args := [d] }
  | _ => none }
def AttributesNilWrongFalsely : Prop := attributesNilRow.holds Tryd.pinned (OpenSpec.ofChange attributesNilWrong)

/-- 'orpimentlaw20.AttributesGets': WHATEVER THE INPUT: true; the input reads as it did. -/
def attributesGetsSpec : ChangeSpec := { name := "attributesGets", fn := fun _ => fun
  | [d1, d2, d3] => { results := [.lit (.bool true)], args := [d1, d2, d3] }
  | _ => none }
def attributesGetsRow : OpenClaim := { program := "ytgbnjcmjioiclaadoor", sum := "00b1a9bbf186f9a775b50967886db7e51364ed1aa84772aa6044ac7790272749", func := "orpiment/orpimentlaw20.AttributesGets", spec := "attributesGets", unfollowed := true, recurses := true, named := ["orpiment/attributes.bits"], apart := false, laid := [("orpiment/attributes.bits", laid_orpiment_attributes_bits)] }
def AttributesGetsSaid : Prop := attributesGetsRow.holds Tryd.pinned (OpenSpec.ofChange attributesGetsSpec)

/-- ITS FALSE NEIGHBOUR: 'it returns false'. Refute it at one input. -/
def attributesGetsWrong : ChangeSpec := { name := "attributesGets", fn := fun _ => fun
  | [d1, d2, d3] => { results := [.lit (.bool false)], args := [d1, d2, d3] }
  | _ => none }
def AttributesGetsWrongFalsely : Prop := attributesGetsRow.holds Tryd.pinned (OpenSpec.ofChange attributesGetsWrong)

/-- 'orpimentlaw20.AttributesPlays': WHATEVER THE INPUT: true; the input reads as it did. -/
def attributesPlaysSpec : ChangeSpec := { name := "attributesPlays", fn := fun _ => fun
  | [d] => { results := [.lit (.bool true)], args := [d] }
  | _ => none }
def attributesPlaysRow : OpenClaim := { program := "ytgbnjcmjioiclaadoor", sum := "00b1a9bbf186f9a775b50967886db7e51364ed1aa84772aa6044ac7790272749", func := "orpiment/orpimentlaw20.AttributesPlays", spec := "attributesPlays", unfollowed := true, recurses := true, named := ["orpiment/attributes.bits"], apart := false, laid := [("orpiment/attributes.bits", laid_orpiment_attributes_bits)] }
def AttributesPlaysSaid : Prop := attributesPlaysRow.holds Tryd.pinned (OpenSpec.ofChange attributesPlaysSpec)

/-- ITS FALSE NEIGHBOUR: 'it returns false'. Refute it at one input. -/
def attributesPlaysWrong : ChangeSpec := { name := "attributesPlays", fn := fun _ => fun
  | [d] => { results := [.lit (.bool false)], args := [d] }
  | _ => none }
def AttributesPlaysWrongFalsely : Prop := attributesPlaysRow.holds Tryd.pinned (OpenSpec.ofChange attributesPlaysWrong)

/- THE SECOND FORM. 'bulk': how many values and letters a reading holds, each counted each time it is reached (what is shared counts as often as it is met; a slice's spare places count too). A statement '..UptoSaid' is the law's where the arguments, and the package variables that the reading takes, are together of bulk at most 1048576: NARROWER than '..Said'. Prove '..Said' where nothing that the law and all that it calls make is longer than what came in: it says more and counts as full. Else prove '..UptoSaid'. A law counts once. -/
mutual
def uptoBulk {H : Type} : DataW H → Nat
  | .lit (.string bytes) => bytes.length + 1
  | .lit _ => 1
  | .nil => 1
  | .ptr d => uptoBulk d + 1
  | .slice elems spare => uptoBulkAll elems + uptoBulkAll spare + 1
  | .agg parts => uptoBulkAll parts + 1
  | .iface _ d => uptoBulk d + 1
  | .map entries => uptoBulkEntries entries + 1
  | .held _ => 1
def uptoBulkAll {H : Type} : List (DataW H) → Nat
  | [] => 0
  | d :: r => uptoBulk d + uptoBulkAll r
def uptoBulkEntries {H : Type} : List (Lit × DataW H) → Nat
  | [] => 0
  | x :: r => uptoBulkEntry x + uptoBulkEntries r
def uptoBulkEntry {H : Type} : Lit × DataW H → Nat
  | (.string bytes, d) => bytes.length + uptoBulk d + 1
  | (_, d) => uptoBulk d + 1
 end
def uptoSmall : (H : Type) → List (DataW H) → Bool := fun _ ds => decide (uptoBulkAll ds ≤ 1048576)
def OpenSpec.upto (s : _root_.Go.ChangeSpec) : _root_.Go.OpenSpec := { _root_.Go.OpenSpec.ofChange s with cond := some uptoSmall }

/-- 'orpimentlaw20.AttributesAllowed', WHERE WHAT IT READS IS OF BULK AT MOST 1048576: true; the input reads as it did. -/
def attributesAllowedUptoRow : OpenClaim := { program := "ytgbnjcmjioiclaadoor", sum := "00b1a9bbf186f9a775b50967886db7e51364ed1aa84772aa6044ac7790272749", func := "orpiment/orpimentlaw20.AttributesAllowed", spec := "attributesAllowed", unfollowed := true, recurses := true, named := ["orpiment/attributes.bits"], apart := false, laid := [("orpiment/attributes.bits", laid_orpiment_attributes_bits)], narrowed := true }
def AttributesAllowedUptoSaid : Prop := attributesAllowedUptoRow.holds Tryd.pinned (OpenSpec.upto attributesAllowedSpec)

/-- 'orpimentlaw20.AttributesAppends', WHERE WHAT IT READS IS OF BULK AT MOST 1048576: true; the input reads as it did. -/
def attributesAppendsUptoRow : OpenClaim := { program := "ytgbnjcmjioiclaadoor", sum := "00b1a9bbf186f9a775b50967886db7e51364ed1aa84772aa6044ac7790272749", func := "orpiment/orpimentlaw20.AttributesAppends", spec := "attributesAppends", unfollowed := true, recurses := true, named := ["orpiment/attributes.bits"], apart := false, laid := [("orpiment/attributes.bits", laid_orpiment_attributes_bits)], narrowed := true }
def AttributesAppendsUptoSaid : Prop := attributesAppendsUptoRow.holds Tryd.pinned (OpenSpec.upto attributesAppendsSpec)

/-- 'orpimentlaw20.AttributesShares', WHERE WHAT IT READS IS OF BULK AT MOST 1048576: true; the input reads as it did. -/
def attributesSharesUptoRow : OpenClaim := { program := "ytgbnjcmjioiclaadoor", sum := "00b1a9bbf186f9a775b50967886db7e51364ed1aa84772aa6044ac7790272749", func := "orpiment/orpimentlaw20.AttributesShares", spec := "attributesShares", unfollowed := true, recurses := true, named := ["orpiment/attributes.bits"], apart := false, laid := [("orpiment/attributes.bits", laid_orpiment_attributes_bits)], narrowed := true }
def AttributesSharesUptoSaid : Prop := attributesSharesUptoRow.holds Tryd.pinned (OpenSpec.upto attributesSharesSpec)

/-- 'orpimentlaw20.AttributesNil', WHERE WHAT IT READS IS OF BULK AT MOST 1048576: true; the input reads as it did. -/
def attributesNilUptoRow : OpenClaim := { program := "ytgbnjcmjioiclaadoor", sum := "00b1a9bbf186f9a775b50967886db7e51364ed1aa84772aa6044ac7790272749", func := "orpiment/orpimentlaw20.AttributesNil", spec := "attributesNil", unfollowed := true, recurses := true, named := ["orpiment/attributes.bits"], apart := false, laid := [("orpiment/attributes.bits", laid_orpiment_attributes_bits)], narrowed := true }
def AttributesNilUptoSaid : Prop := attributesNilUptoRow.holds Tryd.pinned (OpenSpec.upto attributesNilSpec)

/-- 'orpimentlaw20.AttributesGets', WHERE WHAT IT READS IS OF BULK AT MOST 1048576: true; the input reads as it did. -/
def attributesGetsUptoRow : OpenClaim := { program := "ytgbnjcmjioiclaadoor", sum := "00b1a9bbf186f9a775b50967886db7e51364ed1aa84772aa6044ac7790272749", func := "orpiment/orpimentlaw20.AttributesGets", spec := "attributesGets", unfollowed := true, recurses := true, named := ["orpiment/attributes.bits"], apart := false, laid := [("orpiment/attributes.bits", laid_orpiment_attributes_bits)], narrowed := true }
def AttributesGetsUptoSaid : Prop := attributesGetsUptoRow.holds Tryd.pinned (OpenSpec.upto attributesGetsSpec)

/-- 'orpimentlaw20.AttributesPlays', WHERE WHAT IT READS IS OF BULK AT MOST 1048576: true; the input reads as it did. -/
def attributesPlaysUptoRow : OpenClaim := { program := "ytgbnjcmjioiclaadoor", sum := "00b1a9bbf186f9a775b50967886db7e51364ed1aa84772aa6044ac7790272749", func := "orpiment/orpimentlaw20.AttributesPlays", spec := "attributesPlays", unfollowed := true, recurses := true, named := ["orpiment/attributes.bits"], apart := false, laid := [("orpiment/attributes.bits", laid_orpiment_attributes_bits)], narrowed := true }
def AttributesPlaysUptoSaid : Prop := attributesPlaysUptoRow.holds Tryd.pinned (OpenSpec.upto attributesPlaysSpec)

end Rows
end Go.Proofs.YtgbnjcmjioiclaaDoor
