/-
  NARROWER THAN 'FOR EVERY INPUT', by the rows' own cells (each row's printed sentence says how): CombineEncodes: laid · CombineBack: laid · CombineReplies: laid · CombineDecodes: laid · CombineNil: laid.
  DERIVED. THE GIVEN ROWS OF THIS SEAT. 5 by the template 'for every input the law returns true; each argument reads behind the call as it read before'; 0 by the template 'total and deterministic' (their statements: YtnbjnjichhepiaaDoorTotals.lean).
  GIVEN WITH THE SEED: the statements are not yours to turn. If you find one false, say at which input.
  Laid BY PROGRAM, IN A SANDBOX (cutbox-rows.mjs): the forced cells as the released guide's own fill.sh prints them over the translation 43b2e44411d3241c… (all of the seat's roots in one cut). By AI agents, Wed Nov 11 2026. No macro, syntax, notation, axiom, sorry.
-/
import Derived.Test.YtnbjnjichhepiaaDoorChecked
import GoSem.Claim
import GoSem.ClaimJoined
import GoSem.ClaimMapViews
import Derived.JoinedTies
import Derived.KernelRfl
namespace Go.Proofs.YtnbjnjichhepiaaDoor
/- THE CELL 'sum', in the pinned program and in every row, IS THE sha256 OF THE DUMP (.gsa) THAT YtnbjnjichhepiaaDoorProg.lean LOADS. Nothing in Lean hashes anything: it is a label: what it is worth is what the hold of that sum in a sandbox is worth. -/
noncomputable def Tryd.pinned : Pinned := { name := "ytnbjnjichhepiaadoor", sum := "43b2e44411d3241c8f565811b91909a8d04bd5c814ab90f0406af6061b84c6d4", checked := Tryd.checked }
namespace Rows
def none {H : Type} : Left H := { results := [], args := [] }

/- WHAT THE LISTED PACKAGE-LEVEL VARIABLES READ AS WHEN THE CALL BEGINS. Each datum BY PROGRAM (the guide's laid-datum.mjs) off the statement by which the dump's own 'gosem.cut.vars' lays the variable. In a bare row this is a premise. The card (YtnbjnjichhepiaaDoorCards.lean) ties it to the program's text. -/
def laid_orpiment_combine_uses {H : Type} : DataW H := .agg [.agg [.lit (.bool true), .lit (.bool false), .lit (.bool true), .lit (.bool false), .lit (.bool false)], .agg [.lit (.bool false), .lit (.bool true), .lit (.bool false), .lit (.bool false), .lit (.bool false)], .agg [.lit (.bool false), .lit (.bool true), .lit (.bool true), .lit (.bool false), .lit (.bool false)], .agg [.lit (.bool false), .lit (.bool true), .lit (.bool false), .lit (.bool false), .lit (.bool true)], .agg [.lit (.bool false), .lit (.bool true), .lit (.bool false), .lit (.bool true), .lit (.bool false)], .agg [.lit (.bool false), .lit (.bool true), .lit (.bool false), .lit (.bool false), .lit (.bool false)], .agg [.lit (.bool false), .lit (.bool true), .lit (.bool false), .lit (.bool true), .lit (.bool false)], .agg [.lit (.bool true), .lit (.bool false), .lit (.bool false), .lit (.bool false), .lit (.bool false)]]

/-- 'orpimentlaw23.CombineEncodes': WHATEVER THE INPUT: true; the input reads as it did. -/
def combineEncodesSpec : ChangeSpec := { name := "combineEncodes", fn := fun _ => fun
  | [d] => { results := [.lit (.bool true)], args := [d] }
  | _ => none }
def combineEncodesRow : OpenClaim := { program := "ytnbjnjichhepiaadoor", sum := "43b2e44411d3241c8f565811b91909a8d04bd5c814ab90f0406af6061b84c6d4", func := "orpiment/orpimentlaw23.CombineEncodes", spec := "combineEncodes", inPlace := ["internal/bytealg.IndexByteString", "internal/bytealg.IndexString"], unfollowed := true, recurses := true, named := ["orpiment/combine.uses", "internal/bytealg.MaxLen"], apart := false, laid := [("orpiment/combine.uses", laid_orpiment_combine_uses)] }
def CombineEncodesSaid : Prop := combineEncodesRow.holds Tryd.pinned (OpenSpec.ofChange combineEncodesSpec)

/-- ITS FALSE NEIGHBOUR: 'it returns false'. Refute it at one input. -/
def combineEncodesWrong : ChangeSpec := { name := "combineEncodes", fn := fun _ => fun
  | [d] => { results := [.lit (.bool false)], args := [d] }
  | _ => none }
def CombineEncodesWrongFalsely : Prop := combineEncodesRow.holds Tryd.pinned (OpenSpec.ofChange combineEncodesWrong)

/-- 'orpimentlaw23.CombineBack': WHATEVER THE INPUT: true; the input reads as it did. -/
def combineBackSpec : ChangeSpec := { name := "combineBack", fn := fun _ => fun
  | [d1, d2] => { results := [.lit (.bool true)], args := [d1, d2] }
  | _ => none }
def combineBackRow : OpenClaim := { program := "ytnbjnjichhepiaadoor", sum := "43b2e44411d3241c8f565811b91909a8d04bd5c814ab90f0406af6061b84c6d4", func := "orpiment/orpimentlaw23.CombineBack", spec := "combineBack", inPlace := ["internal/bytealg.IndexByteString", "internal/bytealg.IndexString"], unfollowed := true, recurses := true, named := ["orpiment/combine.uses", "internal/bytealg.MaxLen"], apart := false, laid := [("orpiment/combine.uses", laid_orpiment_combine_uses)] }
def CombineBackSaid : Prop := combineBackRow.holds Tryd.pinned (OpenSpec.ofChange combineBackSpec)

/-- ITS FALSE NEIGHBOUR: 'it returns false'. Refute it at one input. -/
def combineBackWrong : ChangeSpec := { name := "combineBack", fn := fun _ => fun
  | [d1, d2] => { results := [.lit (.bool false)], args := [d1, d2] }
  | _ => none }
def CombineBackWrongFalsely : Prop := combineBackRow.holds Tryd.pinned (OpenSpec.ofChange combineBackWrong)

/-- 'orpimentlaw23.CombineReplies': WHATEVER THE INPUT: true; the input reads as it did. -/
def combineRepliesSpec : ChangeSpec := { name := "combineReplies", fn := fun _ => fun
  | [d1, d2] => { results := [.lit (.bool true)], args := [d1, d2] }
  | _ => none }
def combineRepliesRow : OpenClaim := { program := "ytnbjnjichhepiaadoor", sum := "43b2e44411d3241c8f565811b91909a8d04bd5c814ab90f0406af6061b84c6d4", func := "orpiment/orpimentlaw23.CombineReplies", spec := "combineReplies", inPlace := ["internal/bytealg.IndexByteString", "internal/bytealg.IndexString"], unfollowed := true, recurses := true, named := ["orpiment/combine.uses", "internal/bytealg.MaxLen"], apart := false, laid := [("orpiment/combine.uses", laid_orpiment_combine_uses)] }
def CombineRepliesSaid : Prop := combineRepliesRow.holds Tryd.pinned (OpenSpec.ofChange combineRepliesSpec)

/-- ITS FALSE NEIGHBOUR: 'it returns false'. Refute it at one input. -/
def combineRepliesWrong : ChangeSpec := { name := "combineReplies", fn := fun _ => fun
  | [d1, d2] => { results := [.lit (.bool false)], args := [d1, d2] }
  | _ => none }
def CombineRepliesWrongFalsely : Prop := combineRepliesRow.holds Tryd.pinned (OpenSpec.ofChange combineRepliesWrong)

/-- 'orpimentlaw23.CombineDecodes': WHATEVER THE INPUT: true; the input reads as it did. -/
def combineDecodesSpec : ChangeSpec := { name := "combineDecodes", fn := fun _ => fun
  | [d1, d2, d3] => { results := [.lit (.bool true)], args := [d1, d2, d3] }
  | _ => none }
def combineDecodesRow : OpenClaim := { program := "ytnbjnjichhepiaadoor", sum := "43b2e44411d3241c8f565811b91909a8d04bd5c814ab90f0406af6061b84c6d4", func := "orpiment/orpimentlaw23.CombineDecodes", spec := "combineDecodes", inPlace := ["internal/bytealg.IndexByteString", "internal/bytealg.IndexString"], unfollowed := true, recurses := true, named := ["orpiment/combine.uses", "internal/bytealg.MaxLen"], apart := false, laid := [("orpiment/combine.uses", laid_orpiment_combine_uses)] }
def CombineDecodesSaid : Prop := combineDecodesRow.holds Tryd.pinned (OpenSpec.ofChange combineDecodesSpec)

/-- ITS FALSE NEIGHBOUR: 'it returns false'. Refute it at one input. -/
def combineDecodesWrong : ChangeSpec := { name := "combineDecodes", fn := fun _ => fun
  | [d1, d2, d3] => { results := [.lit (.bool false)], args := [d1, d2, d3] }
  | _ => none }
def CombineDecodesWrongFalsely : Prop := combineDecodesRow.holds Tryd.pinned (OpenSpec.ofChange combineDecodesWrong)

/-- 'orpimentlaw23.CombineNil': WHATEVER THE INPUT: true; the input reads as it did. -/
def combineNilSpec : ChangeSpec := { name := "combineNil", fn := fun _ => fun
  | [d1, d2] => { results := [.lit (.bool true)], args := [d1, d2] }
  | _ => none }
def combineNilRow : OpenClaim := { program := "ytnbjnjichhepiaadoor", sum := "43b2e44411d3241c8f565811b91909a8d04bd5c814ab90f0406af6061b84c6d4", func := "orpiment/orpimentlaw23.CombineNil", spec := "combineNil", inPlace := ["internal/bytealg.IndexByteString", "internal/bytealg.IndexString"], unfollowed := true, recurses := true, named := ["orpiment/combine.uses", "internal/bytealg.MaxLen"], apart := false, laid := [("orpiment/combine.uses", laid_orpiment_combine_uses)] }
def CombineNilSaid : Prop := combineNilRow.holds Tryd.pinned (OpenSpec.ofChange combineNilSpec)

/-- ITS FALSE NEIGHBOUR: 'it returns false'. Refute it at one input. -/
def combineNilWrong : ChangeSpec := { name := "combineNil", fn := fun _ => fun
  | [d1, d2] => { results := [.lit (.bool false)], args := [d1, d2] }
  | _ => none }
def CombineNilWrongFalsely : Prop := combineNilRow.holds Tryd.pinned (OpenSpec.ofChange combineNilWrong)

/- THE SECOND FORM. 'bulk': how many values and letters a reading holds, each counted each time it is reached (what is shared counts as often as it is met; a slice's spare places count too). A statement '..UptoSaid' is the law's where the arguments, and the package variables that the reading takes, are together of bulk at most 1048576: NARROWER than '..Said'. Prove '..Said' where nothing that the law and all that it calls make is longer than what came in: it says more and counts as full. Else prove '..UptoSaid'. A law counts once. -/
mutual
def uptoBulk {H : Type} : DataW H → Nat
  | .lit (.string bytes) => bytes.length + 1
  | .lit _ => 1
  | .nil => 1
  | .ptr d => uptoBulk d + 1
  | .slice elems spare => uptoBulkAll elems + uptoBulkAll spare + 1
  | .agg parts => uptoBulkAll parts + 1
  | .iface _ d => uptoBulk d + 1
  | .map entries => uptoBulkEntries entries + 1
  | .held _ => 1
def uptoBulkAll {H : Type} : List (DataW H) → Nat
  | [] => 0
  | d :: r => uptoBulk d + uptoBulkAll r
def uptoBulkEntries {H : Type} : List (Lit × DataW H) → Nat
  | [] => 0
  | x :: r => uptoBulkEntry x + uptoBulkEntries r
def uptoBulkEntry {H : Type} : Lit × DataW H → Nat
  | (.string bytes, d) => bytes.length + uptoBulk d + 1
  | (_, d) => uptoBulk d + 1
 end
def uptoSmall : (H : Type) → List (DataW H) → Bool := fun _ ds => decide (uptoBulkAll ds ≤ 1048576)
def OpenSpec.upto (s : _root_.Go.ChangeSpec) : _root_.Go.OpenSpec := { _root_.Go.OpenSpec.ofChange s with cond := some uptoSmall }

/-- 'orpimentlaw23.CombineEncodes', WHERE WHAT IT READS IS OF BULK AT MOST 1048576: true; the input reads as it did. -/
def combineEncodesUptoRow : OpenClaim := { program := "ytnbjnjichhepiaadoor", sum := "43b2e44411d3241c8f565811b91909a8d04bd5c814ab90f0406af6061b84c6d4", func := "orpiment/orpimentlaw23.CombineEncodes", spec := "combineEncodes", inPlace := ["internal/bytealg.IndexByteString", "internal/bytealg.IndexString"], unfollowed := true, recurses := true, named := ["orpiment/combine.uses", "internal/bytealg.MaxLen"], apart := false, laid := [("orpiment/combine.uses", laid_orpiment_combine_uses)], narrowed := true }
def CombineEncodesUptoSaid : Prop := combineEncodesUptoRow.holds Tryd.pinned (OpenSpec.upto combineEncodesSpec)

/-- 'orpimentlaw23.CombineBack', WHERE WHAT IT READS IS OF BULK AT MOST 1048576: true; the input reads as it did. -/
def combineBackUptoRow : OpenClaim := { program := "ytnbjnjichhepiaadoor", sum := "43b2e44411d3241c8f565811b91909a8d04bd5c814ab90f0406af6061b84c6d4", func := "orpiment/orpimentlaw23.CombineBack", spec := "combineBack", inPlace := ["internal/bytealg.IndexByteString", "internal/bytealg.IndexString"], unfollowed := true, recurses := true, named := ["orpiment/combine.uses", "internal/bytealg.MaxLen"], apart := false, laid := [("orpiment/combine.uses", laid_orpiment_combine_uses)], narrowed := true }
def CombineBackUptoSaid : Prop := combineBackUptoRow.holds Tryd.pinned (OpenSpec.upto combineBackSpec)

/-- 'orpimentlaw23.CombineReplies', WHERE WHAT IT READS IS OF BULK AT MOST 1048576: true; the input reads as it did. -/
def combineRepliesUptoRow : OpenClaim := { program := "ytnbjnjichhepiaadoor", sum := "43b2e44411d3241c8f565811b91909a8d04bd5c814ab90f0406af6061b84c6d4", func := "orpiment/orpimentlaw23.CombineReplies", spec := "combineReplies", inPlace := ["internal/bytealg.IndexByteString", "internal/bytealg.IndexString"], unfollowed := true, recurses := true, named := ["orpiment/combine.uses", "internal/bytealg.MaxLen"], apart := false, laid := [("orpiment/combine.uses", laid_orpiment_combine_uses)], narrowed := true }
def CombineRepliesUptoSaid : Prop := combineRepliesUptoRow.holds Tryd.pinned (OpenSpec.upto combineRepliesSpec)

/-- 'orpimentlaw23.CombineDecodes', WHERE WHAT IT READS IS OF BULK AT MOST 1048576: true; the input reads as it did. -/
def combineDecodesUptoRow : OpenClaim := { program := "ytnbjnjichhepiaadoor", sum := "43b2e44411d3241c8f565811b91909a8d04bd5c814ab90f0406af6061b84c6d4", func := "orpiment/orpimentlaw23.CombineDecodes", spec := "combineDecodes", inPlace := ["internal/bytealg.IndexByteString", "internal/bytealg.IndexString"], unfollowed := true, recurses := true, named := ["orpiment/combine.uses", "internal/bytealg.MaxLen"], apart := false, laid := [("orpiment/combine.uses", laid_orpiment_combine_uses)], narrowed := true }
def CombineDecodesUptoSaid : Prop := combineDecodesUptoRow.holds Tryd.pinned (OpenSpec.upto combineDecodesSpec)

/-- 'orpimentlaw23.CombineNil', WHERE WHAT IT READS IS OF BULK AT MOST 1048576: true; the input reads as it did. -/
def combineNilUptoRow : OpenClaim := { program := "ytnbjnjichhepiaadoor", sum := "43b2e44411d3241c8f565811b91909a8d04bd5c814ab90f0406af6061b84c6d4", func := "orpiment/orpimentlaw23.CombineNil", spec := "combineNil", inPlace := ["internal/bytealg.IndexByteString", "internal/bytealg.IndexString"], unfollowed := true, recurses := true, named := ["orpiment/combine.uses", "internal/bytealg.MaxLen"], apart := false, laid := [("orpiment/combine.uses", laid_orpiment_combine_uses)], narrowed := true }
def CombineNilUptoSaid : Prop := combineNilUptoRow.holds Tryd.pinned (OpenSpec.upto combineNilSpec)

end Rows
end Go.Proofs.YtnbjnjichhepiaaDoor
