/-
  No cell of these rows narrows 'for every input' (looked for: loops, veiled, ifaces, maps, wideKeys, modest, calm, conditions, laid).
  DERIVED. THE GIVEN ROWS OF THIS SEAT. 7 by the template 'for every input the law returns true; each argument reads behind the call as it read before'; 0 by the template 'total and deterministic' (their statements: YtlkgacbholklkaaTotals.lean).
  GIVEN WITH THE SEED: the statements are not yours to turn. If you find one false, say at which input.
  Laid BY PROGRAM, IN A SANDBOX (cutbox-rows.mjs): the forced cells as the released guide's own fill.sh prints them over the translation 67fc04ab5b6211cc… (all of the seat's roots in one cut). By AI agents, Wed Nov 11 2026. No macro, syntax, notation, axiom, sorry.
-/
import Derived.Test.YtlkgacbholklkaaChecked
import GoSem.Claim
import GoSem.ClaimJoined
import GoSem.ClaimMapViews
import Derived.JoinedTies
import Derived.KernelRfl
namespace Go.Proofs.Ytlkgacbholklkaa
/- THE CELL 'sum', in the pinned program and in every row, IS THE sha256 OF THE DUMP (.gsa) THAT YtlkgacbholklkaaProg.lean LOADS. Nothing in Lean hashes anything: it is a label: what it is worth is what the hold of that sum in a sandbox is worth. -/
noncomputable def Try.pinned : Pinned := { name := "ytlkgacbholklkaa", sum := "67fc04ab5b6211ccba70034ddc6dc25bed43594bc0cfba52160db4d619c5b626", checked := Try.checked }
namespace Rows
def none {H : Type} : Left H := { results := [], args := [] }

/-- 'orpimentlaw13.FramesContiguous': WHATEVER THE INPUT: true; the input reads as it did. -/
def framesContiguousSpec : ChangeSpec := { name := "framesContiguous", fn := fun _ => fun
  | [d1, d2, d3] => { results := [.lit (.bool true)], args := [d1, d2, d3] }
  | _ => none }
def framesContiguousRow : OpenClaim := { program := "ytlkgacbholklkaa", sum := "67fc04ab5b6211ccba70034ddc6dc25bed43594bc0cfba52160db4d619c5b626", func := "orpiment/orpimentlaw13.FramesContiguous", spec := "framesContiguous", unfollowed := true, recurses := true, apart := false }
def FramesContiguousSaid : Prop := framesContiguousRow.holds Try.pinned (OpenSpec.ofChange framesContiguousSpec)

/-- ITS FALSE NEIGHBOUR: 'it returns false'. Refute it at one input. -/
def framesContiguousWrong : ChangeSpec := { name := "framesContiguous", fn := fun _ => fun
  | [d1, d2, d3] => { results := [.lit (.bool false)], args := [d1, d2, d3] }
  | _ => none }
def FramesContiguousWrongFalsely : Prop := framesContiguousRow.holds Try.pinned (OpenSpec.ofChange framesContiguousWrong)

/-- 'orpimentlaw13.FramesApart': WHATEVER THE INPUT: true; the input reads as it did. -/
def framesApartSpec : ChangeSpec := { name := "framesApart", fn := fun _ => fun
  | [d1, d2] => { results := [.lit (.bool true)], args := [d1, d2] }
  | _ => none }
def framesApartRow : OpenClaim := { program := "ytlkgacbholklkaa", sum := "67fc04ab5b6211ccba70034ddc6dc25bed43594bc0cfba52160db4d619c5b626", func := "orpiment/orpimentlaw13.FramesApart", spec := "framesApart", unfollowed := true, recurses := true, apart := false }
def FramesApartSaid : Prop := framesApartRow.holds Try.pinned (OpenSpec.ofChange framesApartSpec)

/-- ITS FALSE NEIGHBOUR: 'it returns false'. Refute it at one input. -/
def framesApartWrong : ChangeSpec := { name := "framesApart", fn := fun _ => fun
  | [d1, d2] => { results := [.lit (.bool false)], args := [d1, d2] }
  | _ => none }
def FramesApartWrongFalsely : Prop := framesApartRow.holds Try.pinned (OpenSpec.ofChange framesApartWrong)

/-- 'orpimentlaw13.FramesFreed': WHATEVER THE INPUT: true; the input reads as it did. -/
def framesFreedSpec : ChangeSpec := { name := "framesFreed", fn := fun _ => fun
  | [d1, d2] => { results := [.lit (.bool true)], args := [d1, d2] }
  | _ => none }
def framesFreedRow : OpenClaim := { program := "ytlkgacbholklkaa", sum := "67fc04ab5b6211ccba70034ddc6dc25bed43594bc0cfba52160db4d619c5b626", func := "orpiment/orpimentlaw13.FramesFreed", spec := "framesFreed", unfollowed := true, recurses := true, apart := false }
def FramesFreedSaid : Prop := framesFreedRow.holds Try.pinned (OpenSpec.ofChange framesFreedSpec)

/-- ITS FALSE NEIGHBOUR: 'it returns false'. Refute it at one input. -/
def framesFreedWrong : ChangeSpec := { name := "framesFreed", fn := fun _ => fun
  | [d1, d2] => { results := [.lit (.bool false)], args := [d1, d2] }
  | _ => none }
def FramesFreedWrongFalsely : Prop := framesFreedRow.holds Try.pinned (OpenSpec.ofChange framesFreedWrong)

/-- 'orpimentlaw13.FramesBytes': WHATEVER THE INPUT: true; the input reads as it did. -/
def framesBytesSpec : ChangeSpec := { name := "framesBytes", fn := fun _ => fun
  | [d1, d2, d3] => { results := [.lit (.bool true)], args := [d1, d2, d3] }
  | _ => none }
def framesBytesRow : OpenClaim := { program := "ytlkgacbholklkaa", sum := "67fc04ab5b6211ccba70034ddc6dc25bed43594bc0cfba52160db4d619c5b626", func := "orpiment/orpimentlaw13.FramesBytes", spec := "framesBytes", unfollowed := true, recurses := true, apart := false }
def FramesBytesSaid : Prop := framesBytesRow.holds Try.pinned (OpenSpec.ofChange framesBytesSpec)

/-- ITS FALSE NEIGHBOUR: 'it returns false'. Refute it at one input. -/
def framesBytesWrong : ChangeSpec := { name := "framesBytes", fn := fun _ => fun
  | [d1, d2, d3] => { results := [.lit (.bool false)], args := [d1, d2, d3] }
  | _ => none }
def FramesBytesWrongFalsely : Prop := framesBytesRow.holds Try.pinned (OpenSpec.ofChange framesBytesWrong)

/-- 'orpimentlaw13.FramesNew': WHATEVER THE INPUT: true; the input reads as it did. -/
def framesNewSpec : ChangeSpec := { name := "framesNew", fn := fun _ => fun
  | [d] => { results := [.lit (.bool true)], args := [d] }
  | _ => none }
def framesNewRow : OpenClaim := { program := "ytlkgacbholklkaa", sum := "67fc04ab5b6211ccba70034ddc6dc25bed43594bc0cfba52160db4d619c5b626", func := "orpiment/orpimentlaw13.FramesNew", spec := "framesNew", unfollowed := true, recurses := true, apart := false }
def FramesNewSaid : Prop := framesNewRow.holds Try.pinned (OpenSpec.ofChange framesNewSpec)

/-- ITS FALSE NEIGHBOUR: 'it returns false'. Refute it at one input. -/
def framesNewWrong : ChangeSpec := { name := "framesNew", fn := fun _ => fun
  | [d] => { results := [.lit (.bool false)], args := [d] }
  | _ => none }
def FramesNewWrongFalsely : Prop := framesNewRow.holds Try.pinned (OpenSpec.ofChange framesNewWrong)

/-- 'orpimentlaw13.FramesRuns': WHATEVER THE INPUT: true; the input reads as it did. -/
def framesRunsSpec : ChangeSpec := { name := "framesRuns", fn := fun _ => fun
  | [d1, d2] => { results := [.lit (.bool true)], args := [d1, d2] }
  | _ => none }
def framesRunsRow : OpenClaim := { program := "ytlkgacbholklkaa", sum := "67fc04ab5b6211ccba70034ddc6dc25bed43594bc0cfba52160db4d619c5b626", func := "orpiment/orpimentlaw13.FramesRuns", spec := "framesRuns", unfollowed := true, recurses := true, apart := false }
def FramesRunsSaid : Prop := framesRunsRow.holds Try.pinned (OpenSpec.ofChange framesRunsSpec)

/-- ITS FALSE NEIGHBOUR: 'it returns false'. Refute it at one input. -/
def framesRunsWrong : ChangeSpec := { name := "framesRuns", fn := fun _ => fun
  | [d1, d2] => { results := [.lit (.bool false)], args := [d1, d2] }
  | _ => none }
def FramesRunsWrongFalsely : Prop := framesRunsRow.holds Try.pinned (OpenSpec.ofChange framesRunsWrong)

/-- 'orpimentlaw13.FramesNil': WHATEVER THE INPUT: true; the input reads as it did. -/
def framesNilSpec : ChangeSpec := { name := "framesNil", fn := fun _ => fun
  | [d1, d2, d3] => { results := [.lit (.bool true)], args := [d1, d2, d3] }
  | _ => none }
def framesNilRow : OpenClaim := { program := "ytlkgacbholklkaa", sum := "67fc04ab5b6211ccba70034ddc6dc25bed43594bc0cfba52160db4d619c5b626", func := "orpiment/orpimentlaw13.FramesNil", spec := "framesNil", unfollowed := true, recurses := true, apart := false }
def FramesNilSaid : Prop := framesNilRow.holds Try.pinned (OpenSpec.ofChange framesNilSpec)

/-- ITS FALSE NEIGHBOUR: 'it returns false'. Refute it at one input. -/
def framesNilWrong : ChangeSpec := { name := "framesNil", fn := fun _ => fun
  | [d1, d2, d3] => { results := [.lit (.bool false)], args := [d1, d2, d3] }
  | _ => none }
def FramesNilWrongFalsely : Prop := framesNilRow.holds Try.pinned (OpenSpec.ofChange framesNilWrong)

/- THE SECOND FORM. 'bulk': how many values and letters a reading holds, each counted each time it is reached (what is shared counts as often as it is met; a slice's spare places count too). A statement '..UptoSaid' is the law's where the arguments, and the package variables that the reading takes, are together of bulk at most 1048576: NARROWER than '..Said'. Prove '..Said' where nothing that the law and all that it calls make is longer than what came in: it says more and counts as full. Else prove '..UptoSaid'. A law counts once. -/
mutual
def uptoBulk {H : Type} : DataW H → Nat
  | .lit (.string bytes) => bytes.length + 1
  | .lit _ => 1
  | .nil => 1
  | .ptr d => uptoBulk d + 1
  | .slice elems spare => uptoBulkAll elems + uptoBulkAll spare + 1
  | .agg parts => uptoBulkAll parts + 1
  | .iface _ d => uptoBulk d + 1
  | .map entries => uptoBulkEntries entries + 1
  | .held _ => 1
def uptoBulkAll {H : Type} : List (DataW H) → Nat
  | [] => 0
  | d :: r => uptoBulk d + uptoBulkAll r
def uptoBulkEntries {H : Type} : List (Lit × DataW H) → Nat
  | [] => 0
  | x :: r => uptoBulkEntry x + uptoBulkEntries r
def uptoBulkEntry {H : Type} : Lit × DataW H → Nat
  | (.string bytes, d) => bytes.length + uptoBulk d + 1
  | (_, d) => uptoBulk d + 1
 end
def uptoSmall : (H : Type) → List (DataW H) → Bool := fun _ ds => decide (uptoBulkAll ds ≤ 1048576)
def OpenSpec.upto (s : _root_.Go.ChangeSpec) : _root_.Go.OpenSpec := { _root_.Go.OpenSpec.ofChange s with cond := some uptoSmall }

/-- 'orpimentlaw13.FramesContiguous', WHERE WHAT IT READS IS OF BULK AT MOST 1048576: true; the input reads as it did. -/
def framesContiguousUptoRow : OpenClaim := { program := "ytlkgacbholklkaa", sum := "67fc04ab5b6211ccba70034ddc6dc25bed43594bc0cfba52160db4d619c5b626", func := "orpiment/orpimentlaw13.FramesContiguous", spec := "framesContiguous", unfollowed := true, recurses := true, apart := false, narrowed := true }
def FramesContiguousUptoSaid : Prop := framesContiguousUptoRow.holds Try.pinned (OpenSpec.upto framesContiguousSpec)

/-- 'orpimentlaw13.FramesApart', WHERE WHAT IT READS IS OF BULK AT MOST 1048576: true; the input reads as it did. -/
def framesApartUptoRow : OpenClaim := { program := "ytlkgacbholklkaa", sum := "67fc04ab5b6211ccba70034ddc6dc25bed43594bc0cfba52160db4d619c5b626", func := "orpiment/orpimentlaw13.FramesApart", spec := "framesApart", unfollowed := true, recurses := true, apart := false, narrowed := true }
def FramesApartUptoSaid : Prop := framesApartUptoRow.holds Try.pinned (OpenSpec.upto framesApartSpec)

/-- 'orpimentlaw13.FramesFreed', WHERE WHAT IT READS IS OF BULK AT MOST 1048576: true; the input reads as it did. -/
def framesFreedUptoRow : OpenClaim := { program := "ytlkgacbholklkaa", sum := "67fc04ab5b6211ccba70034ddc6dc25bed43594bc0cfba52160db4d619c5b626", func := "orpiment/orpimentlaw13.FramesFreed", spec := "framesFreed", unfollowed := true, recurses := true, apart := false, narrowed := true }
def FramesFreedUptoSaid : Prop := framesFreedUptoRow.holds Try.pinned (OpenSpec.upto framesFreedSpec)

/-- 'orpimentlaw13.FramesBytes', WHERE WHAT IT READS IS OF BULK AT MOST 1048576: true; the input reads as it did. -/
def framesBytesUptoRow : OpenClaim := { program := "ytlkgacbholklkaa", sum := "67fc04ab5b6211ccba70034ddc6dc25bed43594bc0cfba52160db4d619c5b626", func := "orpiment/orpimentlaw13.FramesBytes", spec := "framesBytes", unfollowed := true, recurses := true, apart := false, narrowed := true }
def FramesBytesUptoSaid : Prop := framesBytesUptoRow.holds Try.pinned (OpenSpec.upto framesBytesSpec)

/-- 'orpimentlaw13.FramesNew', WHERE WHAT IT READS IS OF BULK AT MOST 1048576: true; the input reads as it did. -/
def framesNewUptoRow : OpenClaim := { program := "ytlkgacbholklkaa", sum := "67fc04ab5b6211ccba70034ddc6dc25bed43594bc0cfba52160db4d619c5b626", func := "orpiment/orpimentlaw13.FramesNew", spec := "framesNew", unfollowed := true, recurses := true, apart := false, narrowed := true }
def FramesNewUptoSaid : Prop := framesNewUptoRow.holds Try.pinned (OpenSpec.upto framesNewSpec)

/-- 'orpimentlaw13.FramesRuns', WHERE WHAT IT READS IS OF BULK AT MOST 1048576: true; the input reads as it did. -/
def framesRunsUptoRow : OpenClaim := { program := "ytlkgacbholklkaa", sum := "67fc04ab5b6211ccba70034ddc6dc25bed43594bc0cfba52160db4d619c5b626", func := "orpiment/orpimentlaw13.FramesRuns", spec := "framesRuns", unfollowed := true, recurses := true, apart := false, narrowed := true }
def FramesRunsUptoSaid : Prop := framesRunsUptoRow.holds Try.pinned (OpenSpec.upto framesRunsSpec)

/-- 'orpimentlaw13.FramesNil', WHERE WHAT IT READS IS OF BULK AT MOST 1048576: true; the input reads as it did. -/
def framesNilUptoRow : OpenClaim := { program := "ytlkgacbholklkaa", sum := "67fc04ab5b6211ccba70034ddc6dc25bed43594bc0cfba52160db4d619c5b626", func := "orpiment/orpimentlaw13.FramesNil", spec := "framesNil", unfollowed := true, recurses := true, apart := false, narrowed := true }
def FramesNilUptoSaid : Prop := framesNilUptoRow.holds Try.pinned (OpenSpec.upto framesNilSpec)

end Rows
end Go.Proofs.Ytlkgacbholklkaa
