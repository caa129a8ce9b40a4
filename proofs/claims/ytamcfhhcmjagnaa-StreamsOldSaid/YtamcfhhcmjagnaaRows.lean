/-
  No cell of these rows narrows 'for every input' (looked for: loops, veiled, ifaces, maps, wideKeys, modest, calm, conditions, laid).
  DERIVED. THE GIVEN ROWS OF THIS SEAT. 7 by the template 'for every input the law returns true; each argument reads behind the call as it read before'; 0 by the template 'total and deterministic' (their statements: YtamcfhhcmjagnaaTotals.lean).
  GIVEN WITH THE SEED: the statements are not yours to turn. If you find one false, say at which input.
  Laid BY PROGRAM, IN A SANDBOX (cutbox-rows.mjs): the forced cells as the released guide's own fill.sh prints them over the translation 955bc705c772c191… (all of the seat's roots in one cut). By AI agents, Wed Nov 11 2026. No macro, syntax, notation, axiom, sorry.
-/
import Derived.Test.YtamcfhhcmjagnaaChecked
import GoSem.Claim
import GoSem.ClaimJoined
import GoSem.ClaimMapViews
import Derived.JoinedTies
import Derived.KernelRfl
namespace Go.Proofs.Ytamcfhhcmjagnaa
/- THE CELL 'sum', in the pinned program and in every row, IS THE sha256 OF THE DUMP (.gsa) THAT YtamcfhhcmjagnaaProg.lean LOADS. Nothing in Lean hashes anything: it is a label: what it is worth is what the hold of that sum in a sandbox is worth. -/
noncomputable def Try.pinned : Pinned := { name := "ytamcfhhcmjagnaa", sum := "955bc705c772c1911d252f986ae05a1f0e4cba9e34313cb4f99b9b0109502be8", checked := Try.checked }
namespace Rows
def none {H : Type} : Left H := { results := [], args := [] }

/-- 'orpimentlaw38.StreamsValid': WHATEVER THE INPUT: true; the input reads as it did. -/
def streamsValidSpec : ChangeSpec := { name := "streamsValid", fn := fun _ => fun
  | [d1, d2, d3] => { results := [.lit (.bool true)], args := [d1, d2, d3] }
  | _ => none }
def streamsValidRow : OpenClaim := { program := "ytamcfhhcmjagnaa", sum := "955bc705c772c1911d252f986ae05a1f0e4cba9e34313cb4f99b9b0109502be8", func := "orpiment/orpimentlaw38.StreamsValid", spec := "streamsValid", apart := false }
def StreamsValidSaid : Prop := streamsValidRow.holds Try.pinned (OpenSpec.ofChange streamsValidSpec)

/-- ITS FALSE NEIGHBOUR: 'it returns false'. Refute it at one input. -/
def streamsValidWrong : ChangeSpec := { name := "streamsValid", fn := fun _ => fun
  | [d1, d2, d3] => { results := [.lit (.bool false)], args := [d1, d2, d3] }
  | _ => none }
def StreamsValidWrongFalsely : Prop := streamsValidRow.holds Try.pinned (OpenSpec.ofChange streamsValidWrong)

/-- 'orpimentlaw38.StreamsPorts': WHATEVER THE INPUT: true; the input reads as it did. -/
def streamsPortsSpec : ChangeSpec := { name := "streamsPorts", fn := fun _ => fun
  | [d] => { results := [.lit (.bool true)], args := [d] }
  | _ => none }
def streamsPortsRow : OpenClaim := { program := "ytamcfhhcmjagnaa", sum := "955bc705c772c1911d252f986ae05a1f0e4cba9e34313cb4f99b9b0109502be8", func := "orpiment/orpimentlaw38.StreamsPorts", spec := "streamsPorts", apart := false }
def StreamsPortsSaid : Prop := streamsPortsRow.holds Try.pinned (OpenSpec.ofChange streamsPortsSpec)

/-- ITS FALSE NEIGHBOUR: 'it returns false'. Refute it at one input. -/
def streamsPortsWrong : ChangeSpec := { name := "streamsPorts", fn := fun _ => fun
  | [d] => { results := [.lit (.bool false)], args := [d] }
  | _ => none }
def StreamsPortsWrongFalsely : Prop := streamsPortsRow.holds Try.pinned (OpenSpec.ofChange streamsPortsWrong)

/-- 'orpimentlaw38.StreamsDelivered': WHATEVER THE INPUT: true; the input reads as it did. -/
def streamsDeliveredSpec : ChangeSpec := { name := "streamsDelivered", fn := fun _ => fun
  | [d1, d2, d3] => { results := [.lit (.bool true)], args := [d1, d2, d3] }
  | _ => none }
def streamsDeliveredRow : OpenClaim := { program := "ytamcfhhcmjagnaa", sum := "955bc705c772c1911d252f986ae05a1f0e4cba9e34313cb4f99b9b0109502be8", func := "orpiment/orpimentlaw38.StreamsDelivered", spec := "streamsDelivered", unfollowed := true, recurses := true, apart := false }
def StreamsDeliveredSaid : Prop := streamsDeliveredRow.holds Try.pinned (OpenSpec.ofChange streamsDeliveredSpec)

/-- ITS FALSE NEIGHBOUR: 'it returns false'. Refute it at one input. -/
def streamsDeliveredWrong : ChangeSpec := { name := "streamsDelivered", fn := fun _ => fun
  | [d1, d2, d3] => { results := [.lit (.bool false)], args := [d1, d2, d3] }
  | _ => none }
def StreamsDeliveredWrongFalsely : Prop := streamsDeliveredRow.holds Try.pinned (OpenSpec.ofChange streamsDeliveredWrong)

/-- 'orpimentlaw38.StreamsCalls': WHATEVER THE INPUT: true; the input reads as it did. -/
def streamsCallsSpec : ChangeSpec := { name := "streamsCalls", fn := fun _ => fun
  | [d1, d2] => { results := [.lit (.bool true)], args := [d1, d2] }
  | _ => none }
def streamsCallsRow : OpenClaim := { program := "ytamcfhhcmjagnaa", sum := "955bc705c772c1911d252f986ae05a1f0e4cba9e34313cb4f99b9b0109502be8", func := "orpiment/orpimentlaw38.StreamsCalls", spec := "streamsCalls", unfollowed := true, recurses := true, apart := false }
def StreamsCallsSaid : Prop := streamsCallsRow.holds Try.pinned (OpenSpec.ofChange streamsCallsSpec)

/-- ITS FALSE NEIGHBOUR: 'it returns false'. Refute it at one input. -/
def streamsCallsWrong : ChangeSpec := { name := "streamsCalls", fn := fun _ => fun
  | [d1, d2] => { results := [.lit (.bool false)], args := [d1, d2] }
  | _ => none }
def StreamsCallsWrongFalsely : Prop := streamsCallsRow.holds Try.pinned (OpenSpec.ofChange streamsCallsWrong)

/-- 'orpimentlaw38.StreamsTalks': WHATEVER THE INPUT: true; the input reads as it did. -/
def streamsTalksSpec : ChangeSpec := { name := "streamsTalks", fn := fun _ => fun
  | [d1, d2] => { results := [.lit (.bool true)], args := [d1, d2] }
  | _ => none }
def streamsTalksRow : OpenClaim := { program := "ytamcfhhcmjagnaa", sum := "955bc705c772c1911d252f986ae05a1f0e4cba9e34313cb4f99b9b0109502be8", func := "orpiment/orpimentlaw38.StreamsTalks", spec := "streamsTalks", unfollowed := true, recurses := true, apart := false }
def StreamsTalksSaid : Prop := streamsTalksRow.holds Try.pinned (OpenSpec.ofChange streamsTalksSpec)

/-- ITS FALSE NEIGHBOUR: 'it returns false'. Refute it at one input. -/
def streamsTalksWrong : ChangeSpec := { name := "streamsTalks", fn := fun _ => fun
  | [d1, d2] => { results := [.lit (.bool false)], args := [d1, d2] }
  | _ => none }
def StreamsTalksWrongFalsely : Prop := streamsTalksRow.holds Try.pinned (OpenSpec.ofChange streamsTalksWrong)

/-- 'orpimentlaw38.StreamsWindow': WHATEVER THE INPUT: true; the input reads as it did. -/
def streamsWindowSpec : ChangeSpec := { name := "streamsWindow", fn := fun _ => fun
  | [d1, d2] => { results := [.lit (.bool true)], args := [d1, d2] }
  | _ => none }
def streamsWindowRow : OpenClaim := { program := "ytamcfhhcmjagnaa", sum := "955bc705c772c1911d252f986ae05a1f0e4cba9e34313cb4f99b9b0109502be8", func := "orpiment/orpimentlaw38.StreamsWindow", spec := "streamsWindow", unfollowed := true, recurses := true, apart := false }
def StreamsWindowSaid : Prop := streamsWindowRow.holds Try.pinned (OpenSpec.ofChange streamsWindowSpec)

/-- ITS FALSE NEIGHBOUR: 'it returns false'. Refute it at one input. -/
def streamsWindowWrong : ChangeSpec := { name := "streamsWindow", fn := fun _ => fun
  | [d1, d2] => { results := [.lit (.bool false)], args := [d1, d2] }
  | _ => none }
def StreamsWindowWrongFalsely : Prop := streamsWindowRow.holds Try.pinned (OpenSpec.ofChange streamsWindowWrong)

/-- 'orpimentlaw38.StreamsOld': WHATEVER THE INPUT: true; the input reads as it did. -/
def streamsOldSpec : ChangeSpec := { name := "streamsOld", fn := fun _ => fun
  | [d1, d2] => { results := [.lit (.bool true)], args := [d1, d2] }
  | _ => none }
def streamsOldRow : OpenClaim := { program := "ytamcfhhcmjagnaa", sum := "955bc705c772c1911d252f986ae05a1f0e4cba9e34313cb4f99b9b0109502be8", func := "orpiment/orpimentlaw38.StreamsOld", spec := "streamsOld", unfollowed := true, recurses := true, apart := false }
def StreamsOldSaid : Prop := streamsOldRow.holds Try.pinned (OpenSpec.ofChange streamsOldSpec)

/-- ITS FALSE NEIGHBOUR: 'it returns false'. Refute it at one input. -/
def streamsOldWrong : ChangeSpec := { name := "streamsOld", fn := fun _ => fun
  | [d1, d2] => { results := [.lit (.bool false)], args := [d1, d2] }
  | _ => none }
def StreamsOldWrongFalsely : Prop := streamsOldRow.holds Try.pinned (OpenSpec.ofChange streamsOldWrong)

/- THE SECOND FORM. 'bulk': how many values and letters a reading holds, each counted each time it is reached (what is shared counts as often as it is met; a slice's spare places count too). A statement '..UptoSaid' is the law's where the arguments, and the package variables that the reading takes, are together of bulk at most 1048576: NARROWER than '..Said'. Prove '..Said' where nothing that the law and all that it calls make is longer than what came in: it says more and counts as full. Else prove '..UptoSaid'. A law counts once. -/
mutual
def uptoBulk {H : Type} : DataW H → Nat
  | .lit (.string bytes) => bytes.length + 1
  | .lit _ => 1
  | .nil => 1
  | .ptr d => uptoBulk d + 1
  | .slice elems spare => uptoBulkAll elems + uptoBulkAll spare + 1
  | .agg parts => uptoBulkAll parts + 1
  | .iface _ d => uptoBulk d + 1
  | .map entries => uptoBulkEntries entries + 1
  | .held _ => 1
def uptoBulkAll {H : Type} : List (DataW H) → Nat
  | [] => 0
  | d :: r => uptoBulk d + uptoBulkAll r
def uptoBulkEntries {H : Type} : List (Lit × DataW H) → Nat
  | [] => 0
  | x :: r => uptoBulkEntry x + uptoBulkEntries r
def uptoBulkEntry {H : Type} : Lit × DataW H → Nat
  | (.string bytes, d) => bytes.length + uptoBulk d + 1
  | (_, d) => uptoBulk d + 1
 end
def uptoSmall : (H : Type) → List (DataW H) → Bool := fun _ ds => decide (uptoBulkAll ds ≤ 1048576)
def OpenSpec.upto (s : _root_.Go.ChangeSpec) : _root_.Go.OpenSpec := { _root_.Go.OpenSpec.ofChange s with cond := some uptoSmall }

/-- 'orpimentlaw38.StreamsValid', WHERE WHAT IT READS IS OF BULK AT MOST 1048576: true; the input reads as it did. -/
def streamsValidUptoRow : OpenClaim := { program := "ytamcfhhcmjagnaa", sum := "955bc705c772c1911d252f986ae05a1f0e4cba9e34313cb4f99b9b0109502be8", func := "orpiment/orpimentlaw38.StreamsValid", spec := "streamsValid", apart := false, narrowed := true }
def StreamsValidUptoSaid : Prop := streamsValidUptoRow.holds Try.pinned (OpenSpec.upto streamsValidSpec)

/-- 'orpimentlaw38.StreamsPorts', WHERE WHAT IT READS IS OF BULK AT MOST 1048576: true; the input reads as it did. -/
def streamsPortsUptoRow : OpenClaim := { program := "ytamcfhhcmjagnaa", sum := "955bc705c772c1911d252f986ae05a1f0e4cba9e34313cb4f99b9b0109502be8", func := "orpiment/orpimentlaw38.StreamsPorts", spec := "streamsPorts", apart := false, narrowed := true }
def StreamsPortsUptoSaid : Prop := streamsPortsUptoRow.holds Try.pinned (OpenSpec.upto streamsPortsSpec)

/-- 'orpimentlaw38.StreamsDelivered', WHERE WHAT IT READS IS OF BULK AT MOST 1048576: true; the input reads as it did. -/
def streamsDeliveredUptoRow : OpenClaim := { program := "ytamcfhhcmjagnaa", sum := "955bc705c772c1911d252f986ae05a1f0e4cba9e34313cb4f99b9b0109502be8", func := "orpiment/orpimentlaw38.StreamsDelivered", spec := "streamsDelivered", unfollowed := true, recurses := true, apart := false, narrowed := true }
def StreamsDeliveredUptoSaid : Prop := streamsDeliveredUptoRow.holds Try.pinned (OpenSpec.upto streamsDeliveredSpec)

/-- 'orpimentlaw38.StreamsCalls', WHERE WHAT IT READS IS OF BULK AT MOST 1048576: true; the input reads as it did. -/
def streamsCallsUptoRow : OpenClaim := { program := "ytamcfhhcmjagnaa", sum := "955bc705c772c1911d252f986ae05a1f0e4cba9e34313cb4f99b9b0109502be8", func := "orpiment/orpimentlaw38.StreamsCalls", spec := "streamsCalls", unfollowed := true, recurses := true, apart := false, narrowed := true }
def StreamsCallsUptoSaid : Prop := streamsCallsUptoRow.holds Try.pinned (OpenSpec.upto streamsCallsSpec)

/-- 'orpimentlaw38.StreamsTalks', WHERE WHAT IT READS IS OF BULK AT MOST 1048576: true; the input reads as it did. -/
def streamsTalksUptoRow : OpenClaim := { program := "ytamcfhhcmjagnaa", sum := "955bc705c772c1911d252f986ae05a1f0e4cba9e34313cb4f99b9b0109502be8", func := "orpiment/orpimentlaw38.StreamsTalks", spec := "streamsTalks", unfollowed := true, recurses := true, apart := false, narrowed := true }
def StreamsTalksUptoSaid : Prop := streamsTalksUptoRow.holds Try.pinned (OpenSpec.upto streamsTalksSpec)

/-- 'orpimentlaw38.StreamsWindow', WHERE WHAT IT READS IS OF BULK AT MOST 1048576: true; the input reads as it did. -/
def streamsWindowUptoRow : OpenClaim := { program := "ytamcfhhcmjagnaa", sum := "955bc705c772c1911d252f986ae05a1f0e4cba9e34313cb4f99b9b0109502be8", func := "orpiment/orpimentlaw38.StreamsWindow", spec := "streamsWindow", unfollowed := true, recurses := true, apart := false, narrowed := true }
def StreamsWindowUptoSaid : Prop := streamsWindowUptoRow.holds Try.pinned (OpenSpec.upto streamsWindowSpec)

/-- 'orpimentlaw38.StreamsOld', WHERE WHAT IT READS IS OF BULK AT MOST 1048576: true; the input reads as it did. -/
def streamsOldUptoRow : OpenClaim := { program := "ytamcfhhcmjagnaa", sum := "955bc705c772c1911d252f986ae05a1f0e4cba9e34313cb4f99b9b0109502be8", func := "orpiment/orpimentlaw38.StreamsOld", spec := "streamsOld", unfollowed := true, recurses := true, apart := false, narrowed := true }
def StreamsOldUptoSaid : Prop := streamsOldUptoRow.holds Try.pinned (OpenSpec.upto streamsOldSpec)

end Rows
end Go.Proofs.Ytamcfhhcmjagnaa
