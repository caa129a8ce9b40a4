/-
  No cell of these rows narrows 'for every input' (looked for: loops, veiled, ifaces, maps, wideKeys, modest, calm, conditions, laid).
  DERIVED. THE GIVEN ROWS OF THIS SEAT. 5 by the template 'for every input the law returns true; each argument reads behind the call as it read before'; 0 by the template 'total and deterministic' (their statements: YtgmmkajjigmjoaaTotals.lean).
  GIVEN WITH THE SEED: the statements are not yours to turn. If you find one false, say at which input.
  Laid BY PROGRAM, IN A SANDBOX (cutbox-rows.mjs): the forced cells as the released guide's own fill.sh prints them over the translation 480317784c2b2ceb… (all of the seat's roots in one cut). By AI agents, Wed Nov 11 2026. No macro, syntax, notation, axiom, sorry.
-/
import Derived.Test.YtgmmkajjigmjoaaChecked
import GoSem.Claim
import GoSem.ClaimJoined
import GoSem.ClaimMapViews
import Derived.JoinedTies
import Derived.KernelRfl
namespace Go.Proofs.Ytgmmkajjigmjoaa
/- THE CELL 'sum', in the pinned program and in every row, IS THE sha256 OF THE DUMP (.gsa) THAT YtgmmkajjigmjoaaProg.lean LOADS. Nothing in Lean hashes anything: it is a label: what it is worth is what the hold of that sum in a sandbox is worth. -/
noncomputable def Try.pinned : Pinned := { name := "ytgmmkajjigmjoaa", sum := "480317784c2b2ceb15ac8466a0c6b001e258974c8fb05a0e6634d12e2beb9e90", checked := Try.checked }
namespace Rows
def none {H : Type} : Left H := { results := [], args := [] }

/-- 'orpimentlaw24.PipeKeeps': WHATEVER THE INPUT: true; the input reads as it did. -/
def pipeKeepsSpec : ChangeSpec := { name := "pipeKeeps", fn := fun _ => fun
  | [d1, d2, d3] => { results := [.lit (.bool true)], args := [d1, d2, d3] }
  | _ => none }
def pipeKeepsRow : OpenClaim := { program := "ytgmmkajjigmjoaa", sum := "480317784c2b2ceb15ac8466a0c6b001e258974c8fb05a0e6634d12e2beb9e90", func := "orpiment/orpimentlaw24.PipeKeeps", spec := "pipeKeeps", unfollowed := true, recurses := true, apart := false }
def PipeKeepsSaid : Prop := pipeKeepsRow.holds Try.pinned (OpenSpec.ofChange pipeKeepsSpec)

/-- ITS FALSE NEIGHBOUR: 'it returns false'. Refute it at one input. -/
def pipeKeepsWrong : ChangeSpec := { name := "pipeKeeps", fn := fun _ => fun
  | [d1, d2, d3] => { results := [.lit (.bool false)], args := [d1, d2, d3] }
  | _ => none }
def PipeKeepsWrongFalsely : Prop := pipeKeepsRow.holds Try.pinned (OpenSpec.ofChange pipeKeepsWrong)

/-- 'orpimentlaw24.PipeWaits': WHATEVER THE INPUT: true; the input reads as it did. -/
def pipeWaitsSpec : ChangeSpec := { name := "pipeWaits", fn := fun _ => fun
  | [d1, d2, d3] => { results := [.lit (.bool true)], args := [d1, d2, d3] }
  | _ => none }
def pipeWaitsRow : OpenClaim := { program := "ytgmmkajjigmjoaa", sum := "480317784c2b2ceb15ac8466a0c6b001e258974c8fb05a0e6634d12e2beb9e90", func := "orpiment/orpimentlaw24.PipeWaits", spec := "pipeWaits", unfollowed := true, recurses := true, apart := false }
def PipeWaitsSaid : Prop := pipeWaitsRow.holds Try.pinned (OpenSpec.ofChange pipeWaitsSpec)

/-- ITS FALSE NEIGHBOUR: 'it returns false'. Refute it at one input. -/
def pipeWaitsWrong : ChangeSpec := { name := "pipeWaits", fn := fun _ => fun
  | [d1, d2, d3] => { results := [.lit (.bool false)], args := [d1, d2, d3] }
  | _ => none }
def PipeWaitsWrongFalsely : Prop := pipeWaitsRow.holds Try.pinned (OpenSpec.ofChange pipeWaitsWrong)

/-- 'orpimentlaw24.PipeNil': WHATEVER THE INPUT: true; the input reads as it did. -/
def pipeNilSpec : ChangeSpec := { name := "pipeNil", fn := fun _ => fun
  | [d] => { results := [.lit (.bool true)], args := [d] }
  | _ => none }
def pipeNilRow : OpenClaim := { program := "ytgmmkajjigmjoaa", sum := "480317784c2b2ceb15ac8466a0c6b001e258974c8fb05a0e6634d12e2beb9e90", func := "orpiment/orpimentlaw24.PipeNil", spec := "pipeNil", unfollowed := true, recurses := true, apart := false }
def PipeNilSaid : Prop := pipeNilRow.holds Try.pinned (OpenSpec.ofChange pipeNilSpec)

/-- ITS FALSE NEIGHBOUR: 'it returns false'. Refute it at one input. -/
def pipeNilWrong : ChangeSpec := { name := "pipeNil", fn := fun _ => fun
  | [d] => { results := [.lit (.bool false)], args := [d] }
  | _ => none }
def PipeNilWrongFalsely : Prop := pipeNilRow.holds Try.pinned (OpenSpec.ofChange pipeNilWrong)

/-- 'orpimentlaw24.PipePlays': WHATEVER THE INPUT: true; the input reads as it did. -/
def pipePlaysSpec : ChangeSpec := { name := "pipePlays", fn := fun _ => fun
  | [d1, d2, d3] => { results := [.lit (.bool true)], args := [d1, d2, d3] }
  | _ => none }
def pipePlaysRow : OpenClaim := { program := "ytgmmkajjigmjoaa", sum := "480317784c2b2ceb15ac8466a0c6b001e258974c8fb05a0e6634d12e2beb9e90", func := "orpiment/orpimentlaw24.PipePlays", spec := "pipePlays", unfollowed := true, recurses := true, apart := false }
def PipePlaysSaid : Prop := pipePlaysRow.holds Try.pinned (OpenSpec.ofChange pipePlaysSpec)

/-- ITS FALSE NEIGHBOUR: 'it returns false'. Refute it at one input. -/
def pipePlaysWrong : ChangeSpec := { name := "pipePlays", fn := fun _ => fun
  | [d1, d2, d3] => { results := [.lit (.bool false)], args := [d1, d2, d3] }
  | _ => none }
def PipePlaysWrongFalsely : Prop := pipePlaysRow.holds Try.pinned (OpenSpec.ofChange pipePlaysWrong)

/-- 'orpimentlaw24.PipeSettled': WHATEVER THE INPUT: true; the input reads as it did. -/
def pipeSettledSpec : ChangeSpec := { name := "pipeSettled", fn := fun _ => fun
  | [d1, d2, d3] => { results := [.lit (.bool true)], args := [d1, d2, d3] }
  | _ => none }
def pipeSettledRow : OpenClaim := { program := "ytgmmkajjigmjoaa", sum := "480317784c2b2ceb15ac8466a0c6b001e258974c8fb05a0e6634d12e2beb9e90", func := "orpiment/orpimentlaw24.PipeSettled", spec := "pipeSettled", unfollowed := true, recurses := true, apart := false }
def PipeSettledSaid : Prop := pipeSettledRow.holds Try.pinned (OpenSpec.ofChange pipeSettledSpec)

/-- ITS FALSE NEIGHBOUR: 'it returns false'. Refute it at one input. -/
def pipeSettledWrong : ChangeSpec := { name := "pipeSettled", fn := fun _ => fun
  | [d1, d2, d3] => { results := [.lit (.bool false)], args := [d1, d2, d3] }
  | _ => none }
def PipeSettledWrongFalsely : Prop := pipeSettledRow.holds Try.pinned (OpenSpec.ofChange pipeSettledWrong)

/- THE SECOND FORM. 'bulk': how many values and letters a reading holds, each counted each time it is reached (what is shared counts as often as it is met; a slice's spare places count too). A statement '..UptoSaid' is the law's where the arguments, and the package variables that the reading takes, are together of bulk at most 1048576: NARROWER than '..Said'. Prove '..Said' where nothing that the law and all that it calls make is longer than what came in: it says more and counts as full. Else prove '..UptoSaid'. A law counts once. -/
mutual
def uptoBulk {H : Type} : DataW H → Nat
  | .lit (.string bytes) => bytes.length + 1
  | .lit _ => 1
  | .nil => 1
  | .ptr d => uptoBulk d + 1
  | .slice elems spare => uptoBulkAll elems + uptoBulkAll spare + 1
  | .agg parts => uptoBulkAll parts + 1
  | .iface _ d => uptoBulk d + 1
  | .map entries => uptoBulkEntries entries + 1
  | .held _ => 1
def uptoBulkAll {H : Type} : List (DataW H) → Nat
  | [] => 0
  | d :: r => uptoBulk d + uptoBulkAll r
def uptoBulkEntries {H : Type} : List (Lit × DataW H) → Nat
  | [] => 0
  | x :: r => uptoBulkEntry x + uptoBulkEntries r
def uptoBulkEntry {H : Type} : Lit × DataW H → Nat
  | (.string bytes, d) => bytes.length + uptoBulk d + 1
  | (_, d) => uptoBulk d + 1
 end
def uptoSmall : (H : Type) → List (DataW H) → Bool := fun _ ds => decide (uptoBulkAll ds ≤ 1048576)
def OpenSpec.upto (s : _root_.Go.ChangeSpec) : _root_.Go.OpenSpec := { _root_.Go.OpenSpec.ofChange s with cond := some uptoSmall }

/-- 'orpimentlaw24.PipeKeeps', WHERE WHAT IT READS IS OF BULK AT MOST 1048576: true; the input reads as it did. -/
def pipeKeepsUptoRow : OpenClaim := { program := "ytgmmkajjigmjoaa", sum := "480317784c2b2ceb15ac8466a0c6b001e258974c8fb05a0e6634d12e2beb9e90", func := "orpiment/orpimentlaw24.PipeKeeps", spec := "pipeKeeps", unfollowed := true, recurses := true, apart := false, narrowed := true }
def PipeKeepsUptoSaid : Prop := pipeKeepsUptoRow.holds Try.pinned (OpenSpec.upto pipeKeepsSpec)

/-- 'orpimentlaw24.PipeWaits', WHERE WHAT IT READS IS OF BULK AT MOST 1048576: true; the input reads as it did. -/
def pipeWaitsUptoRow : OpenClaim := { program := "ytgmmkajjigmjoaa", sum := "480317784c2b2ceb15ac8466a0c6b001e258974c8fb05a0e6634d12e2beb9e90", func := "orpiment/orpimentlaw24.PipeWaits", spec := "pipeWaits", unfollowed := true, recurses := true, apart := false, narrowed := true }
def PipeWaitsUptoSaid : Prop := pipeWaitsUptoRow.holds Try.pinned (OpenSpec.upto pipeWaitsSpec)

/-- 'orpimentlaw24.PipeNil', WHERE WHAT IT READS IS OF BULK AT MOST 1048576: true; the input reads as it did. -/
def pipeNilUptoRow : OpenClaim := { program := "ytgmmkajjigmjoaa", sum := "480317784c2b2ceb15ac8466a0c6b001e258974c8fb05a0e6634d12e2beb9e90", func := "orpiment/orpimentlaw24.PipeNil", spec := "pipeNil", unfollowed := true, recurses := true, apart := false, narrowed := true }
def PipeNilUptoSaid : Prop := pipeNilUptoRow.holds Try.pinned (OpenSpec.upto pipeNilSpec)

/-- 'orpimentlaw24.PipePlays', WHERE WHAT IT READS IS OF BULK AT MOST 1048576: true; the input reads as it did. -/
def pipePlaysUptoRow : OpenClaim := { program := "ytgmmkajjigmjoaa", sum := "480317784c2b2ceb15ac8466a0c6b001e258974c8fb05a0e6634d12e2beb9e90", func := "orpiment/orpimentlaw24.PipePlays", spec := "pipePlays", unfollowed := true, recurses := true, apart := false, narrowed := true }
def PipePlaysUptoSaid : Prop := pipePlaysUptoRow.holds Try.pinned (OpenSpec.upto pipePlaysSpec)

/-- 'orpimentlaw24.PipeSettled', WHERE WHAT IT READS IS OF BULK AT MOST 1048576: true; the input reads as it did. -/
def pipeSettledUptoRow : OpenClaim := { program := "ytgmmkajjigmjoaa", sum := "480317784c2b2ceb15ac8466a0c6b001e258974c8fb05a0e6634d12e2beb9e90", func := "orpiment/orpimentlaw24.PipeSettled", spec := "pipeSettled", unfollowed := true, recurses := true, apart := false, narrowed := true }
def PipeSettledUptoSaid : Prop := pipeSettledUptoRow.holds Try.pinned (OpenSpec.upto pipeSettledSpec)

end Rows
end Go.Proofs.Ytgmmkajjigmjoaa
