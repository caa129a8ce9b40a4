/-
  NARROWER THAN 'FOR EVERY INPUT', by the rows' own cells (each row's printed sentence says how): PtyRaw: laid · PtyPieces: laid · PtyNil: laid · PtyPlays: laid · PtyLines: laid · PtyReads: laid.
  DERIVED. THE GIVEN ROWS OF THIS SEAT. 6 by the template 'for every input the law returns true; each argument reads behind the call as it read before'; 0 by the template 'total and deterministic' (their statements: YtfgejkhhkacknaaDoorTotals.lean).
  GIVEN WITH THE SEED: the statements are not yours to turn. If you find one false, say at which input.
  Laid BY PROGRAM, IN A SANDBOX (cutbox-rows.mjs): the forced cells as the released guide's own fill.sh prints them over the translation 843e5c220dcdd4c1… (all of the seat's roots in one cut). By AI agents, Wed Nov 11 2026. No macro, syntax, notation, axiom, sorry.
-/
import Derived.Test.YtfgejkhhkacknaaDoorChecked
import GoSem.PinnedTables
import GoSem.Claim
import GoSem.ClaimJoined
import GoSem.ClaimMapViews
import Derived.JoinedTies
import Derived.KernelRfl
namespace Go.Proofs.YtfgejkhhkacknaaDoor
/- THE CELL 'sum', in the pinned program and in every row, IS THE sha256 OF THE DUMP (.gsa) THAT YtfgejkhhkacknaaDoorProg.lean LOADS. Nothing in Lean hashes anything: it is a label: what it is worth is what the hold of that sum in a sandbox is worth. -/
noncomputable def Tryd.pinned : Pinned := { name := "ytfgejkhhkacknaadoor", sum := "843e5c220dcdd4c1422f48aa1e5a2696af803275aedf880fb354a12e7dae5375", checked := Tryd.checked }
namespace Rows
def none {H : Type} : Left H := { results := [], args := [] }

/- WHAT THE LISTED PACKAGE-LEVEL VARIABLES READ AS WHEN THE CALL BEGINS. Each datum BY PROGRAM (the guide's laid-datum.mjs) off the statement by which the dump's own 'gosem.cut.vars' lays the variable. In a bare row this is a premise. The card (YtfgejkhhkacknaaDoorCards.lean) ties it to the program's text. -/
def laid_orpiment_pty_edits {H : Type} : DataW H := .iface "func table" (.map [(.int .u8 4, .iface "func" (.lit (.string [40, 42, 111, 114, 112, 105, 109, 101, 110, 116, 47, 112, 116, 121, 46, 84, 101, 114, 109, 105, 110, 97, 108, 41, 46, 102, 105, 110, 105, 115, 104]))), (.int .u8 10, .iface "func" (.lit (.string [40, 42, 111, 114, 112, 105, 109, 101, 110, 116, 47, 112, 116, 121, 46, 84, 101, 114, 109, 105, 110, 97, 108, 41, 46, 110, 101, 120, 116]))), (.int .u8 21, .iface "func" (.lit (.string [40, 42, 111, 114, 112, 105, 109, 101, 110, 116, 47, 112, 116, 121, 46, 84, 101, 114, 109, 105, 110, 97, 108, 41, 46, 107, 105, 108, 108]))), (.int .u8 127, .iface "func" (.lit (.string [40, 42, 111, 114, 112, 105, 109, 101, 110, 116, 47, 112, 116, 121, 46, 84, 101, 114, 109, 105, 110, 97, 108, 41, 46, 101, 114, 97, 115, 101])))])
def laid_orpiment_pty_sends {H : Type} : DataW H := .map [(.int .u8 3, .lit (.int .i64 2)), (.int .u8 26, .lit (.int .i64 20)), (.int .u8 28, .lit (.int .i64 3))]
def laid_unicode_utf8_acceptRanges {H : Type} : DataW H := .agg [.agg [.lit (.int .u8 128), .lit (.int .u8 191)], .agg [.lit (.int .u8 160), .lit (.int .u8 191)], .agg [.lit (.int .u8 128), .lit (.int .u8 159)], .agg [.lit (.int .u8 144), .lit (.int .u8 191)], .agg [.lit (.int .u8 128), .lit (.int .u8 143)], .agg [.lit (.int .u8 0), .lit (.int .u8 0)], .agg [.lit (.int .u8 0), .lit (.int .u8 0)], .agg [.lit (.int .u8 0), .lit (.int .u8 0)], .agg [.lit (.int .u8 0), .lit (.int .u8 0)], .agg [.lit (.int .u8 0), .lit (.int .u8 0)], .agg [.lit (.int .u8 0), .lit (.int .u8 0)], .agg [.lit (.int .u8 0), .lit (.int .u8 0)], .agg [.lit (.int .u8 0), .lit (.int .u8 0)], .agg [.lit (.int .u8 0), .lit (.int .u8 0)], .agg [.lit (.int .u8 0), .lit (.int .u8 0)], .agg [.lit (.int .u8 0), .lit (.int .u8 0)]]
/-- One of Go's own tables, pinned by name: the form's constant. -/
def laid_unicode_utf8_first : DataW Unit := Go.Pinned.utf8First

/-- 'orpimentlaw26.PtyRaw': WHATEVER THE INPUT: true; the input reads as it did. -/
def ptyRawSpec : ChangeSpec := { name := "ptyRaw", fn := fun _ => fun
  | [d1, d2] => { results := [.lit (.bool true)], args := [d1, d2] }
  | _ => none }
def ptyRawRow : OpenClaim := { program := "ytfgejkhhkacknaadoor", sum := "843e5c220dcdd4c1422f48aa1e5a2696af803275aedf880fb354a12e7dae5375", func := "orpiment/orpimentlaw26.PtyRaw", spec := "ptyRaw", unfollowed := true, recurses := true, named := ["orpiment/pty.sends", "orpiment/pty.edits"], apart := false, laid := [("orpiment/pty.edits", laid_orpiment_pty_edits), ("orpiment/pty.sends", laid_orpiment_pty_sends)] }
def PtyRawSaid : Prop := ptyRawRow.holds Tryd.pinned (OpenSpec.ofChange ptyRawSpec)

/-- ITS FALSE NEIGHBOUR: 'it returns false'. Refute it at one input. -/
def ptyRawWrong : ChangeSpec := { name := "ptyRaw", fn := fun _ => fun
  | [d1, d2] => { results := [.lit (.bool false)], args := [d1, d2] }
  | _ => none }
def PtyRawWrongFalsely : Prop := ptyRawRow.holds Tryd.pinned (OpenSpec.ofChange ptyRawWrong)

/-- 'orpimentlaw26.PtyPieces': WHATEVER THE INPUT: true; the input reads as it did. -/
def ptyPiecesSpec : ChangeSpec := { name := "ptyPieces", fn := fun _ => fun
  | [d1, d2, d3] => { results := [.lit (.bool true)], args := [d1, d2, d3] }
  | _ => none }
def ptyPiecesRow : OpenClaim := { program := "ytfgejkhhkacknaadoor", sum := "843e5c220dcdd4c1422f48aa1e5a2696af803275aedf880fb354a12e7dae5375", func := "orpiment/orpimentlaw26.PtyPieces", spec := "ptyPieces", unfollowed := true, recurses := true, named := ["orpiment/pty.sends", "orpiment/pty.edits"], apart := false, laid := [("orpiment/pty.edits", laid_orpiment_pty_edits), ("orpiment/pty.sends", laid_orpiment_pty_sends)] }
def PtyPiecesSaid : Prop := ptyPiecesRow.holds Tryd.pinned (OpenSpec.ofChange ptyPiecesSpec)

/-- ITS FALSE NEIGHBOUR: 'it returns false'. Refute it at one input. -/
def ptyPiecesWrong : ChangeSpec := { name := "ptyPieces", fn := fun _ => fun
  | [d1, d2, d3] => { results := [.lit (.bool false)], args := [d1, d2, d3] }
  | _ => none }
def PtyPiecesWrongFalsely : Prop := ptyPiecesRow.holds Tryd.pinned (OpenSpec.ofChange ptyPiecesWrong)

/-- 'orpimentlaw26.PtyNil': WHATEVER THE INPUT: true; the input reads as it did. -/
def ptyNilSpec : ChangeSpec := { name := "ptyNil", fn := fun _ => fun
  | [d] => { results := [.lit (.bool true)], args := [d] }
  | _ => none }
def ptyNilRow : OpenClaim := { program := "ytfgejkhhkacknaadoor", sum := "843e5c220dcdd4c1422f48aa1e5a2696af803275aedf880fb354a12e7dae5375", func := "orpiment/orpimentlaw26.PtyNil", spec := "ptyNil", unfollowed := true, recurses := true, named := ["orpiment/pty.sends", "orpiment/pty.edits"], apart := false, laid := [("orpiment/pty.edits", laid_orpiment_pty_edits), ("orpiment/pty.sends", laid_orpiment_pty_sends)] }
def PtyNilSaid : Prop := ptyNilRow.holds Tryd.pinned (OpenSpec.ofChange ptyNilSpec)

/-- ITS FALSE NEIGHBOUR: 'it returns false'. Refute it at one input. -/
def ptyNilWrong : ChangeSpec := { name := "ptyNil", fn := fun _ => fun
  | [d] => { results := [.lit (.bool false)], args := [d] }
  | _ => none }
def PtyNilWrongFalsely : Prop := ptyNilRow.holds Tryd.pinned (OpenSpec.ofChange ptyNilWrong)

/-- 'orpimentlaw26.PtyPlays': WHATEVER THE INPUT: true; the input reads as it did. -/
def ptyPlaysSpec : ChangeSpec := { name := "ptyPlays", fn := fun _ => fun
  | [d1, d2] => { results := [.lit (.bool true)], args := [d1, d2] }
  | _ => none }
def ptyPlaysRow : OpenClaim := { program := "ytfgejkhhkacknaadoor", sum := "843e5c220dcdd4c1422f48aa1e5a2696af803275aedf880fb354a12e7dae5375", func := "orpiment/orpimentlaw26.PtyPlays", spec := "ptyPlays", unfollowed := true, recurses := true, named := ["orpiment/pty.sends", "orpiment/pty.edits"], apart := false, laid := [("orpiment/pty.edits", laid_orpiment_pty_edits), ("orpiment/pty.sends", laid_orpiment_pty_sends)] }
def PtyPlaysSaid : Prop := ptyPlaysRow.holds Tryd.pinned (OpenSpec.ofChange ptyPlaysSpec)

/-- ITS FALSE NEIGHBOUR: 'it returns false'. Refute it at one input. -/
def ptyPlaysWrong : ChangeSpec := { name := "ptyPlays", fn := fun _ => fun
  | [d1, d2] => { results := [.lit (.bool false)], args := [d1, d2] }
  | _ => none }
def PtyPlaysWrongFalsely : Prop := ptyPlaysRow.holds Tryd.pinned (OpenSpec.ofChange ptyPlaysWrong)

/-- 'orpimentlaw26.PtyLines': WHATEVER THE INPUT: true; the input reads as it did. -/
def ptyLinesSpec : ChangeSpec := { name := "ptyLines", fn := fun _ => fun
  | [d] => { results := [.lit (.bool true)], args := [d] }
  | _ => none }
def ptyLinesRow : OpenClaim := { program := "ytfgejkhhkacknaadoor", sum := "843e5c220dcdd4c1422f48aa1e5a2696af803275aedf880fb354a12e7dae5375", func := "orpiment/orpimentlaw26.PtyLines", spec := "ptyLines", inPlace := ["internal/bytealg.IndexByte"], unfollowed := true, recurses := true, named := ["orpiment/pty.sends", "orpiment/pty.edits", "unicode/utf8.first", "unicode/utf8.acceptRanges"], apart := false, laid := [("unicode/utf8.acceptRanges", laid_unicode_utf8_acceptRanges), ("orpiment/pty.edits", laid_orpiment_pty_edits), ("orpiment/pty.sends", laid_orpiment_pty_sends), ("unicode/utf8.first", laid_unicode_utf8_first)] }
def PtyLinesSaid : Prop := ptyLinesRow.holds Tryd.pinned (OpenSpec.ofChange ptyLinesSpec)

/-- ITS FALSE NEIGHBOUR: 'it returns false'. Refute it at one input. -/
def ptyLinesWrong : ChangeSpec := { name := "ptyLines", fn := fun _ => fun
  | [d] => { results := [.lit (.bool false)], args := [d] }
  | _ => none }
def PtyLinesWrongFalsely : Prop := ptyLinesRow.holds Tryd.pinned (OpenSpec.ofChange ptyLinesWrong)

/-- 'orpimentlaw26.PtyReads': WHATEVER THE INPUT: true; the input reads as it did. -/
def ptyReadsSpec : ChangeSpec := { name := "ptyReads", fn := fun _ => fun
  | [d1, d2] => { results := [.lit (.bool true)], args := [d1, d2] }
  | _ => none }
def ptyReadsRow : OpenClaim := { program := "ytfgejkhhkacknaadoor", sum := "843e5c220dcdd4c1422f48aa1e5a2696af803275aedf880fb354a12e7dae5375", func := "orpiment/orpimentlaw26.PtyReads", spec := "ptyReads", inPlace := ["internal/bytealg.Count", "internal/bytealg.IndexByte", "internal/bytealg.Index"], unfollowed := true, recurses := true, named := ["orpiment/pty.sends", "orpiment/pty.edits", "internal/bytealg.MaxLen", "unicode/utf8.first", "unicode/utf8.acceptRanges"], apart := false, laid := [("unicode/utf8.acceptRanges", laid_unicode_utf8_acceptRanges), ("orpiment/pty.edits", laid_orpiment_pty_edits), ("orpiment/pty.sends", laid_orpiment_pty_sends), ("unicode/utf8.first", laid_unicode_utf8_first)] }
def PtyReadsSaid : Prop := ptyReadsRow.holds Tryd.pinned (OpenSpec.ofChange ptyReadsSpec)

/-- ITS FALSE NEIGHBOUR: 'it returns false'. Refute it at one input. -/
def ptyReadsWrong : ChangeSpec := { name := "ptyReads", fn := fun _ => fun
  | [d1, d2] => { results := [.lit (.bool false)], args := [d1, d2] }
  | _ => none }
def PtyReadsWrongFalsely : Prop := ptyReadsRow.holds Tryd.pinned (OpenSpec.ofChange ptyReadsWrong)

/- THE SECOND FORM. 'bulk': how many values and letters a reading holds, each counted each time it is reached (what is shared counts as often as it is met; a slice's spare places count too). A statement '..UptoSaid' is the law's where the arguments, and the package variables that the reading takes, are together of bulk at most 1048576: NARROWER than '..Said'. Prove '..Said' where nothing that the law and all that it calls make is longer than what came in: it says more and counts as full. Else prove '..UptoSaid'. A law counts once. -/
mutual
def uptoBulk {H : Type} : DataW H → Nat
  | .lit (.string bytes) => bytes.length + 1
  | .lit _ => 1
  | .nil => 1
  | .ptr d => uptoBulk d + 1
  | .slice elems spare => uptoBulkAll elems + uptoBulkAll spare + 1
  | .agg parts => uptoBulkAll parts + 1
  | .iface _ d => uptoBulk d + 1
  | .map entries => uptoBulkEntries entries + 1
  | .held _ => 1
def uptoBulkAll {H : Type} : List (DataW H) → Nat
  | [] => 0
  | d :: r => uptoBulk d + uptoBulkAll r
def uptoBulkEntries {H : Type} : List (Lit × DataW H) → Nat
  | [] => 0
  | x :: r => uptoBulkEntry x + uptoBulkEntries r
def uptoBulkEntry {H : Type} : Lit × DataW H → Nat
  | (.string bytes, d) => bytes.length + uptoBulk d + 1
  | (_, d) => uptoBulk d + 1
 end
def uptoSmall : (H : Type) → List (DataW H) → Bool := fun _ ds => decide (uptoBulkAll ds ≤ 1048576)
def OpenSpec.upto (s : _root_.Go.ChangeSpec) : _root_.Go.OpenSpec := { _root_.Go.OpenSpec.ofChange s with cond := some uptoSmall }

/-- 'orpimentlaw26.PtyRaw', WHERE WHAT IT READS IS OF BULK AT MOST 1048576: true; the input reads as it did. -/
def ptyRawUptoRow : OpenClaim := { program := "ytfgejkhhkacknaadoor", sum := "843e5c220dcdd4c1422f48aa1e5a2696af803275aedf880fb354a12e7dae5375", func := "orpiment/orpimentlaw26.PtyRaw", spec := "ptyRaw", unfollowed := true, recurses := true, named := ["orpiment/pty.sends", "orpiment/pty.edits"], apart := false, laid := [("orpiment/pty.edits", laid_orpiment_pty_edits), ("orpiment/pty.sends", laid_orpiment_pty_sends)], narrowed := true }
def PtyRawUptoSaid : Prop := ptyRawUptoRow.holds Tryd.pinned (OpenSpec.upto ptyRawSpec)

/-- 'orpimentlaw26.PtyPieces', WHERE WHAT IT READS IS OF BULK AT MOST 1048576: true; the input reads as it did. -/
def ptyPiecesUptoRow : OpenClaim := { program := "ytfgejkhhkacknaadoor", sum := "843e5c220dcdd4c1422f48aa1e5a2696af803275aedf880fb354a12e7dae5375", func := "orpiment/orpimentlaw26.PtyPieces", spec := "ptyPieces", unfollowed := true, recurses := true, named := ["orpiment/pty.sends", "orpiment/pty.edits"], apart := false, laid := [("orpiment/pty.edits", laid_orpiment_pty_edits), ("orpiment/pty.sends", laid_orpiment_pty_sends)], narrowed := true }
def PtyPiecesUptoSaid : Prop := ptyPiecesUptoRow.holds Tryd.pinned (OpenSpec.upto ptyPiecesSpec)

/-- 'orpimentlaw26.PtyNil', WHERE WHAT IT READS IS OF BULK AT MOST 1048576: true; the input reads as it did. -/
def ptyNilUptoRow : OpenClaim := { program := "ytfgejkhhkacknaadoor", sum := "843e5c220dcdd4c1422f48aa1e5a2696af803275aedf880fb354a12e7dae5375", func := "orpiment/orpimentlaw26.PtyNil", spec := "ptyNil", unfollowed := true, recurses := true, named := ["orpiment/pty.sends", "orpiment/pty.edits"], apart := false, laid := [("orpiment/pty.edits", laid_orpiment_pty_edits), ("orpiment/pty.sends", laid_orpiment_pty_sends)], narrowed := true }
def PtyNilUptoSaid : Prop := ptyNilUptoRow.holds Tryd.pinned (OpenSpec.upto ptyNilSpec)

/-- 'orpimentlaw26.PtyPlays', WHERE WHAT IT READS IS OF BULK AT MOST 1048576: true; the input reads as it did. -/
def ptyPlaysUptoRow : OpenClaim := { program := "ytfgejkhhkacknaadoor", sum := "843e5c220dcdd4c1422f48aa1e5a2696af803275aedf880fb354a12e7dae5375", func := "orpiment/orpimentlaw26.PtyPlays", spec := "ptyPlays", unfollowed := true, recurses := true, named := ["orpiment/pty.sends", "orpiment/pty.edits"], apart := false, laid := [("orpiment/pty.edits", laid_orpiment_pty_edits), ("orpiment/pty.sends", laid_orpiment_pty_sends)], narrowed := true }
def PtyPlaysUptoSaid : Prop := ptyPlaysUptoRow.holds Tryd.pinned (OpenSpec.upto ptyPlaysSpec)

/-- 'orpimentlaw26.PtyLines', WHERE WHAT IT READS IS OF BULK AT MOST 1048576: true; the input reads as it did. -/
def ptyLinesUptoRow : OpenClaim := { program := "ytfgejkhhkacknaadoor", sum := "843e5c220dcdd4c1422f48aa1e5a2696af803275aedf880fb354a12e7dae5375", func := "orpiment/orpimentlaw26.PtyLines", spec := "ptyLines", inPlace := ["internal/bytealg.IndexByte"], unfollowed := true, recurses := true, named := ["orpiment/pty.sends", "orpiment/pty.edits", "unicode/utf8.first", "unicode/utf8.acceptRanges"], apart := false, laid := [("unicode/utf8.acceptRanges", laid_unicode_utf8_acceptRanges), ("orpiment/pty.edits", laid_orpiment_pty_edits), ("orpiment/pty.sends", laid_orpiment_pty_sends), ("unicode/utf8.first", laid_unicode_utf8_first)], narrowed := true }
def PtyLinesUptoSaid : Prop := ptyLinesUptoRow.holds Tryd.pinned (OpenSpec.upto ptyLinesSpec)

/-- 'orpimentlaw26.PtyReads', WHERE WHAT IT READS IS OF BULK AT MOST 1048576: true; the input reads as it did. -/
def ptyReadsUptoRow : OpenClaim := { program := "ytfgejkhhkacknaadoor", sum := "843e5c220dcdd4c1422f48aa1e5a2696af803275aedf880fb354a12e7dae5375", func := "orpiment/orpimentlaw26.PtyReads", spec := "ptyReads", inPlace := ["internal/bytealg.Count", "internal/bytealg.IndexByte", "internal/bytealg.Index"], unfollowed := true, recurses := true, named := ["orpiment/pty.sends", "orpiment/pty.edits", "internal/bytealg.MaxLen", "unicode/utf8.first", "unicode/utf8.acceptRanges"], apart := false, laid := [("unicode/utf8.acceptRanges", laid_unicode_utf8_acceptRanges), ("orpiment/pty.edits", laid_orpiment_pty_edits), ("orpiment/pty.sends", laid_orpiment_pty_sends), ("unicode/utf8.first", laid_unicode_utf8_first)], narrowed := true }
def PtyReadsUptoSaid : Prop := ptyReadsUptoRow.holds Tryd.pinned (OpenSpec.upto ptyReadsSpec)

end Rows
end Go.Proofs.YtfgejkhhkacknaaDoor
