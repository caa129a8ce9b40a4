/- Attributes: the laws' arguments; AttributesAllowed. -/
import Derived.Test.YtgbnjcmjioiclaaDoorAtF1
namespace Go.E.At
open Go Go.E Go.ChangeShapes Go.WideShapes Go.ChangeAt Go.RowKit Go.Proofs.YtgbnjcmjioiclaaDoor.base Go.Proofs.YtgbnjcmjioiclaaDoor Go.Proofs
set_option linter.unusedVariables false
set_option linter.unusedSimpArgs false
set_option maxRecDepth 100000
theorem ut2 : Tryd.prog.underlying 2 = some (.int .i64) := by kernel_rfl
theorem ut5 : Tryd.prog.underlying 5 = some (.int .u8) := by kernel_rfl
theorem co5 : Tryd.prog.cellsOf 5 = 1 := by kernel_rfl
abbrev I64 (x : Int) : Prop := -9223372036854775808 ≤ x ∧ x ≤ 9223372036854775807
structure CrA (B : AHeap) (x : Cr) (r : List Nat) : Prop where
  user : I64 x.user
  group : I64 x.group
  len : x.gs.length ≤ 9223372036854775807
  rd : RdS B 1 (.slice x.a x.gs.length x.c) (i64s x.gs) r
  lt : ∀ b ∈ r, b < B.next
theorem CrA.ok {B : AHeap} {x : Cr} {r : List Nat} (h : CrA B x r) (hl : x.gs.length ≤ 1000) : CrOk B x r := ⟨hl, h.rd, h.lt⟩
theorem globS (gs' : List AObj) : Glob objs (startH (objs ++ gs')) := ⟨fun b hb => by
  rw [get_startH]
  simp only [List.getD_eq_getElem?_getD, List.getElem?_append_left hb], by rw [next_startH]; simp⟩
theorem glob_of {B H : AHeap} {As : List Asn} (hB : Glob objs B) (hS : S B H As) : Glob objs H :=
  ⟨fun b hb => (hS.base b (Nat.lt_of_lt_of_le hb hB.le)).trans (hB.get b hb), Nat.le_trans hB.le hS.le⟩

end Go.E.At
