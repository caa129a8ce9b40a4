/- StreamsValid answers true for every segment and any two numbers, and leaves them as they were. awake is one closed run of the evaluator; the functions of the law have lemmas of their own over it. No condition. -/
import Derived.Test.YtamcfhhcmjagnaaRows
import Derived.Test.YtamcfhhcmjagnaaEngV
import Derived.KernelRfl
namespace Go.Proofs.Ytamcfhhcmjagnaa.sv
open Go Go.E
set_option maxRecDepth 100000
set_option linter.unusedSimpArgs false
set_option linter.unusedVariables false
/-- orpiment/orpimentlaw38.StreamsValid -/
def n3 : NFunc := ⟨31, [.tmp 6],
  .seq (.region [⟨(some 3), .box 0 (.t 0), none⟩,
  ⟨(some 6), .mov (.c (.bool false)), none⟩]) (.seq (.regionD [⟨(some 7), .faddr 4 (.t 3), none⟩,
  ⟨(some 8), .load1 (.t 7), none⟩,
  ⟨(some 9), .len 1 (.t 8), none⟩,
  ⟨(some 10), .bin .gtr (.basic .bool) (.t 9) (.c (.int .i64 6000)), none⟩,
  ⟨(some 11), .mov (.t 10), none⟩,
  ⟨(some 12), .mov (.t 1), some (11, false)⟩,
  ⟨(some 13), .mov (.t 2), some (11, false)⟩,
  ⟨(some 15), .mov (.t 1), some (11, false)⟩,
  ⟨(some 16), .mov (.t 2), some (11, false)⟩,
  ⟨(some 14), .call (.c (.func (.func 10) #[] #[])) [(.t 12), (.t 13)], some (11, false)⟩,
  ⟨(some 17), .call (.c (.func (.func 11) #[] #[])) [(.t 15), (.t 16)], some (11, false)⟩,
  ⟨(some 18), .bin .eql (.basic .bool) (.t 14) (.t 17), some (11, false)⟩,
  ⟨(some 19), .mov (.t 18), some (11, false)⟩,
  ⟨(some 20), .loadN 5 (.t 3), some (19, true)⟩,
  ⟨(some 22), .loadN 5 (.t 3), some (19, true)⟩,
  ⟨(some 21), .call (.c (.func (.func 12) #[] #[])) [(.t 20)], some (19, true)⟩,
  ⟨(some 23), .call (.c (.func (.func 14) #[] #[])) [(.t 22)], some (19, true)⟩,
  ⟨(some 24), .call (.c (.func (.func 13) #[] #[])) [(.t 23)], some (19, true)⟩,
  ⟨(some 25), .bin .eql (.basic (.int .i64)) (.t 21) (.t 24), some (19, true)⟩,
  ⟨(some 26), .pick (.t 19) (.t 25) (.c (.bool false)), some (11, false)⟩,
  ⟨(some 27), .mov (.t 26), some (11, false)⟩,
  ⟨(some 28), .call (.c (.func (.func 15) #[] #[])) [], some (27, true)⟩,
  ⟨(some 29), .pick (.t 27) (.t 28) (.c (.bool false)), some (11, false)⟩,
  ⟨(some 30), .pick (.t 11) (.c (.bool true)) (.t 29), none⟩,
  ⟨(some 6), .mov (.t 30), none⟩] [[], [9], [9], [], [], [], [], [], [], [], [], [], [], [15], [15, 16], [], [], [], [], [], [], [], [], [], []]) (.ret))⟩
theorem c3 : cProg Try.prog 0 3 = some n3 := by kernel_rfl

/-- orpiment/streams.Before -/
def n10 : NFunc := ⟨10, [.tmp 4],
  .seq (.region [⟨(some 4), .mov (.c (.bool false)), none⟩]) (.seq (.region [⟨(some 5), .mov (.t 0), none⟩,
  ⟨(some 6), .mov (.t 1), none⟩,
  ⟨(some 7), .bin .sub (.basic .bool) (.t 5) (.t 6), none⟩,
  ⟨(some 8), .convInt .i32 (.t 7), none⟩,
  ⟨(some 9), .bin .lss (.basic .bool) (.t 8) (.c (.int .i32 0)), none⟩,
  ⟨(some 4), .mov (.t 9), none⟩]) (.ret))⟩
theorem c10 : cProg Try.prog 0 10 = some n10 := by kernel_rfl

/-- orpiment/orpimentref38.Before -/
def n11 : NFunc := ⟨10, [.tmp 4],
  .seq (.region [⟨(some 4), .mov (.c (.bool false)), none⟩]) (.seq (.region [⟨(some 5), .mov (.t 0), none⟩,
  ⟨(some 6), .mov (.t 1), none⟩,
  ⟨(some 7), .bin .sub (.basic .bool) (.t 5) (.t 6), none⟩,
  ⟨(some 8), .convInt .i32 (.t 7), none⟩,
  ⟨(some 9), .bin .lss (.basic .bool) (.t 8) (.c (.int .i32 0)), none⟩,
  ⟨(some 4), .mov (.t 9), none⟩]) (.ret))⟩
theorem c11 : cProg Try.prog 0 11 = some n11 := by kernel_rfl

/-- orpiment/streams.Valid -/
def n12 : NFunc := ⟨41, [.tmp 2],
  .seq (.region [⟨(some 1), .box 0 (.t 0), none⟩,
  ⟨(some 2), .mov (.c (.int .i64 0)), none⟩]) (.seq (.block 0 (.seq (.region [⟨(some 4), .faddr 0 (.t 1), none⟩,
  ⟨(some 5), .load1 (.t 4), none⟩,
  ⟨(some 6), .bin .lss (.basic .bool) (.t 5) (.c (.int .i64 0)), none⟩,
  ⟨(some 7), .mov (.t 6), none⟩,
  ⟨(some 8), .faddr 0 (.t 1), some (7, false)⟩,
  ⟨(some 9), .load1 (.t 8), some (7, false)⟩,
  ⟨(some 10), .bin .gtr (.basic .bool) (.t 9) (.c (.int .i64 15)), some (7, false)⟩,
  ⟨(some 11), .pick (.t 7) (.c (.bool true)) (.t 10), none⟩,
  ⟨(some 3), .mov (.t 11), none⟩]) (.cond (.t 3) (.seq (.region [⟨(some 2), .mov (.c (.int .i64 17)), none⟩]) (.ret)) (.seq (.region [⟨(some 13), .faddr 3 (.t 1), none⟩,
  ⟨(some 14), .load1 (.t 13), none⟩,
  ⟨(some 15), .bin .lss (.basic .bool) (.t 14) (.c (.int .i64 0)), none⟩,
  ⟨(some 16), .mov (.t 15), none⟩,
  ⟨(some 17), .faddr 3 (.t 1), some (16, false)⟩,
  ⟨(some 18), .load1 (.t 17), some (16, false)⟩,
  ⟨(some 19), .bin .gtr (.basic .bool) (.t 18) (.c (.int .i64 4096)), some (16, false)⟩,
  ⟨(some 20), .pick (.t 16) (.c (.bool true)) (.t 19), none⟩,
  ⟨(some 12), .mov (.t 20), none⟩]) (.cond (.t 12) (.seq (.region [⟨(some 2), .mov (.c (.int .i64 34)), none⟩]) (.ret)) (.seq (.region [⟨(some 22), .faddr 4 (.t 1), none⟩,
  ⟨(some 23), .load1 (.t 22), none⟩,
  ⟨(some 24), .len 1 (.t 23), none⟩,
  ⟨(some 25), .bin .gtr (.basic .bool) (.t 24) (.c (.int .i64 256)), none⟩,
  ⟨(some 21), .mov (.t 25), none⟩]) (.cond (.t 21) (.seq (.region [⟨(some 2), .mov (.c (.int .i64 20)), none⟩]) (.ret)) (.seq (.region [⟨(some 27), .loadN 5 (.t 1), none⟩,
  ⟨(some 28), .call (.c (.func (.func 39) #[] #[])) [(.t 27), (.c (.int .i64 1))], none⟩,
  ⟨(some 29), .mov (.t 28), none⟩,
  ⟨(some 30), .faddr 0 (.t 1), some (29, true)⟩,
  ⟨(some 31), .load1 (.t 30), some (29, true)⟩,
  ⟨(some 32), .bin .and (.basic .bool) (.t 31) (.c (.int .i64 12)), some (29, true)⟩,
  ⟨(some 33), .bin .neq (.basic (.int .i64)) (.t 32) (.c (.int .i64 0)), some (29, true)⟩,
  ⟨(some 34), .pick (.t 29) (.t 33) (.c (.bool false)), none⟩,
  ⟨(some 35), .mov (.t 34), none⟩,
  ⟨(some 36), .faddr 0 (.t 1), some (35, false)⟩,
  ⟨(some 37), .load1 (.t 36), some (35, false)⟩,
  ⟨(some 38), .bin .and (.basic .bool) (.t 37) (.c (.int .i64 11)), some (35, false)⟩,
  ⟨(some 39), .bin .eql (.basic (.int .i64)) (.t 38) (.c (.int .i64 0)), some (35, false)⟩,
  ⟨(some 40), .pick (.t 35) (.c (.bool true)) (.t 39), none⟩,
  ⟨(some 26), .mov (.t 40), none⟩]) (.cond (.t 26) (.seq (.region [⟨(some 2), .mov (.c (.int .i64 14)), none⟩]) (.ret)) (.skip)))))))))) (.seq (.region [⟨(some 2), .mov (.c (.int .i64 0)), none⟩]) (.ret)))⟩
theorem c12 : cProg Try.prog 0 12 = some n12 := by kernel_rfl

/-- orpiment/orpimentref38.Valid -/
def n13 : NFunc := ⟨58, [.tmp 2],
  .seq (.region [⟨(some 1), .box 0 (.t 0), none⟩,
  ⟨(some 2), .mov (.c (.int .i64 0)), none⟩]) (.seq (.seq (.region [⟨(some 7), .faddr 0 (.t 1), none⟩,
  ⟨(some 8), .load1 (.t 7), none⟩,
  ⟨(some 9), .bin .lss (.basic .bool) (.t 8) (.c (.int .i64 0)), none⟩,
  ⟨(some 10), .mov (.t 9), none⟩,
  ⟨(some 11), .faddr 0 (.t 1), some (10, false)⟩,
  ⟨(some 12), .load1 (.t 11), some (10, false)⟩,
  ⟨(some 13), .bin .gtr (.basic .bool) (.t 12) (.c (.int .i64 15)), some (10, false)⟩,
  ⟨(some 14), .pick (.t 10) (.c (.bool true)) (.t 13), none⟩]) (.cond (.t 14) (.seq (.region [⟨(some 2), .mov (.c (.int .i64 17)), none⟩]) (.ret)) (.skip))) (.seq (.seq (.region [⟨(some 15), .faddr 3 (.t 1), none⟩,
  ⟨(some 16), .load1 (.t 15), none⟩,
  ⟨(some 17), .bin .lss (.basic .bool) (.t 16) (.c (.int .i64 0)), none⟩,
  ⟨(some 18), .mov (.t 17), none⟩,
  ⟨(some 19), .faddr 3 (.t 1), some (18, false)⟩,
  ⟨(some 20), .load1 (.t 19), some (18, false)⟩,
  ⟨(some 21), .bin .gtr (.basic .bool) (.t 20) (.c (.int .i64 4096)), some (18, false)⟩,
  ⟨(some 22), .pick (.t 18) (.c (.bool true)) (.t 21), none⟩]) (.cond (.t 22) (.seq (.region [⟨(some 2), .mov (.c (.int .i64 34)), none⟩]) (.ret)) (.skip))) (.seq (.seq (.region [⟨(some 23), .faddr 4 (.t 1), none⟩,
  ⟨(some 24), .load1 (.t 23), none⟩,
  ⟨(some 25), .len 1 (.t 24), none⟩,
  ⟨(some 26), .bin .gtr (.basic .bool) (.t 25) (.c (.int .i64 256)), none⟩]) (.cond (.t 26) (.seq (.region [⟨(some 2), .mov (.c (.int .i64 20)), none⟩]) (.ret)) (.skip))) (.seq (.regionD [⟨(some 27), .faddr 0 (.t 1), none⟩,
  ⟨(some 28), .load1 (.t 27), none⟩,
  ⟨(some 30), .faddr 0 (.t 1), none⟩,
  ⟨(some 31), .load1 (.t 30), none⟩,
  ⟨(some 33), .faddr 0 (.t 1), none⟩,
  ⟨(some 34), .load1 (.t 33), none⟩,
  ⟨(some 36), .faddr 0 (.t 1), none⟩,
  ⟨(some 37), .load1 (.t 36), none⟩,
  ⟨(some 29), .call (.c (.func (.func 40) #[] #[])) [(.t 28), (.c (.int .i64 1))], none⟩,
  ⟨(some 32), .call (.c (.func (.func 40) #[] #[])) [(.t 31), (.c (.int .i64 2))], none⟩,
  ⟨(some 35), .call (.c (.func (.func 40) #[] #[])) [(.t 34), (.c (.int .i64 4))], none⟩,
  ⟨(some 38), .call (.c (.func (.func 40) #[] #[])) [(.t 37), (.c (.int .i64 8))], none⟩,
  ⟨(some 3), .mov (.t 29), none⟩,
  ⟨(some 4), .mov (.t 32), none⟩,
  ⟨(some 5), .mov (.t 35), none⟩,
  ⟨(some 6), .mov (.t 38), none⟩] [[], [8], [], [8, 9], [], [8, 9, 10], [], [8, 9, 10, 11], [], [], [], [], [], [], [], []]) (.seq (.seq (.region [⟨(some 39), .mov (.t 3), none⟩,
  ⟨(some 40), .mov (.t 39), none⟩,
  ⟨(some 41), .mov (.t 5), some (40, true)⟩,
  ⟨(some 42), .mov (.t 41), some (40, true)⟩,
  ⟨(some 43), .mov (.t 6), some (42, false)⟩,
  ⟨(some 44), .pick (.t 42) (.c (.bool true)) (.t 43), some (40, true)⟩,
  ⟨(some 45), .pick (.t 40) (.t 44) (.c (.bool false)), none⟩,
  ⟨(some 46), .mov (.t 45), none⟩,
  ⟨(some 47), .mov (.t 4), some (46, false)⟩,
  ⟨(some 48), .un .not (.t 47), some (46, false)⟩,
  ⟨(some 49), .mov (.t 48), some (46, false)⟩,
  ⟨(some 50), .mov (.t 3), some (49, true)⟩,
  ⟨(some 51), .un .not (.t 50), some (49, true)⟩,
  ⟨(some 52), .pick (.t 49) (.t 51) (.c (.bool false)), some (46, false)⟩,
  ⟨(some 53), .mov (.t 52), some (46, false)⟩,
  ⟨(some 54), .mov (.t 6), some (53, true)⟩,
  ⟨(some 55), .un .not (.t 54), some (53, true)⟩,
  ⟨(some 56), .pick (.t 53) (.t 55) (.c (.bool false)), some (46, false)⟩,
  ⟨(some 57), .pick (.t 46) (.c (.bool true)) (.t 56), none⟩]) (.cond (.t 57) (.seq (.region [⟨(some 2), .mov (.c (.int .i64 14)), none⟩]) (.ret)) (.skip))) (.seq (.region [⟨(some 2), .mov (.c (.int .i64 0)), none⟩]) (.ret)))))))⟩
theorem c13 : cProg Try.prog 0 13 = some n13 := by kernel_rfl

/-- orpiment/orpimentlaw38.ref -/
def n14 : NFunc := ⟨14, [.cell 2 (some 5)],
  .seq (.region [⟨(some 1), .box 0 (.t 0), none⟩,
  ⟨(some 2), .alloc 0 [.int .i64 0, .int .u32 0, .int .u32 0, .int .i64 0, .slice none 0 0], none⟩]) (.seq (.region [⟨(some 3), .faddr 0 (.t 1), none⟩,
  ⟨(some 4), .load1 (.t 3), none⟩,
  ⟨(some 5), .faddr 1 (.t 1), none⟩,
  ⟨(some 6), .load1 (.t 5), none⟩,
  ⟨(some 7), .faddr 2 (.t 1), none⟩,
  ⟨(some 8), .load1 (.t 7), none⟩,
  ⟨(some 9), .faddr 3 (.t 1), none⟩,
  ⟨(some 10), .load1 (.t 9), none⟩,
  ⟨(some 11), .faddr 4 (.t 1), none⟩,
  ⟨(some 12), .load1 (.t 11), none⟩,
  ⟨(some 13), .build [.int .i64 0, .int .u32 0, .int .u32 0, .int .i64 0, .slice none 0 0] [(0, 1, (.t 4)), (1, 1, (.t 6)), (2, 1, (.t 8)), (3, 1, (.t 10)), (4, 1, (.t 12))], none⟩,
  ⟨none, .store 5 (.t 2) (.t 13), none⟩]) (.ret))⟩
theorem c14 : cProg Try.prog 0 14 = some n14 := by kernel_rfl

/-- (orpiment/streams.Segment).has -/
def n39 : NFunc := ⟨10, [.tmp 4],
  .seq (.region [⟨(some 2), .box 0 (.t 0), none⟩,
  ⟨(some 4), .mov (.c (.bool false)), none⟩]) (.seq (.region [⟨(some 5), .faddr 0 (.t 2), none⟩,
  ⟨(some 6), .load1 (.t 5), none⟩,
  ⟨(some 7), .mov (.t 1), none⟩,
  ⟨(some 8), .bin .and (.basic .bool) (.t 6) (.t 7), none⟩,
  ⟨(some 9), .bin .neq (.basic (.int .i64)) (.t 8) (.c (.int .i64 0)), none⟩,
  ⟨(some 4), .mov (.t 9), none⟩]) (.ret))⟩
theorem c39 : cProg Try.prog 0 39 = some n39 := by kernel_rfl

/-- orpiment/orpimentref38.has -/
def n40 : NFunc := ⟨10, [.tmp 4],
  .seq (.region [⟨(some 4), .mov (.c (.bool false)), none⟩]) (.seq (.region [⟨(some 5), .mov (.t 0), none⟩,
  ⟨(some 6), .mov (.t 1), none⟩,
  ⟨(some 7), .bin .quo (.basic .bool) (.t 5) (.t 6), none⟩,
  ⟨(some 8), .bin .rem (.basic .bool) (.t 7) (.c (.int .i64 2)), none⟩,
  ⟨(some 9), .bin .eql (.basic (.int .i64)) (.t 8) (.c (.int .i64 1)), none⟩,
  ⟨(some 4), .mov (.t 9), none⟩]) (.ret))⟩
theorem c40 : cProg Try.prog 0 40 = some n40 := by kernel_rfl

def X : E.Callee := known [(15, .bool true)]
noncomputable def C (n : Nat) : E.Callee := callX X (cProg Try.prog 0) n
theorem C_eq {n f : Nat} {args : List Value} {H : AHeap} {g : NFunc} (h : cProg Try.prog 0 f = some g) (hf : (f == 15) = false) : C (n + 1) f args H = finishN g (execN (C n) n g.body (enterN g args) H) := by
  refine callX_eq h ?_
  unfold X known
  cases args with
  | nil => simp [List.lookup, hf]
  | cons => rfl

theorem L15 (n : Nat) (H : AHeap) : C n 15 [] H = some (.bool true, H) := by cases n <;> rfl

def bf (a b : Int) : Bool := decide (IntKind.i32.wrap (IntKind.u32.wrap (a - b)) < 0)
theorem L10 (n : Nat) (a b : Int) (H : AHeap) : C (n + 1) 10 [.int .u32 a, .int .u32 b] H = some (.bool (bf a b), H) := by
  rw [C_eq c10 rfl]; rfl
theorem L11 (n : Nat) (a b : Int) (H : AHeap) : C (n + 1) 11 [.int .u32 a, .int .u32 b] H = some (.bool (bf a b), H) := by
  rw [C_eq c11 rfl]; rfl
def hasR (f k : Int) : Bool := (IntKind.i64.wrap (f.tdiv k)).tmod 2 == 1
theorem L40 (n : Nat) (f k : Int) (hk : k ≠ 0) (H : AHeap) : C (n + 1) 40 [.int .i64 f, .int .i64 k] H = some (.bool (hasR f k), H) := by
  rw [C_eq c40 rfl]
  simp [n40, finishN, enterN, execN, runOps, stepN, wantedN, eop, NOpd.ev, put, List.replicate, binN, binInt, resultsN, resN, resultV, hk, hasR]
def band (f k : Int) : Int := IntKind.i64.wrap (BitVec.ofInt 64 f &&& BitVec.ofInt 64 k).toNat
def seg (f q m w : Int) (sl : Option Addr) (l c : Nat) : List Value := [.int .i64 f, .int .u32 q, .int .u32 m, .int .i64 w, .slice sl l c]
theorem bin_and (f k : Int) : binInt .and .i64 f k = some (.int .i64 (band f k)) := rfl
theorem L39 (n : Nat) (f q m w k : Int) (sl : Option Addr) (l c : Nat) (H : AHeap) : C (n + 1) 39 [.agg ⟨seg f q m w sl l c⟩, .int .i64 k] H =
    some (.bool (band f k != 0), H.add (.cells (seg f q m w sl l c) 0 false)) := by
  rw [C_eq c39 rfl]
  simp [n39, seg, finishN, enterN, execN, runOps, stepN, wantedN, eop, NOpd.ev, put, List.replicate, cellsL, Value.cells, Value.oneCell', AHeap.row, binN, bin_and, resultsN, resN, resultV]
  rfl
theorem L14 (n : Nat) (f q m w : Int) (sl : Option Addr) (l c : Nat) (H : AHeap) : ∃ H', C (n + 1) 14 [.agg ⟨seg f q m w sl l c⟩] H =
    some (.agg ⟨seg f q m w sl l c⟩, H') ∧ H.next ≤ H'.next ∧ ∀ b, b < H.next → H'.get b = H.get b := by
  rw [C_eq c14 rfl]
  simp [n14, seg, finishN, enterN, execN, runOps, stepN, wantedN, eop, NOpd.ev, put, List.replicate, cellsL, Value.cells, Value.oneCell', AHeap.row, AHeap.putRow, fillN, binN, binInt, resultsN, resN, resultV, IntKind.bits]
  refine ⟨by omega, fun b hb => ?_⟩
  rw [if_neg (by omega), if_neg (by omega), if_neg (by omega)]
def cI (f : Int) : Bool := (band f 1 != 0 && band f 12 != 0) || band f 11 == 0
def cR (f : Int) : Bool := (hasR f 1 && (hasR f 4 || hasR f 8)) || (!hasR f 2 && !hasR f 1 && !hasR f 8)
def validI (f w : Int) (l : Nat) : Int :=
  if f < 0 ∨ 15 < f then 17 else if w < 0 ∨ 4096 < w then 34 else if 256 < (l : Int) then 20 else if cI f then 14 else 0
set_option maxHeartbeats 4000000 in
theorem b_lss (k : IntKind) (a b : Int) : binInt .lss k a b = some (.bool (decide (a < b))) := rfl
theorem b_gtr (k : IntKind) (a b : Int) : binInt .gtr k a b = some (.bool (decide (b < a))) := rfl
theorem b_eql (k : IntKind) (a b : Int) : binInt .eql k a b = some (.bool (decide (a = b))) := by simp only [binInt]; congr 2
theorem b_neq (k : IntKind) (a b : Int) : binInt .neq k a b = some (.bool (!decide (a = b))) := by simp only [binInt]; congr 2
set_option maxHeartbeats 4000000 in
theorem L12 (n : Nat) (f q m w : Int) (sl : Option Addr) (l c : Nat) (H : AHeap) : ∃ H', C (n + 2) 12 [.agg ⟨seg f q m w sl l c⟩] H =
    some (.int .i64 (validI f w l), H') ∧ H.next ≤ H'.next ∧ ∀ b, b < H.next → H'.get b = H.get b := by
  have h39 := L39 n f q m w 1 sl l c
  rw [C_eq c12 rfl]
  unfold seg at *
  by_cases h1 : f < 0
  · simp [n12, finishN, enterN, execN, runOps, stepN, wantedN, eop, NOpd.ev, put, List.replicate, cellsL, Value.cells, Value.oneCell', AHeap.row, binN, b_lss, b_gtr, h39, resultsN, resN, resultV, validI, cI, h1]
    exact fun b hb e => absurd e (by omega)
  by_cases h2 : 15 < f
  · simp [n12, finishN, enterN, execN, runOps, stepN, wantedN, eop, NOpd.ev, put, List.replicate, cellsL, Value.cells, Value.oneCell', AHeap.row, binN, b_lss, b_gtr, h39, resultsN, resN, resultV, validI, cI, h1, h2]
    exact fun b hb e => absurd e (by omega)
  by_cases h3 : w < 0
  · simp [n12, finishN, enterN, execN, runOps, stepN, wantedN, eop, NOpd.ev, put, List.replicate, cellsL, Value.cells, Value.oneCell', AHeap.row, binN, b_lss, b_gtr, h39, resultsN, resN, resultV, validI, cI, h1, h2, h3]
    exact fun b hb e => absurd e (by omega)
  by_cases h4 : 4096 < w
  · simp [n12, finishN, enterN, execN, runOps, stepN, wantedN, eop, NOpd.ev, put, List.replicate, cellsL, Value.cells, Value.oneCell', AHeap.row, binN, b_lss, b_gtr, h39, resultsN, resN, resultV, validI, cI, h1, h2, h3, h4]
    exact fun b hb e => absurd e (by omega)
  by_cases h5 : 256 < (l : Int)
  · simp [n12, finishN, enterN, execN, runOps, stepN, wantedN, eop, NOpd.ev, put, List.replicate, cellsL, Value.cells, Value.oneCell', AHeap.row, binN, b_lss, b_gtr, h39, resultsN, resN, resultV, validI, cI, h1, h2, h3, h4, h5]
    exact fun b hb e => absurd e (by omega)
  by_cases h6 : band f 1 = 0 <;> by_cases h7 : band f 12 = 0 <;> by_cases h8 : band f 11 = 0
  all_goals
    simp [n12, finishN, enterN, execN, runOps, stepN, wantedN, eop, NOpd.ev, put, List.replicate, cellsL, Value.cells, Value.oneCell', AHeap.row, binN, b_lss, b_gtr, b_eql, b_neq, bin_and, h39, resultsN, resN, resultV, validI, cI, h1, h2, h3, h4, h5, h6, h7, h8]
    refine ⟨by omega, fun b hb => ?_⟩
    rw [if_neg (by omega), if_neg (by omega)]

def validR (f w : Int) (l : Nat) : Int :=
  if f < 0 ∨ 15 < f then 17 else if w < 0 ∨ 4096 < w then 34 else if 256 < (l : Int) then 20 else
    if cR f then 14 else 0
set_option maxHeartbeats 8000000 in
theorem L13 (n : Nat) (f q m w : Int) (sl : Option Addr) (l c : Nat) (H : AHeap) : ∃ H', C (n + 2) 13 [.agg ⟨seg f q m w sl l c⟩] H =
    some (.int .i64 (validR f w l), H') ∧ H.next ≤ H'.next ∧ ∀ b, b < H.next → H'.get b = H.get b := by
  have h40 := fun k hk => L40 n f k hk
  rw [C_eq c13 rfl]
  unfold seg at *
  by_cases h1 : f < 0
  · simp [n13, finishN, enterN, execN, runOps, stepN, wantedN, eop, NOpd.ev, put, List.replicate, cellsL, Value.cells, Value.oneCell', AHeap.row, binN, b_lss, b_gtr, resultsN, resN, resultV, validR, cR, h1]
    exact fun b hb e => absurd e (by omega)
  by_cases h2 : 15 < f
  · simp [n13, finishN, enterN, execN, runOps, stepN, wantedN, eop, NOpd.ev, put, List.replicate, cellsL, Value.cells, Value.oneCell', AHeap.row, binN, b_lss, b_gtr, resultsN, resN, resultV, validR, cR, h1, h2]
    exact fun b hb e => absurd e (by omega)
  by_cases h3 : w < 0
  · simp [n13, finishN, enterN, execN, runOps, stepN, wantedN, eop, NOpd.ev, put, List.replicate, cellsL, Value.cells, Value.oneCell', AHeap.row, binN, b_lss, b_gtr, resultsN, resN, resultV, validR, cR, h1, h2, h3]
    exact fun b hb e => absurd e (by omega)
  by_cases h4 : 4096 < w
  · simp [n13, finishN, enterN, execN, runOps, stepN, wantedN, eop, NOpd.ev, put, List.replicate, cellsL, Value.cells, Value.oneCell', AHeap.row, binN, b_lss, b_gtr, resultsN, resN, resultV, validR, cR, h1, h2, h3, h4]
    exact fun b hb e => absurd e (by omega)
  by_cases h5 : 256 < (l : Int)
  · simp [n13, finishN, enterN, execN, runOps, stepN, wantedN, eop, NOpd.ev, put, List.replicate, cellsL, Value.cells, Value.oneCell', AHeap.row, binN, b_lss, b_gtr, resultsN, resN, resultV, validR, cR, h1, h2, h3, h4, h5]
    exact fun b hb e => absurd e (by omega)
  cases h6 : hasR f 1 <;> cases h7 : hasR f 2 <;> cases h8 : hasR f 4 <;> cases h9 : hasR f 8
  all_goals
    simp [n13, finishN, enterN, execN, runOps, runD, chkAll, chkOne, chkAt, undef, stepN, wantedN, eop, NOpd.ev, put, List.replicate, cellsL, Value.cells, Value.oneCell', AHeap.row, binN, unN, b_lss, b_gtr, b_eql, b_neq, h40, resultsN, resN, resultV, validR, cR, h1, h2, h3, h4, h5, h6, h7, h8, h9]
    exact fun b hb e => absurd e (by omega)

theorem has_ok : ∀ f : Fin 16, cI (f.val : Int) = cR (f.val : Int) := by decide
theorem valid_eq (f w : Int) (l : Nat) : validI f w l = validR f w l := by
  unfold validI validR
  by_cases h1 : f < 0 ∨ 15 < f
  · rw [if_pos h1, if_pos h1]
  have h := has_ok ⟨f.toNat, by omega⟩
  have e : ((⟨f.toNat, by omega⟩ : Fin 16).val : Int) = f := by
    show ((f.toNat : Nat) : Int) = f
    omega
  rw [e] at h
  rw [h]

theorem L3 (n : Nat) (f q m w a b : Int) (sl : Option Addr) (l c : Nat) (H : AHeap) : ∃ H', C (n + 3) 3 [.agg ⟨seg f q m w sl l c⟩, .int .u32 a, .int .u32 b] H = some (.bool true, H') := by
  by_cases h1 : 6000 < (l : Int)
  · rw [C_eq c3 rfl]
    unfold seg at *
    simp [n3, finishN, enterN, execN, runOps, runD, chkAll, chkOne, chkAt, undef, stepN, wantedN, eop, NOpd.ev, put, List.replicate, cellsL, Value.cells, Value.oneCell', AHeap.row, binN, unN, b_lss, b_gtr, b_eql, b_neq, resultsN, resN, resultV, h1]
  · let H0 := H.add (.cells (seg f q m w sl l c) 0 false)
    obtain ⟨H1, e1, n1, g1⟩ := L12 n f q m w sl l c H0
    obtain ⟨H2, e2, n2, g2⟩ := L14 (n + 1) f q m w sl l c H1
    obtain ⟨H3, e3, n3', g3⟩ := L13 n f q m w sl l c H2
    have hb : H.next < H0.next := by simp [H0]
    have k0 : H0.get H.next = .cells (seg f q m w sl l c) 0 false := by simp [H0]
    have k1 : H1.get H.next = .cells (seg f q m w sl l c) 0 false := (g1 _ hb).trans k0
    have k2 : H2.get H.next = .cells (seg f q m w sl l c) 0 false := (g2 _ (by omega)).trans k1
    have k3 : H3.get H.next = .cells (seg f q m w sl l c) 0 false := (g3 _ (by omega)).trans k2
    rw [C_eq c3 rfl]
    rw [← valid_eq] at e3
    have h10 := L10 (n + 1) a b
    have h11 := L11 (n + 1) a b
    have h15 := L15 (n + 2)
    simp only [H0] at *
    unfold seg at *
    simp [n3, finishN, enterN, execN, runOps, runD, chkAll, chkOne, chkAt, undef, stepN, wantedN, eop, NOpd.ev, put, List.replicate, cellsL, Value.cells, Value.oneCell', AHeap.row, binN, unN, b_lss, b_gtr, b_eql, b_neq, resultsN, resN, resultV, h1, h10, h11, h15, e1, e2, e3, k1, k2, k3, eqN, eqBasic]

/-! ### the row -/
open Go.ChangeShapes Go.WideShapes Go.ChangeAt Go.RowKit
theorem own : ownKnob Try.prog.godebug = none := by kernel_rfl
theorem laidOut : laidOutB Try.prog = true := by kernel_rfl
theorem mixed : Try.prog.follows .mixedOrders = true := by kernel_rfl
theorem awakeRun : ((callN (cProg Try.prog 0) 60 15 [] AHeap.empty).map (·.1)) = some (.bool true) := by kernel_rfl
theorem X_ok : CalleeOk Try.prog 0 X := known_ok (n := 60) mixed fun f v h => by
  simp only [List.lookup] at h
  split at h
  · rename_i e
    cases h
    have : f = 15 := by simpa using e
    subst this
    exact ⟨rfl, awakeRun⟩
  · cases h
theorem C_ok (n : Nat) : CalleeOk Try.prog 0 (C n) := callX_sound mixed X_ok n

theorem u25 : ∃ fs, Try.prog.underlying 25 = some (.struct fs) := ⟨_, Try.underlying25⟩
theorem ct25 : Try.prog.cellTypes Try.prog.depth 25 = some [3, 22, 22, 3, 23] := by kernel_rfl
theorem co25 : Try.prog.cellsOf 25 = 5 := by kernel_rfl

theorem cell_int {W : World} {r : Reach} {b : Nat} {t : TypeId} {k : IntKind} {v : Value} (ht : Try.prog.underlying t = some (.int k)) (h : Cell.okWide Try.prog W r b t v) : ∃ n, v = .int k n := by
  unfold Cell.okWide Cell.ok at h
  rw [ht] at h
  cases v <;> simp at h
  obtain ⟨rfl, _⟩ := h
  exact ⟨_, rfl⟩

theorem cell_slice {W : World} {r : Reach} {b : Nat} {t e : TypeId} {v : Value} (ht : Try.prog.underlying t = some (.slice e)) (h : Cell.okWide Try.prog W r b t v) : v = .slice none 0 0 ∨ ∃ blk off l c, v = .slice (some ⟨blk, off, none⟩) l c ∧ l ≤ c := by
  unfold Cell.okWide Cell.ok at h
  rw [ht] at h
  cases v with
  | slice a l c =>
    cases a with
    | none =>
      left
      cases l with
      | zero => cases c with
        | zero => rfl
        | succ n => exact False.elim h
      | succ n => exact False.elim h
    | some a =>
      right
      obtain ⟨blk, off, spot⟩ := a
      simp at h
      obtain ⟨h1, _, h2⟩ := h
      obtain ⟨_, hs, _⟩ := h2
      cases hs
      exact ⟨blk, off, l, c, rfl, h1⟩
  | _ => simp at h

theorem open_seg {W : World} {r : Reach} {b : Nat} {v : Value} (h : Value.okWide Try.prog W r b 25 v) : ∃ f q m w x, v = .agg ⟨[.int .i64 f, .int .u32 q, .int .u32 m, .int .i64 w, x]⟩ ∧ (x = .slice none 0 0 ∨ ∃ blk off l c, x = .slice (some ⟨blk, off, none⟩) l c ∧ l ≤ c) := by
  unfold Value.okWide at h
  rw [Try.underlying25] at h
  obtain ⟨cs, rfl, hsz, ts, hts, _, hall⟩ := h
  rw [ct25] at hts
  cases hts
  rw [co25] at hsz
  obtain ⟨cs⟩ := cs
  match cs, hsz with
  | [c0, c1, c2, c3, c4], _ =>
    obtain ⟨_, e0, h0⟩ := hall 0 c0 rfl
    obtain ⟨_, e1, h1⟩ := hall 1 c1 rfl
    obtain ⟨_, e2, h2⟩ := hall 2 c2 rfl
    obtain ⟨_, e3, h3⟩ := hall 3 c3 rfl
    obtain ⟨_, e4, h4⟩ := hall 4 c4 rfl
    cases e0; cases e1; cases e2; cases e3; cases e4
    obtain ⟨f, rfl⟩ := cell_int Try.underlying3 h0
    obtain ⟨q, rfl⟩ := cell_int Try.underlying22 h1
    obtain ⟨m, rfl⟩ := cell_int Try.underlying22 h2
    obtain ⟨w, rfl⟩ := cell_int Try.underlying3 h3
    exact ⟨f, q, m, w, c4, rfl, cell_slice Try.underlying23 h4⟩

theorem open_u32 {W : World} {r : Reach} {b : Nat} {v : Value} (h : Value.okWide Try.prog W r b 22 v) : ∃ n, v = .int .u32 n := by
  unfold Value.okWide at h
  rw [Try.underlying22] at h
  exact cell_int Try.underlying22 h

theorem calls {W : World} {f q m w a b : Int} {x : Value} (hx : x = .slice none 0 0 ∨ ∃ blk off l c, x = .slice (some ⟨blk, off, none⟩) l c ∧ l ≤ c) :
    Calls Try.prog 3 #[.agg ⟨[.int .i64 f, .int .u32 q, .int .u32 m, .int .i64 w, x]⟩, .int .u32 a, .int .u32 b] W fun e W' => e = .returned (.bool true) ∧ Below W.heap.size W W' := by
  rcases hx with rfl | ⟨blk, off, l, c, rfl, hl⟩
  · obtain ⟨H', hr⟩ := L3 0 f q m w a b none 0 0 AHeap.empty
    refine ((C_ok 3 _ _ _ _ _ hr (fun _ => none) _ W (fun g hg => absurd hg (Nat.not_lt_zero _)) (.cons (.agg (.cons (.int _ _) (.cons (.int _ _) (.cons (.int _ _) (.cons (.int _ _) (.cons .slNil .nil)))))) (.cons (.int _ _) (.cons (.int _ _) .nil))) ⟨fun b m h => (by cases h), fun b m h => (by cases h), fun b c m k h => (by cases h)⟩).2).mono fun e W' ⟨φ', v', he, hv, hs⟩ => ?_
    cases hv
    exact ⟨he, hs.below fun k ⟨b, m, hb, _⟩ => (by cases hb)⟩
  · obtain ⟨H', hr⟩ := L3 0 f q m w a b (some ⟨0, 0, none⟩) l c (startH [.dead])
    let ms : List Emb := [⟨blk, off, 0, 0, 0⟩]
    obtain ⟨hs, hw⟩ := start_sim (w := W) (gs := [.dead]) (ms := ms) rfl (by simp [AObj.writable]) (fun b o m hb hm => by
      match b, hb with
      | 0, hb => cases hb; trivial)
    have hsl : VR (fun b => ms[b]?) (.slice (some ⟨0, 0, none⟩) l c) (.slice (some ⟨blk, off, none⟩) l c) := by
      have := VR.sl (φ := fun b => ms[b]?) (b := 0) (m := ⟨blk, off, 0, 0, 0⟩) (o := 0) rfl hl (.inl rfl)
      simpa using this
    refine ((C_ok 3 _ _ _ _ _ hr (fun b => ms[b]?) _ W (fun g hg => absurd hg (Nat.not_lt_zero _)) (.cons (.agg (.cons (.int _ _) (.cons (.int _ _) (.cons (.int _ _) (.cons (.int _ _) (.cons hsl .nil)))))) (.cons (.int _ _) (.cons (.int _ _) .nil))) hs).2).mono fun e W' ⟨φ', v', he, hv, hs'⟩ => ?_
    cases hv
    exact ⟨he, hs'.below hw⟩

theorem contract (Hd : Type) (enc : TypeId × Value → Hd) (W : World) (base : Nat) (args : Array Value) (ds gs : List (DataW Hd)) (before : List MemPlace)
    (hval : ∀ (j : Nat) t v, Try.f3.params[j]? = some t → args[j]? = some v → Value.okWide Try.prog W .any base t v)
    (hW : DataW.Whole enc Try.prog Try.f3.params.toList Rows.streamsValidSpec.vars false W args.toList ds gs before) :
    Calls Try.prog 3 args W fun e W' => ∃ v, e = .returned v ∧ Rows.streamsValidSpec.post enc Try.prog Try.f3 false true false false W args v W' := by
  obtain ⟨p, q, hA, _⟩ := id hW
  have hlen := (trodAll_length hA).1
  rw [Try.params3] at hval
  have h3 : args.size = 3 := by simpa [Try.params3] using hlen
  obtain ⟨args⟩ := args
  match args, h3 with
  | [v0, v1, v2], _ =>
    obtain ⟨f, q', m, w, x, rfl, hx⟩ := open_seg (hval 0 25 v0 rfl rfl)
    obtain ⟨a, rfl⟩ := open_u32 (hval 1 22 v1 rfl rfl)
    obtain ⟨b, rfl⟩ := open_u32 (hval 2 22 v2 rfl rfl)
    refine (calls hx).mono fun e W' ⟨he, hb⟩ => ?_
    exact ⟨_, he, post_of_below (tb := 4) laidOut (fun t ht => of_decide_eq_true ((List.all_eq_true.1 (show (Try.f3.params.toList.all fun t => decide (Try.prog.readableRec t = true ∧ t < Try.prog.types.size)) = true by kernel_rfl)) t ht)) rfl (by kernel_rfl) Try.underlying4
      (fun xs hx => by
        match xs, hx with
        | [d1, d2, d3], _ => rfl) hW hb⟩

theorem lifted (os : Os) (started : os.Started) (Hd : Type) (enc : TypeId × Value → Hd) :
    ReturnsInHanded {} Try.checked os 3 .any (Rows.streamsValidSpec.pre6 enc Try.prog Try.f3 Rows.streamsValidRow.domain false) (Rows.streamsValidSpec.post enc Try.prog Try.f3 false true false false) := by
  refine returnsInHanded_of_change (C := Try.checked) own started (by kernel_rfl) Try.func3
    (ChangeSpec.witness6 (enc := enc) (C := Try.checked) false ⟨#[], #[.agg #[.int .i64 0, .int .u32 0, .int .u32 0, .int .i64 0, .slice none 0 0], .int .u32 0, .int .u32 0], []⟩ 8 (by kernel_rfl) (by kernel_rfl) (by kernel_rfl) (by kernel_rfl)) ?_
  intro W base args ds gs before hval hW _ _
  exact contract Hd enc W base args ds gs before hval hW

theorem proved : Rows.StreamsValidSaid :=
  OpenClaim.holds_of_wide 3 Try.f3 rfl rfl rfl rfl rfl rfl rfl ⟨rfl, rfl, rfl, rfl, rfl⟩ rfl rfl rfl rfl rfl (by kernel_rfl) Try.func3 (by kernel_rfl)
    (of_decide_eq_true (by kernel_rfl)) (by unfold Func.isWrapper; first | (rw [if_pos (by decide +kernel)]; kernel_rfl) | (rw [if_neg (by decide +kernel)]; exact ⟨rfl, rfl⟩))
    (fun os started H enc _ => lifted os started H enc)
#print axioms proved
end Go.Proofs.Ytamcfhhcmjagnaa.sv
