/- The attributes' functions, as the evaluator reads them (printed by a program, checked by the kernel). -/
import Derived.Test.YtgbnjcmjioiclaaDoorAtBase
import Derived.Test.YtgbnjcmjioiclaaDoorAtSortL
import Derived.Test.YtgbnjcmjioiclaaDoorEwZq
namespace Go.E.At
open Go Go.E Go.Proofs.YtgbnjcmjioiclaaDoor.base Go.Proofs.YtgbnjcmjioiclaaDoor Go.Proofs
set_option linter.unusedVariables false
set_option maxRecDepth 100000
noncomputable def n3 : NFunc := ⟨24, [.tmp 6],
  .seq (.region [zE 3 (.box 0 (.t 0)),
  zE 4 (.box 0 (.t 1)),
  zE 6 (.mov (.c (.bool false)))]) (.seq (.seq (.region [zC 7 2 4,
  zD 8 7,
  zE 9 (.len 1 (.t 8)),
  zE 10 (.bin .gtr (.basic .bool) (.t 9) (.c (.int .i64 40)))]) (.cond (.t 10) (.seq (.region [zE 11 (.call (.c (.func (.func 9) #[] #[])) []),
  zA 6 11]) (.ret)) (.skip))) (.seq (.regionD [zE 12 (.call (.c (.func (.func 9) #[] #[])) []),
  zA 13 12,
  zF 14 13 true (.loadN 6 (.t 3)),
  zF 15 13 true (.loadN 3 (.t 4)),
  zF 16 13 true (.mov (.t 2)),
  zF 18 13 true (.loadN 6 (.t 3)),
  zF 19 13 true (.loadN 3 (.t 4)),
  zF 20 13 true (.mov (.t 2)),
  zF 17 13 true (.call (.c (.func (.func 10) #[] #[])) [(.t 14), (.t 15), (.t 16)]),
  zF 21 13 true (.call (.c (.func (.func 11) #[] #[])) [(.t 18), (.t 19), (.t 20)]),
  zF 22 13 true (.bin .eql (.basic .bool) (.t 17) (.t 21)),
  zE 23 (.pick (.t 13) (.t 22) (.c (.bool false))),
  zA 6 23] [[], [], [8], [8], [], [8, 9], [8, 9], [], [], [], [], [], []]) (.ret)))⟩
theorem c3 : (cProg Tryd.prog 1).fn 3 = some n3 := by kernel_rfl

noncomputable def n10 : NFunc := ⟨53, [.tmp 6],
  .seq (.region [zE 3 (.box 0 (.t 0)),
  zE 4 (.box 0 (.t 1)),
  zE 6 (.mov (.c (.bool false)))]) (.seq (.seq (.region [zA 10 2,
  zE 11 (.bin .lss (.basic .bool) (.t 10) (.c (.int .i64 0))),
  zA 12 11,
  zF 13 12 false (.mov (.t 2)),
  zF 14 12 false (.bin .gtr (.basic .bool) (.t 13) (.c (.int .i64 7))),
  zE 15 (.pick (.t 12) (.c (.bool true)) (.t 14))]) (.cond (.t 15) (.seq (.region [zE 6 (.mov (.c (.bool false)))]) (.ret)) (.skip))) (.seq (.region [zC 16 0 3,
  zD 17 16,
  zE 18 (.bin .and (.basic .bool) (.t 17) (.c (.int .i64 4095))),
  zC 19 0 3,
  ⟨none, .store 1 (.t 19) (.t 18), none⟩]) (.seq (.region [zE 7 (.mov (.c (.int .i64 0)))]) (.seq (.seq (.region [zE 20 (.loadN 6 (.g 0)),
  zE 21 (.mov (.c (.int .i64 0)))]) (.block 0 (.loop (.seq (.region [zE 22 (.bin .lss (.basic .bool) (.t 21) (.c (.int .i64 3)))]) (.seq (.cond (.t 22) (.skip) (.exit 0)) (.seq (.block 1 (.seq (.region [zE 23 (.idxArr 3 (some 2) 2 (.t 20) (.t 21)),
  zE 9 (.alloc 0 [.int .i64 0, .int .i64 0]),
  ⟨none, .store 2 (.t 9) (.t 23), none⟩]) (.seq (.regionD [zE 24 (.loadN 6 (.t 3)),
  zE 25 (.loadN 3 (.t 4)),
  zC 27 0 9,
  zD 28 27,
  zE 26 (.call (.c (.func (.func 39) #[] #[])) [(.t 24), (.t 25)]),
  zE 29 (.bin .and (.basic .bool) (.t 26) (.t 28)),
  zE 30 (.bin .neq (.basic (.int .i64)) (.t 29) (.c (.int .i64 0)))] [[4], [4], [], [4, 7], [], [], []]) (.cond (.t 30) (.region [zA 31 7,
  zC 32 1 9,
  zD 33 32,
  zE 34 (.bin .or (.basic .bool) (.t 31) (.t 33)),
  zA 7 34]) (.skip))))) (.region [zE 35 (.bin .add (.basic .bool) (.t 21) (.c (.int .i64 1))),
  zA 21 35]))))))) (.seq (.seq (.region [zC 36 0 4,
  zD 37 36,
  zE 38 (.bin .eql (.basic (.int .i64)) (.t 37) (.c (.int .i64 0)))]) (.cond (.t 38) (.seq (.region [zE 7 (.mov (.c (.int .i64 3)))]) (.seq (.region [zC 39 5 3,
  zD 40 39,
  zA 41 40,
  zF 42 41 false (.faddr 0 (.t 3)),
  zF 43 41 false (.load1 (.t 42)),
  zF 44 41 false (.bin .and (.basic .bool) (.t 43) (.c (.int .i64 73))),
  zF 45 41 false (.bin .neq (.basic (.int .i64)) (.t 44) (.c (.int .i64 0))),
  zE 46 (.pick (.t 41) (.c (.bool true)) (.t 45))]) (.cond (.t 46) (.region [zA 47 7,
  zE 48 (.bin .or (.basic .bool) (.t 47) (.c (.int .i64 4))),
  zA 7 48]) (.skip)))) (.skip))) (.seq (.region [zA 49 2,
  zA 50 7,
  zE 51 (.bin .andNot (.basic .bool) (.t 49) (.t 50)),
  zE 52 (.bin .eql (.basic (.int .i64)) (.t 51) (.c (.int .i64 0))),
  zA 6 52]) (.ret)))))))⟩
theorem c10 : (cProg Tryd.prog 1).fn 10 = some n10 := by kernel_rfl

noncomputable def n11 : NFunc := ⟨78, [.tmp 6],
  .seq (.region [zE 3 (.box 0 (.t 0)),
  zE 4 (.box 0 (.t 1)),
  zE 6 (.mov (.c (.bool false)))]) (.seq (.seq (.region [zA 8 2,
  zE 9 (.bin .lss (.basic .bool) (.t 8) (.c (.int .i64 0))),
  zA 10 9,
  zF 11 10 false (.mov (.t 2)),
  zF 12 10 false (.bin .gtr (.basic .bool) (.t 11) (.c (.int .i64 7))),
  zE 13 (.pick (.t 10) (.c (.bool true)) (.t 12))]) (.cond (.t 13) (.seq (.region [zE 6 (.mov (.c (.bool false)))]) (.ret)) (.skip))) (.seq (.seq (.region [zC 14 0 4,
  zD 15 14,
  zE 16 (.bin .eql (.basic (.int .i64)) (.t 15) (.c (.int .i64 0)))]) (.cond (.t 16) (.seq (.region [zA 17 2,
  zE 18 (.bin .and (.basic .bool) (.t 17) (.c (.int .i64 4))),
  zE 19 (.bin .eql (.basic (.int .i64)) (.t 18) (.c (.int .i64 0))),
  zA 20 19,
  zF 21 20 false (.faddr 5 (.t 3)),
  zF 22 20 false (.load1 (.t 21)),
  zE 23 (.pick (.t 20) (.c (.bool true)) (.t 22)),
  zA 24 23,
  zF 25 24 false (.faddr 0 (.t 3)),
  zF 26 24 false (.load1 (.t 25)),
  zF 27 24 false (.bin .and (.basic .bool) (.t 26) (.c (.int .i64 73))),
  zF 28 24 false (.bin .neq (.basic (.int .i64)) (.t 27) (.c (.int .i64 0))),
  zE 29 (.pick (.t 24) (.c (.bool true)) (.t 28)),
  zA 6 29]) (.ret)) (.skip))) (.seq (.region [zC 30 0 3,
  zD 31 30,
  zE 32 (.bin .and (.basic .bool) (.t 31) (.c (.int .i64 7))),
  zA 7 32]) (.seq (.seq (.region [zC 33 0 4,
  zD 34 33,
  zC 35 1 3,
  zD 36 35,
  zE 37 (.bin .eql (.basic (.int .i64)) (.t 34) (.t 36))]) (.cond (.t 37) (.region [zC 38 0 3,
  zD 39 38,
  zE 40 (.bin .shr (.basic .bool) (.t 39) (.c (.int .u64 6))),
  zE 41 (.bin .and (.basic .bool) (.t 40) (.c (.int .i64 7))),
  zA 7 41]) (.seq (.region [zE 42 (.loadN 3 (.t 4)),
  zC 43 2 3,
  zD 44 43,
  zE 45 (.call (.c (.func (.func 40) #[] #[])) [(.t 42), (.t 44)])]) (.cond (.t 45) (.region [zC 46 0 3,
  zD 47 46,
  zE 48 (.bin .shr (.basic .bool) (.t 47) (.c (.int .u64 3))),
  zE 49 (.bin .and (.basic .bool) (.t 48) (.c (.int .i64 7))),
  zA 7 49]) (.skip))))) (.seq (.region [zA 50 2,
  zE 51 (.bin .and (.basic .bool) (.t 50) (.c (.int .i64 1))),
  zE 52 (.bin .eql (.basic (.int .i64)) (.t 51) (.c (.int .i64 0))),
  zA 53 52,
  zF 54 53 false (.mov (.t 7)),
  zF 55 53 false (.bin .and (.basic .bool) (.t 54) (.c (.int .i64 4))),
  zF 56 53 false (.bin .neq (.basic (.int .i64)) (.t 55) (.c (.int .i64 0))),
  zE 57 (.pick (.t 53) (.c (.bool true)) (.t 56)),
  zA 58 57,
  zF 59 58 true (.mov (.t 2)),
  zF 60 58 true (.bin .and (.basic .bool) (.t 59) (.c (.int .i64 2))),
  zF 61 58 true (.bin .eql (.basic (.int .i64)) (.t 60) (.c (.int .i64 0))),
  zF 62 58 true (.mov (.t 61)),
  zF 63 62 false (.mov (.t 7)),
  zF 64 62 false (.bin .and (.basic .bool) (.t 63) (.c (.int .i64 2))),
  zF 65 62 false (.bin .neq (.basic (.int .i64)) (.t 64) (.c (.int .i64 0))),
  zF 66 58 true (.pick (.t 62) (.c (.bool true)) (.t 65)),
  zE 67 (.pick (.t 58) (.t 66) (.c (.bool false))),
  zA 68 67,
  zF 69 68 true (.mov (.t 2)),
  zF 70 68 true (.bin .and (.basic .bool) (.t 69) (.c (.int .i64 4))),
  zF 71 68 true (.bin .eql (.basic (.int .i64)) (.t 70) (.c (.int .i64 0))),
  zF 72 68 true (.mov (.t 71)),
  zF 73 72 false (.mov (.t 7)),
  zF 74 72 false (.bin .and (.basic .bool) (.t 73) (.c (.int .i64 1))),
  zF 75 72 false (.bin .neq (.basic (.int .i64)) (.t 74) (.c (.int .i64 0))),
  zF 76 68 true (.pick (.t 72) (.c (.bool true)) (.t 75)),
  zE 77 (.pick (.t 68) (.t 76) (.c (.bool false))),
  zA 6 77]) (.ret))))))⟩
theorem c11 : (cProg Tryd.prog 1).fn 11 = some n11 := by kernel_rfl

noncomputable def n39 : NFunc := ⟨27, [.tmp 4],
  .seq (.region [zE 2 (.box 0 (.t 0)),
  zE 3 (.box 0 (.t 1)),
  zE 4 (.mov (.c (.int .i64 0)))]) (.seq (.block 0 (.seq (.region [zC 6 0 3,
  zD 7 6,
  zC 8 1 2,
  zD 9 8,
  zE 10 (.bin .eql (.basic (.int .i64)) (.t 7) (.t 9)),
  zA 5 10]) (.cond (.t 5) (.seq (.region [zC 11 0 2,
  zD 12 11,
  zE 13 (.bin .quo (.basic .bool) (.t 12) (.c (.int .i64 64))),
  zE 14 (.bin .rem (.basic .bool) (.t 13) (.c (.int .i64 8))),
  zA 4 14]) (.ret)) (.seq (.region [zE 16 (.loadN 3 (.t 3)),
  zC 17 2 2,
  zD 18 17,
  zE 19 (.call (.c (.func (.func 66) #[] #[])) [(.t 16), (.t 18)]),
  zA 15 19]) (.cond (.t 15) (.seq (.region [zC 20 0 2,
  zD 21 20,
  zE 22 (.bin .quo (.basic .bool) (.t 21) (.c (.int .i64 8))),
  zE 23 (.bin .rem (.basic .bool) (.t 22) (.c (.int .i64 8))),
  zA 4 23]) (.ret)) (.skip)))))) (.seq (.region [zC 24 0 2,
  zD 25 24,
  zE 26 (.bin .rem (.basic .bool) (.t 25) (.c (.int .i64 8))),
  zA 4 26]) (.ret)))⟩
theorem c39 : (cProg Tryd.prog 1).fn 39 = some n39 := by kernel_rfl

noncomputable def n40 : NFunc := ⟨24, [.tmp 4],
  .seq (.region [zE 2 (.box 0 (.t 0)),
  zE 4 (.mov (.c (.bool false)))]) (.seq (.seq (.region [zC 6 1 2,
  zD 7 6,
  zA 8 1,
  zE 9 (.bin .eql (.basic (.int .i64)) (.t 7) (.t 8))]) (.cond (.t 9) (.seq (.region [zE 4 (.mov (.c (.bool true)))]) (.ret)) (.skip))) (.seq (.seq (.region [zE 5 (.mov (.c (.int .i64 0)))]) (.block 0 (.loop (.seq (.seq (.region [zA 10 5,
  zC 11 2 2,
  zD 12 11,
  zE 13 (.len 1 (.t 12)),
  zE 14 (.bin .lss (.basic .bool) (.t 10) (.t 13))]) (.cond (.t 14) (.skip) (.exit 0))) (.seq (.block 1 (.seq (.region [zC 17 2 2,
  zD 18 17,
  zA 19 5,
  zE 20 (.iaddr 1 (.t 18) (.t 19)),
  zD 21 20,
  zA 22 1,
  zE 23 (.bin .eql (.basic (.int .i64)) (.t 21) (.t 22))]) (.cond (.t 23) (.seq (.region [zE 4 (.mov (.c (.bool true)))]) (.ret)) (.skip)))) (.region [zA 15 5,
  zE 16 (.bin .add (.basic .bool) (.t 15) (.c (.int .i64 1))),
  zA 5 16])))))) (.seq (.region [zE 4 (.mov (.c (.bool false)))]) (.ret))))⟩
theorem c40 : (cProg Tryd.prog 1).fn 40 = some n40 := by kernel_rfl

noncomputable def n66 : NFunc := ⟨15, [.tmp 4],
  .seq (.region [zE 2 (.box 0 (.t 0)),
  zE 4 (.mov (.c (.bool false)))]) (.seq (.region [zC 5 1 2,
  zD 6 5,
  zA 7 1,
  zE 8 (.bin .eql (.basic (.int .i64)) (.t 6) (.t 7)),
  zA 9 8,
  zF 10 9 false (.faddr 2 (.t 2)),
  zF 11 9 false (.load1 (.t 10)),
  zF 12 9 false (.mov (.t 1)),
  zF 13 9 false (.call (.c (.func (.func 75) #[] #[])) [(.t 11), (.t 12)]),
  zE 14 (.pick (.t 9) (.c (.bool true)) (.t 13)),
  zA 4 14]) (.ret))⟩
theorem c66 : (cProg Tryd.prog 1).fn 66 = some n66 := by kernel_rfl

noncomputable def n75 : NFunc := ⟨9, [.tmp 4],
  .seq (.region [zE 4 (.mov (.c (.bool false)))]) (.seq (.region [zA 5 0,
  zA 6 1,
  zE 7 (.call (.c (.func (.func 78) #[] #[])) [(.t 5), (.t 6)]),
  zE 8 (.bin .geq (.basic .bool) (.t 7) (.c (.int .i64 0))),
  zA 4 8]) (.ret))⟩
theorem c75 : (cProg Tryd.prog 1).fn 75 = some n75 := by kernel_rfl

noncomputable def n78 : NFunc := ⟨19, [.tmp 4],
  .seq (.region [zE 4 (.mov (.c (.int .i64 0)))]) (.seq (.seq (.region [zA 6 0,
  zE 7 (.len 1 (.t 6)),
  zE 8 (.mov (.c (.int .i64 0)))]) (.block 0 (.loop (.seq (.region [zE 9 (.bin .lss (.basic .bool) (.t 8) (.t 7))]) (.seq (.cond (.t 9) (.skip) (.exit 0)) (.seq (.block 1 (.seq (.region [zA 10 8,
  zA 5 10]) (.seq (.region [zA 11 1,
  zA 12 0,
  zA 13 5,
  zE 14 (.iaddr 1 (.t 12) (.t 13)),
  zD 15 14,
  zE 16 (.bin .eql (.basic (.int .i64)) (.t 11) (.t 15))]) (.cond (.t 16) (.seq (.region [zA 17 5,
  zA 4 17]) (.ret)) (.skip))))) (.region [zE 18 (.bin .add (.basic .bool) (.t 8) (.c (.int .i64 1))),
  zA 8 18]))))))) (.seq (.region [zE 4 (.mov (.c (.int .i64 (-1))))]) (.ret)))⟩
theorem c78 : (cProg Tryd.prog 1).fn 78 = some n78 := by kernel_rfl


def K : List (Nat × Value) := [(9, .bool true)]
theorem awakeRun : (callN (cProg Tryd.prog 1) 40 (.fn 9) [] (startH objs)).map (·.1) = some (.bool true) := by kernel_rfl
theorem hK : ∀ f v, K.lookup f = some v → plainV v = true ∧ (callN (cProg Tryd.prog 1) 40 (.fn f) [] (startH objs)).map (·.1) = some v := by
  intro f v h
  unfold K at h
  simp only [List.lookup] at h
  split at h
  · rename_i he
    cases h
    have : f = 9 := by simpa using he
    subst this
    exact ⟨rfl, awakeRun⟩
  · cases h
def srtI (l : List Int) : List Int := l.mergeSort fun x y => decide (x ≤ y)
theorem sortAt : SortAt (α := Int) (fun n => .int .i64 n) srtI Tryd.prog 71 := ⟨AnyG.slices_Sort_int Tryd.sort71, AnyG.slices_Sort_int_none Tryd.sort71⟩
theorem sortFn : ∃ fn, Tryd.prog.funcs[71]? = some fn ∧ fn.body.isSome = true ∧ fn.name ≠ "runtime.NumGoroutine" := ⟨Tryd.f71, Tryd.func71, by kernel_rfl, by decide⟩
def X : Extra Tryd.prog 1 := (extKnown mixed (objs := objs) rfl (Nat.le_refl _) hK).or (extSort 71 sortAt sortFn encI_only encI_self (fun _ => rfl) (fun l => List.length_mergeSort l))
noncomputable def C : Callees := callsX X
theorem C_ok : CalleesOk Tryd.prog 1 C := callsX_ok mixed X
theorem o3 : Opens C 3 n3 := opens_of c3
theorem o10 : Opens C 10 n10 := opens_of c10
theorem o11 : Opens C 11 n11 := opens_of c11
theorem o39 : Opens C 39 n39 := opens_of c39
theorem o40 : Opens C 40 n40 := opens_of c40
theorem o66 : Opens C 66 n66 := opens_of c66
theorem o75 : Opens C 75 n75 := opens_of c75
theorem o78 : Opens C 78 n78 := opens_of c78
end Go.E.At
