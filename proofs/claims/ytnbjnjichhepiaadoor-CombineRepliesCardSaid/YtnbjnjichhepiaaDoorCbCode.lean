/- The functions of combine, as the evaluator reads them (printed by a program, checked by the kernel): names and numbers. -/
import Derived.Test.YtnbjnjichhepiaaDoorCbBase
import Derived.Test.YtnbjnjichhepiaaDoorEwZr
namespace Go.E.Cb
open Go Go.E Go.Proofs.YtnbjnjichhepiaaDoor.base Go.Proofs.YtnbjnjichhepiaaDoor Go.Proofs
set_option linter.unusedVariables false
set_option maxRecDepth 100000
noncomputable def n16 : NFunc := ⟨10, [.tmp 4],
  .seq (.region [zE 4 (.mov (.c (.bool false)))]) (.seq (.region [zA 5 0,
  zE 6 (.b2s (.t 5)),
  zA 7 1,
  zE 8 (.b2s (.t 7)),
  zE 9 (.bin .eql (.basic .string) (.t 6) (.t 8)),
  zA 4 9]) (.ret))⟩
theorem c16 : (cProg Tryd.prog 2).fn 16 = some n16 := by kernel_rfl

noncomputable def n23 : NFunc := ⟨8, [.tmp 2],
  .seq (.region [zE 2 (.mov (.c (.slice none 0 0)))]) (.seq (.seq (.region [zA 3 0,
  zE 4 (.bin .eql (.basic (.slice 5)) (.t 3) (.c (.slice none 0 0)))]) (.cond (.t 4) (.seq (.region [zE 2 (.mov (.c (.slice none 0 0)))]) (.ret)) (.skip))) (.seq (.region [zE 5 (.bslice 1 0 [] []),
  zA 6 0,
  zE 7 (.append 1 1 (.t 5) (.t 6)),
  zA 2 7]) (.ret)))⟩
theorem c23 : (cProg Tryd.prog 2).fn 23 = some n23 := by kernel_rfl

noncomputable def n44 : NFunc := ⟨23, [.tmp 6],
  .seq (.region [zE 6 (.mov (.c (.slice none 0 0)))]) (.seq (.seq (.region [zA 8 2,
  zE 9 (.mov (.c (.int .i64 0)))]) (.block 0 (.loop (.seq (.region [zE 10 (.bin .lss (.basic .bool) (.t 9) (.t 8))]) (.seq (.cond (.t 10) (.skip) (.exit 0)) (.seq (.block 1 (.seq (.region [zA 11 9,
  zA 7 11]) (.region [zA 12 0,
  zA 13 1,
  zE 14 (.convInt .u64 (.t 13)),
  zA 15 7,
  zE 16 (.bin .mul (.basic .bool) (.c (.int .i64 8)) (.t 15)),
  zE 17 (.bin .shr (.basic .bool) (.t 14) (.t 16)),
  zE 18 (.convInt .u8 (.t 17)),
  zE 19 (.bslice 1 1 [.int .u8 0] [(0, 1, (.t 18))]),
  zE 20 (.append 1 1 (.t 12) (.t 19)),
  zA 0 20]))) (.region [zE 21 (.bin .add (.basic .bool) (.t 9) (.c (.int .i64 1))),
  zA 9 21]))))))) (.seq (.region [zA 22 0,
  zA 6 22]) (.ret)))⟩
theorem c44 : (cProg Tryd.prog 2).fn 44 = some n44 := by kernel_rfl

noncomputable def n45 : NFunc := ⟨21, [.tmp 6],
  .seq (.region [zE 6 (.mov (.c (.slice none 0 0)))]) (.seq (.seq (.region [zE 7 (.mov (.c (.int .i64 0)))]) (.block 0 (.loop (.seq (.seq (.region [zA 8 7,
  zA 9 2,
  zE 10 (.bin .lss (.basic .bool) (.t 8) (.t 9))]) (.cond (.t 10) (.skip) (.exit 0))) (.seq (.block 1 (.seq (.region [zA 13 0,
  zA 14 1,
  zE 15 (.convInt .u8 (.t 14)),
  zE 16 (.bslice 1 1 [.int .u8 0] [(0, 1, (.t 15))]),
  zE 17 (.append 1 1 (.t 13) (.t 16)),
  zA 0 17]) (.region [zA 18 1,
  zE 19 (.bin .quo (.basic .bool) (.t 18) (.c (.int .u64 256))),
  zA 1 19]))) (.region [zA 11 7,
  zE 12 (.bin .add (.basic .bool) (.t 11) (.c (.int .i64 1))),
  zA 7 12])))))) (.seq (.region [zA 20 0,
  zA 6 20]) (.ret)))⟩
theorem c45 : (cProg Tryd.prog 2).fn 45 = some n45 := by kernel_rfl

noncomputable def n48 : NFunc := ⟨23, [.tmp 2],
  .seq (.region [zE 2 (.mov (.c (.int .i64 0)))]) (.seq (.region [zE 3 (.mov (.c (.int .u64 0)))]) (.seq (.seq (.region [zA 6 0,
  zE 7 (.len 1 (.t 6)),
  zE 8 (.mov (.c (.int .i64 0)))]) (.block 0 (.loop (.seq (.region [zE 9 (.bin .lss (.basic .bool) (.t 8) (.t 7))]) (.seq (.cond (.t 9) (.skip) (.exit 0)) (.seq (.block 1 (.seq (.region [zA 10 8,
  zE 11 (.iaddr 1 (.t 6) (.t 8)),
  zD 12 11,
  zA 4 10,
  zA 5 12]) (.region [zA 13 3,
  zA 14 5,
  zE 15 (.convInt .u64 (.t 14)),
  zA 16 4,
  zE 17 (.bin .mul (.basic .bool) (.c (.int .i64 8)) (.t 16)),
  zE 18 (.bin .shl (.basic .bool) (.t 15) (.t 17)),
  zE 19 (.bin .or (.basic .bool) (.t 13) (.t 18)),
  zA 3 19]))) (.region [zE 20 (.bin .add (.basic .bool) (.t 8) (.c (.int .i64 1))),
  zA 8 20]))))))) (.seq (.region [zA 21 3,
  zE 22 (.convInt .i64 (.t 21)),
  zA 2 22]) (.ret))))⟩
theorem c48 : (cProg Tryd.prog 2).fn 48 = some n48 := by kernel_rfl

noncomputable def n49 : NFunc := ⟨26, [.tmp 6],
  .seq (.region [zE 6 (.mov (.c (.int .u64 0)))]) (.seq (.region [zE 7 (.mov (.c (.int .u64 0)))]) (.seq (.seq (.region [zA 9 2,
  zE 10 (.bin .sub (.basic .bool) (.t 9) (.c (.int .i64 1))),
  zA 8 10]) (.block 0 (.loop (.seq (.seq (.region [zA 11 8,
  zE 12 (.bin .geq (.basic .bool) (.t 11) (.c (.int .i64 0)))]) (.cond (.t 12) (.skip) (.exit 0))) (.seq (.block 1 (.region [zA 15 7,
  zE 16 (.bin .mul (.basic .bool) (.t 15) (.c (.int .u64 256))),
  zA 17 0,
  zA 18 1,
  zA 19 8,
  zE 20 (.bin .add (.basic .bool) (.t 18) (.t 19)),
  zE 21 (.iaddr 1 (.t 17) (.t 20)),
  zD 22 21,
  zE 23 (.convInt .u64 (.t 22)),
  zE 24 (.bin .add (.basic .bool) (.t 16) (.t 23)),
  zA 7 24])) (.region [zA 13 8,
  zE 14 (.bin .sub (.basic .bool) (.t 13) (.c (.int .i64 1))),
  zA 8 14])))))) (.seq (.region [zA 25 7,
  zA 6 25]) (.ret))))⟩
theorem c49 : (cProg Tryd.prog 2).fn 49 = some n49 := by kernel_rfl

def K : List (Nat × Value) := [(9, .bool true)]
theorem awakeRun : (callN (cProg Tryd.prog 2) 60 (.fn 9) [] (startH objs)).map (·.1) = some (.bool true) := by kernel_rfl
theorem hK : ∀ f v, K.lookup f = some v → plainV v = true ∧ (callN (cProg Tryd.prog 2) 60 (.fn f) [] (startH objs)).map (·.1) = some v := by
  intro f v h
  unfold K at h
  simp only [List.lookup] at h
  split at h
  · rename_i he
    cases h
    have : f = 9 := by simpa using he
    subst this
    exact ⟨rfl, awakeRun⟩
  · cases h
def X : Extra Tryd.prog 2 := (extKnown mixed (objs := objs) rfl (Nat.le_refl _) hK).or (Extra.none Tryd.prog 2)
noncomputable def C : Callees := callsX X
theorem C_ok : CalleesOk Tryd.prog 2 C := callsX_ok mixed X
theorem o16 : Opens C 16 n16 := opens_of c16
theorem o23 : Opens C 23 n23 := opens_of c23
theorem o44 : Opens C 44 n44 := opens_of c44
theorem o45 : Opens C 45 n45 := opens_of c45
theorem o48 : Opens C 48 n48 := opens_of c48
theorem o49 : Opens C 49 n49 := opens_of c49
end Go.E.Cb
