/- The functions of combine, as the evaluator reads them (printed by a program, checked by the kernel): names and numbers. -/
import Derived.Test.YtnbjnjichhepiaaDoorCbBase
import Derived.Test.YtnbjnjichhepiaaDoorEwZr
namespace Go.E.Cb
open Go Go.E Go.Proofs.YtnbjnjichhepiaaDoor.base Go.Proofs.YtnbjnjichhepiaaDoor Go.Proofs
set_option linter.unusedVariables false
set_option maxRecDepth 100000
noncomputable def n16 : NFunc := ⟨10, [.tmp 4],
  .seq (.region [zE 4 (.mov (.c (.bool false)))]) (.seq (.region [zA 5 0,
  zE 6 (.b2s (.t 5)),
  zA 7 1,
  zE 8 (.b2s (.t 7)),
  zE 9 (.bin .eql (.basic .string) (.t 6) (.t 8)),
  zA 4 9]) (.ret))⟩
theorem c16 : (cProg Tryd.prog 2).fn 16 = some n16 := by kernel_rfl

noncomputable def n23 : NFunc := ⟨8, [.tmp 2],
  .seq (.region [zE 2 (.mov (.c (.slice none 0 0)))]) (.seq (.seq (.region [zA 3 0,
  zE 4 (.bin .eql (.basic (.slice 5)) (.t 3) (.c (.slice none 0 0)))]) (.cond (.t 4) (.seq (.region [zE 2 (.mov (.c (.slice none 0 0)))]) (.ret)) (.skip))) (.seq (.region [zE 5 (.bslice 1 0 [] []),
  zA 6 0,
  zE 7 (.append 1 1 (.t 5) (.t 6)),
  zA 2 7]) (.ret)))⟩
theorem c23 : (cProg Tryd.prog 2).fn 23 = some n23 := by kernel_rfl

noncomputable def n41 : NFunc := ⟨13, [.tmp 2],
  .seq (.region [zE 2 (.mov (.c (.int .i64 0)))]) (.seq (.block 0 (.seq (.region [zA 4 0,
  zE 5 (.bin .eql (.basic .string) (.t 4) (.c (.string ⟨#[]⟩))),
  zA 3 5]) (.cond (.t 3) (.seq (.region [zE 2 (.mov (.c (.int .i64 9)))]) (.ret)) (.seq (.region [zA 7 0,
  zE 8 (.len 0 (.t 7)),
  zE 9 (.bin .gtr (.basic .bool) (.t 8) (.c (.int .i64 64))),
  zA 6 9]) (.cond (.t 6) (.seq (.region [zE 2 (.mov (.c (.int .i64 21)))]) (.ret)) (.seq (.region [zA 11 0,
  zE 12 (.call (.c (.func (.func 54) #[] #[])) [(.t 11), (.c (.string ⟨#[47, 0]⟩))]),
  zA 10 12]) (.cond (.t 10) (.seq (.region [zE 2 (.mov (.c (.int .i64 14)))]) (.ret)) (.skip)))))))) (.seq (.region [zE 2 (.mov (.c (.int .i64 0)))]) (.ret)))⟩
theorem c41 : (cProg Tryd.prog 2).fn 41 = some n41 := by kernel_rfl

noncomputable def n44 : NFunc := ⟨23, [.tmp 6],
  .seq (.region [zE 6 (.mov (.c (.slice none 0 0)))]) (.seq (.seq (.region [zA 8 2,
  zE 9 (.mov (.c (.int .i64 0)))]) (.block 0 (.loop (.seq (.region [zE 10 (.bin .lss (.basic .bool) (.t 9) (.t 8))]) (.seq (.cond (.t 10) (.skip) (.exit 0)) (.seq (.block 1 (.seq (.region [zA 11 9,
  zA 7 11]) (.region [zA 12 0,
  zA 13 1,
  zE 14 (.convInt .u64 (.t 13)),
  zA 15 7,
  zE 16 (.bin .mul (.basic .bool) (.c (.int .i64 8)) (.t 15)),
  zE 17 (.bin .shr (.basic .bool) (.t 14) (.t 16)),
  zE 18 (.convInt .u8 (.t 17)),
  zE 19 (.bslice 1 1 [.int .u8 0] [(0, 1, (.t 18))]),
  zE 20 (.append 1 1 (.t 12) (.t 19)),
  zA 0 20]))) (.region [zE 21 (.bin .add (.basic .bool) (.t 9) (.c (.int .i64 1))),
  zA 9 21]))))))) (.seq (.region [zA 22 0,
  zA 6 22]) (.ret)))⟩
theorem c44 : (cProg Tryd.prog 2).fn 44 = some n44 := by kernel_rfl

noncomputable def n48 : NFunc := ⟨23, [.tmp 2],
  .seq (.region [zE 2 (.mov (.c (.int .i64 0)))]) (.seq (.region [zE 3 (.mov (.c (.int .u64 0)))]) (.seq (.seq (.region [zA 6 0,
  zE 7 (.len 1 (.t 6)),
  zE 8 (.mov (.c (.int .i64 0)))]) (.block 0 (.loop (.seq (.region [zE 9 (.bin .lss (.basic .bool) (.t 8) (.t 7))]) (.seq (.cond (.t 9) (.skip) (.exit 0)) (.seq (.block 1 (.seq (.region [zA 10 8,
  zE 11 (.iaddr 1 (.t 6) (.t 8)),
  zD 12 11,
  zA 4 10,
  zA 5 12]) (.region [zA 13 3,
  zA 14 5,
  zE 15 (.convInt .u64 (.t 14)),
  zA 16 4,
  zE 17 (.bin .mul (.basic .bool) (.c (.int .i64 8)) (.t 16)),
  zE 18 (.bin .shl (.basic .bool) (.t 15) (.t 17)),
  zE 19 (.bin .or (.basic .bool) (.t 13) (.t 18)),
  zA 3 19]))) (.region [zE 20 (.bin .add (.basic .bool) (.t 8) (.c (.int .i64 1))),
  zA 8 20]))))))) (.seq (.region [zA 21 3,
  zE 22 (.convInt .i64 (.t 21)),
  zA 2 22]) (.ret))))⟩
theorem c48 : (cProg Tryd.prog 2).fn 48 = some n48 := by kernel_rfl

noncomputable def n54 : NFunc := ⟨9, [.tmp 4],
  .seq (.region [zE 4 (.mov (.c (.bool false)))]) (.seq (.region [zA 5 0,
  zA 6 1,
  zE 7 (.call (.c (.func (.func 67) #[] #[])) [(.t 5), (.t 6)]),
  zE 8 (.bin .geq (.basic .bool) (.t 7) (.c (.int .i64 0))),
  zA 4 8]) (.ret))⟩
theorem c54 : (cProg Tryd.prog 2).fn 54 = some n54 := by kernel_rfl

noncomputable def n67 : NFunc := ⟨55, [.tmp 4],
  .seq (.region [zE 4 (.mov (.c (.int .i64 0)))]) (.seq (.seq (.region [zA 11 1,
  zE 12 (.bin .eql (.basic .string) (.t 11) (.c (.string ⟨#[]⟩)))]) (.cond (.t 12) (.seq (.region [zE 4 (.mov (.c (.int .i64 (-1))))]) (.ret)) (.skip))) (.seq (.seq (.region [zA 13 1,
  zE 14 (.len 0 (.t 13)),
  zE 15 (.bin .eql (.basic (.int .i64)) (.t 14) (.c (.int .i64 1)))]) (.cond (.t 15) (.seq (.region [zA 16 1,
  zE 17 (.idxStr (.t 16) (.c (.int .i64 0))),
  zE 18 (.convInt .i32 (.t 17)),
  zA 5 18]) (.seq (.seq (.region [zA 19 5,
  zE 20 (.bin .geq (.basic .bool) (.t 19) (.c (.int .i32 128)))]) (.cond (.t 20) (.region [zE 5 (.mov (.c (.int .i32 65533)))]) (.skip))) (.seq (.region [zA 21 0,
  zA 22 5,
  zE 23 (.call (.c (.func (.func 90) #[] #[])) [(.t 21), (.t 22)]),
  zA 4 23]) (.ret)))) (.skip))) (.seq (.seq (.region [zA 24 0,
  zE 25 (.len 0 (.t 24)),
  zE 26 (.call (.c (.func (.func 91) #[] #[])) [(.t 25)])]) (.cond (.t 26) (.seq (.region [zA 28 1,
  zE 29 (.call (.c (.func (.func 92) #[] #[])) [(.t 28)]),
  zA 27 29,
  zE 30 (.extract (.t 27) 0),
  zE 31 (.extract (.t 27) 1),
  zE 6 (.alloc 0 [.bool false, .bool false, .bool false, .bool false, .bool false, .bool false, .bool false, .bool false, .bool false, .bool false, .bool false, .bool false, .bool false, .bool false, .bool false, .bool false, .bool false, .bool false, .bool false, .bool false, .bool false, .bool false, .bool false, .bool false, .bool false, .bool false, .bool false, .bool false, .bool false, .bool false, .bool false, .bool false, .bool false, .bool false, .bool false, .bool false, .bool false, .bool false, .bool false, .bool false, .bool false, .bool false, .bool false, .bool false, .bool false, .bool false, .bool false, .bool false, .bool false, .bool false, .bool false, .bool false, .bool false, .bool false, .bool false, .bool false, .bool false, .bool false, .bool false, .bool false, .bool false, .bool false, .bool false, .bool false, .bool false, .bool false, .bool false, .bool false, .bool false, .bool false, .bool false, .bool false, .bool false, .bool false, .bool false, .bool false, .bool false, .bool false, .bool false, .bool false, .bool false, .bool false, .bool false, .bool false, .bool false, .bool false, .bool false, .bool false, .bool false, .bool false, .bool false, .bool false, .bool false, .bool false, .bool false, .bool false, .bool false, .bool false, .bool false, .bool false, .bool false, .bool false, .bool false, .bool false, .bool false, .bool false, .bool false, .bool false, .bool false, .bool false, .bool false, .bool false, .bool false, .bool false, .bool false, .bool false, .bool false, .bool false, .bool false, .bool false, .bool false, .bool false, .bool false, .bool false, .bool false, .bool false, .bool false, .bool false, .bool false, .bool false, .bool false, .bool false, .bool false, .bool false, .bool false, .bool false, .bool false, .bool false, .bool false, .bool false, .bool false, .bool false, .bool false, .bool false, .bool false, .bool false, .bool false, .bool false, .bool false, .bool false, .bool false, .bool false, .bool false, .bool false, .bool false, .bool false, .bool false, .bool false, .bool false, .bool false, .bool false, .bool false, .bool false, .bool false, .bool false, .bool false, .bool false, .bool false, .bool false, .bool false, .bool false, .bool false, .bool false, .bool false, .bool false, .bool false, .bool false, .bool false, .bool false, .bool false, .bool false, .bool false, .bool false, .bool false, .bool false, .bool false, .bool false, .bool false, .bool false, .bool false, .bool false, .bool false, .bool false, .bool false, .bool false, .bool false, .bool false, .bool false, .bool false, .bool false, .bool false, .bool false, .bool false, .bool false, .bool false, .bool false, .bool false, .bool false, .bool false, .bool false, .bool false, .bool false, .bool false, .bool false, .bool false, .bool false, .bool false, .bool false, .bool false, .bool false, .bool false, .bool false, .bool false, .bool false, .bool false, .bool false, .bool false, .bool false, .bool false, .bool false, .bool false, .bool false, .bool false, .bool false, .bool false, .bool false, .bool false, .bool false, .bool false, .bool false, .bool false, .bool false, .bool false, .bool false, .bool false, .bool false, .bool false, .bool false, .bool false, .bool false, .bool false, .bool false, .bool false, .bool false, .bool false, .bool false]),
  ⟨none, .store 256 (.t 6) (.t 30), none⟩,
  zA 7 31]) (.seq (.region [zA 32 7]) (.cond (.t 32) (.seq (.seq (.region [zE 8 (.mov (.c (.int .i64 0)))]) (.block 0 (.loop (.seq (.seq (.region [zA 33 8,
  zA 34 0,
  zE 35 (.len 0 (.t 34)),
  zE 36 (.bin .lss (.basic .bool) (.t 33) (.t 35))]) (.cond (.t 36) (.skip) (.exit 0))) (.seq (.block 1 (.seq (.region [zA 39 0,
  zA 40 8,
  zE 41 (.idxStr (.t 39) (.t 40)),
  zE 42 (.call (.c (.func (.func 93) #[] #[])) [(.t 6), (.t 41)])]) (.cond (.t 42) (.seq (.region [zA 43 8,
  zA 4 43]) (.ret)) (.skip)))) (.region [zA 37 8,
  zE 38 (.bin .add (.basic .bool) (.t 37) (.c (.int .i64 1))),
  zA 8 38])))))) (.seq (.region [zE 4 (.mov (.c (.int .i64 (-1))))]) (.ret))) (.skip)))) (.skip))) (.seq (.seq (.region [zA 44 0,
  zE 45 (.rangeS (.t 44))]) (.block 2 (.loop (.seq (.region [zE 46 (.nextS (.t 45)),
  zE 47 (.extract (.t 46) 0)]) (.seq (.cond (.t 47) (.skip) (.exit 2)) (.block 3 (.seq (.region [zE 48 (.extract (.t 46) 1),
  zE 49 (.extract (.t 46) 2),
  zA 9 48,
  zA 10 49]) (.seq (.region [zA 50 1,
  zA 51 10,
  zE 52 (.call (.c (.func (.func 90) #[] #[])) [(.t 50), (.t 51)]),
  zE 53 (.bin .geq (.basic .bool) (.t 52) (.c (.int .i64 0)))]) (.cond (.t 53) (.seq (.region [zA 54 9,
  zA 4 54]) (.ret)) (.skip)))))))))) (.seq (.region [zE 4 (.mov (.c (.int .i64 (-1))))]) (.ret))))))⟩
theorem c67 : (cProg Tryd.prog 2).fn 67 = some n67 := by kernel_rfl

noncomputable def n90 : NFunc := ⟨187, [.tmp 4],
  .seq (.region [zE 4 (.mov (.c (.int .i64 0)))]) (.block 0 (.seq (.region [zA 161 1,
  zE 162 (.bin .leq (.basic .bool) (.c (.int .i32 0)) (.t 161)),
  zA 163 162,
  zF 164 163 true (.mov (.t 1)),
  zF 165 163 true (.bin .lss (.basic .bool) (.t 164) (.c (.int .i32 128))),
  zE 166 (.pick (.t 163) (.t 165) (.c (.bool false))),
  zA 160 166]) (.cond (.t 160) (.seq (.region [zA 167 0,
  zA 168 1,
  zE 169 (.convInt .u8 (.t 168)),
  zE 170 (.call (.c (.func (.func 104) #[] #[])) [(.t 167), (.t 169)]),
  zA 4 170]) (.ret)) (.seq (.region [zA 172 1,
  zE 173 (.bin .eql (.basic (.int .i32)) (.t 172) (.c (.int .i32 65533))),
  zA 171 173]) (.cond (.t 171) (.seq (.seq (.region [zA 174 0,
  zE 175 (.rangeS (.t 174))]) (.block 9 (.loop (.seq (.region [zE 176 (.nextS (.t 175)),
  zE 177 (.extract (.t 176) 0)]) (.seq (.cond (.t 177) (.skip) (.exit 9)) (.block 10 (.seq (.region [zE 178 (.extract (.t 176) 1),
  zE 179 (.extract (.t 176) 2),
  zA 5 178,
  zA 6 179]) (.seq (.region [zA 180 6,
  zE 181 (.bin .eql (.basic (.int .i32)) (.t 180) (.c (.int .i32 65533)))]) (.cond (.t 181) (.seq (.region [zA 182 5,
  zA 4 182]) (.ret)) (.skip)))))))))) (.seq (.region [zE 4 (.mov (.c (.int .i64 (-1))))]) (.ret))) (.seq (.region [zA 184 1,
  zE 185 (.call (.c (.func (.func 105) #[] #[])) [(.t 184)]),
  zE 186 (.un .not (.t 185)),
  zA 183 186]) (.cond (.t 183) (.seq (.region [zE 4 (.mov (.c (.int .i64 (-1))))]) (.ret)) (.seq (.region [zA 17 1,
  zE 18 (.i2s (.t 17)),
  zA 7 18]) (.seq (.region [zA 19 7,
  zE 20 (.len 0 (.t 19)),
  zE 21 (.bin .sub (.basic .bool) (.t 20) (.c (.int .i64 1))),
  zA 8 21]) (.seq (.region [zA 22 8,
  zA 9 22]) (.seq (.region [zE 10 (.mov (.c (.int .i64 0)))]) (.seq (.block 1 (.loop (.seq (.seq (.region [zA 23 9,
  zA 24 0,
  zE 25 (.len 0 (.t 24)),
  zE 26 (.bin .lss (.basic .bool) (.t 23) (.t 25))]) (.cond (.t 26) (.skip) (.exit 1))) (.block 2 (.seq (.seq (.regionD [zA 27 0,
  zA 28 9,
  zE 29 (.idxStr (.t 27) (.t 28)),
  zA 30 7,
  zA 31 8,
  zE 32 (.idxStr (.t 30) (.t 31)),
  zE 33 (.bin .neq (.basic (.int .u8)) (.t 29) (.t 32))] [[], [], [], [], [], [], []]) (.cond (.t 33) (.seq (.regionD [zA 34 0,
  zA 35 9,
  zE 36 (.bin .add (.basic .bool) (.t 35) (.c (.int .i64 1))),
  zE 37 (.sliceStr (.t 34) (some (.t 36)) none),
  zA 38 7,
  zA 39 8,
  zE 40 (.idxStr (.t 38) (.t 39)),
  zE 41 (.call (.c (.func (.func 104) #[] #[])) [(.t 37), (.t 40)]),
  zA 11 41] [[], [], [], [], [], [], [], [], []]) (.seq (.seq (.region [zA 42 11,
  zE 43 (.bin .lss (.basic .bool) (.t 42) (.c (.int .i64 0)))]) (.cond (.t 43) (.seq (.region [zE 4 (.mov (.c (.int .i64 (-1))))]) (.ret)) (.skip))) (.region [zA 44 9,
  zA 45 11,
  zE 46 (.bin .add (.basic .bool) (.t 45) (.c (.int .i64 1))),
  zE 47 (.bin .add (.basic .bool) (.t 44) (.t 46)),
  zA 9 47]))) (.skip))) (.seq (.seq (.region [zE 12 (.mov (.c (.int .i64 1)))]) (.block 3 (.loop (.seq (.seq (.region [zA 48 12,
  zA 49 7,
  zE 50 (.len 0 (.t 49)),
  zE 51 (.bin .lss (.basic .bool) (.t 48) (.t 50))]) (.cond (.t 51) (.skip) (.exit 3))) (.seq (.block 4 (.seq (.regionD [zA 54 0,
  zA 55 9,
  zA 56 12,
  zE 57 (.bin .sub (.basic .bool) (.t 55) (.t 56)),
  zE 58 (.idxStr (.t 54) (.t 57)),
  zA 59 7,
  zA 60 8,
  zA 61 12,
  zE 62 (.bin .sub (.basic .bool) (.t 60) (.t 61)),
  zE 63 (.idxStr (.t 59) (.t 62)),
  zE 64 (.bin .neq (.basic (.int .u8)) (.t 58) (.t 63))] [[], [], [], [], [], [], [], [], [], [], []]) (.cond (.t 64) (.stuck) (.skip)))) (.region [zA 52 12,
  zE 53 (.bin .add (.basic .bool) (.t 52) (.c (.int .i64 1))),
  zA 12 53])))))) (.seq (.seq (.region [zA 65 9,
  zA 66 8,
  zE 67 (.bin .sub (.basic .bool) (.t 65) (.t 66)),
  zA 4 67]) (.ret)) (.seq (.skip) (.seq (.region [zA 68 10,
  zE 69 (.bin .add (.basic .bool) (.t 68) (.c (.int .i64 1))),
  zA 10 69]) (.seq (.region [zA 70 9,
  zE 71 (.bin .add (.basic .bool) (.t 70) (.c (.int .i64 1))),
  zA 9 71]) (.seq (.region [zE 72 (.mov (.c (.bool true))),
  zF 73 72 true (.mov (.t 10)),
  zF 74 72 true (.mov (.t 9)),
  zF 75 72 true (.call (.c (.func (.func 106) #[] #[])) [(.t 74)]),
  zF 76 72 true (.bin .gtr (.basic .bool) (.t 73) (.t 75)),
  zE 77 (.pick (.t 72) (.t 76) (.c (.bool false))),
  zA 78 77,
  zF 79 78 true (.mov (.t 9)),
  zF 80 78 true (.mov (.t 0)),
  zF 81 78 true (.len 0 (.t 80)),
  zF 82 78 true (.bin .lss (.basic .bool) (.t 79) (.t 81)),
  zE 83 (.pick (.t 78) (.t 82) (.c (.bool false))),
  zA 84 83,
  zF 85 84 false (.mov (.c (.bool false))),
  zF 86 85 true (.mov (.t 10)),
  zF 87 85 true (.mov (.t 9)),
  zF 88 85 true (.bin .shr (.basic .bool) (.t 87) (.c (.int .u64 4))),
  zF 89 85 true (.bin .add (.basic .bool) (.c (.int .i64 4)) (.t 88)),
  zF 90 85 true (.bin .geq (.basic .bool) (.t 86) (.t 89)),
  zF 91 84 false (.pick (.t 85) (.t 90) (.c (.bool false))),
  zF 92 84 false (.mov (.t 91)),
  zF 93 92 true (.mov (.t 9)),
  zF 94 92 true (.mov (.t 0)),
  zF 95 92 true (.len 0 (.t 94)),
  zF 96 92 true (.bin .lss (.basic .bool) (.t 93) (.t 95)),
  zF 97 84 false (.pick (.t 92) (.t 96) (.c (.bool false))),
  zE 98 (.pick (.t 84) (.c (.bool true)) (.t 97))]) (.cond (.t 98) (.stuck) (.skip))))))))))))) (.seq (.seq (.region [zE 4 (.mov (.c (.int .i64 (-1))))]) (.ret)) (.seq (.skip) (.seq (.cond (.c (.bool true)) (.seq (.region [zA 99 0,
  zA 100 9,
  zA 101 8,
  zE 102 (.bin .sub (.basic .bool) (.t 100) (.t 101)),
  zE 103 (.sliceStr (.t 99) (some (.t 102)) none),
  zA 104 1,
  zE 105 (.i2s (.t 104)),
  zE 106 (.call (.c (.func (.func 107) #[] #[])) [(.t 103), (.t 105)]),
  zA 13 106]) (.seq (.region [zA 107 13,
  zE 108 (.bin .geq (.basic .bool) (.t 107) (.c (.int .i64 0)))]) (.cond (.t 108) (.seq (.region [zA 109 9,
  zA 110 13,
  zE 111 (.bin .add (.basic .bool) (.t 109) (.t 110)),
  zA 112 8,
  zE 113 (.bin .sub (.basic .bool) (.t 111) (.t 112)),
  zA 4 113]) (.ret)) (.skip)))) (.seq (.region [zA 114 7,
  zA 115 8,
  zE 116 (.idxStr (.t 114) (.t 115)),
  zA 14 116]) (.seq (.region [zA 117 7,
  zA 118 8,
  zE 119 (.bin .sub (.basic .bool) (.t 118) (.c (.int .i64 1))),
  zE 120 (.idxStr (.t 117) (.t 119)),
  zA 15 120]) (.seq (.skip) (.block 5 (.loop (.seq (.seq (.region [zA 121 9,
  zA 122 0,
  zE 123 (.len 0 (.t 122)),
  zE 124 (.bin .lss (.basic .bool) (.t 121) (.t 123))]) (.cond (.t 124) (.skip) (.exit 5))) (.seq (.block 6 (.seq (.region [zA 127 0,
  zA 128 9,
  zE 129 (.idxStr (.t 127) (.t 128)),
  zA 130 14,
  zE 131 (.bin .eql (.basic (.int .u8)) (.t 129) (.t 130)),
  zA 132 131,
  zF 133 132 true (.mov (.t 0)),
  zF 134 132 true (.mov (.t 9)),
  zF 135 132 true (.bin .sub (.basic .bool) (.t 134) (.c (.int .i64 1))),
  zF 136 132 true (.idxStr (.t 133) (.t 135)),
  zF 137 132 true (.mov (.t 15)),
  zF 138 132 true (.bin .eql (.basic (.int .u8)) (.t 136) (.t 137)),
  zE 139 (.pick (.t 132) (.t 138) (.c (.bool false)))]) (.cond (.t 139) (.seq (.seq (.region [zE 16 (.mov (.c (.int .i64 2)))]) (.block 7 (.loop (.seq (.seq (.region [zA 140 16,
  zA 141 7,
  zE 142 (.len 0 (.t 141)),
  zE 143 (.bin .lss (.basic .bool) (.t 140) (.t 142))]) (.cond (.t 143) (.skip) (.exit 7))) (.seq (.block 8 (.seq (.regionD [zA 146 0,
  zA 147 9,
  zA 148 16,
  zE 149 (.bin .sub (.basic .bool) (.t 147) (.t 148)),
  zE 150 (.idxStr (.t 146) (.t 149)),
  zA 151 7,
  zA 152 8,
  zA 153 16,
  zE 154 (.bin .sub (.basic .bool) (.t 152) (.t 153)),
  zE 155 (.idxStr (.t 151) (.t 154)),
  zE 156 (.bin .neq (.basic (.int .u8)) (.t 150) (.t 155))] [[], [], [], [], [], [], [], [], [], [], []]) (.cond (.t 156) (.exit 6) (.skip)))) (.region [zA 144 16,
  zE 145 (.bin .add (.basic .bool) (.t 144) (.c (.int .i64 1))),
  zA 16 145])))))) (.seq (.region [zA 157 9,
  zA 158 8,
  zE 159 (.bin .sub (.basic .bool) (.t 157) (.t 158)),
  zA 4 159]) (.ret))) (.skip)))) (.region [zA 125 9,
  zE 126 (.bin .add (.basic .bool) (.t 125) (.c (.int .i64 1))),
  zA 9 126]))))))))) (.seq (.region [zE 4 (.mov (.c (.int .i64 (-1))))]) (.ret)))))))))))))))))⟩
theorem c90 : (cProg Tryd.prog 2).fn 90 = some n90 := by kernel_rfl

noncomputable def n91 : NFunc := ⟨5, [.tmp 2],
  .seq (.region [zE 2 (.mov (.c (.bool false)))]) (.seq (.region [zA 3 0,
  zE 4 (.bin .gtr (.basic .bool) (.t 3) (.c (.int .i64 8))),
  zA 2 4]) (.ret))⟩
theorem c91 : (cProg Tryd.prog 2).fn 91 = some n91 := by kernel_rfl

noncomputable def n92 : NFunc := ⟨21, [.cell 2 (some 256), .tmp 3],
  .seq (.region [zE 2 (.alloc 0 [.bool false, .bool false, .bool false, .bool false, .bool false, .bool false, .bool false, .bool false, .bool false, .bool false, .bool false, .bool false, .bool false, .bool false, .bool false, .bool false, .bool false, .bool false, .bool false, .bool false, .bool false, .bool false, .bool false, .bool false, .bool false, .bool false, .bool false, .bool false, .bool false, .bool false, .bool false, .bool false, .bool false, .bool false, .bool false, .bool false, .bool false, .bool false, .bool false, .bool false, .bool false, .bool false, .bool false, .bool false, .bool false, .bool false, .bool false, .bool false, .bool false, .bool false, .bool false, .bool false, .bool false, .bool false, .bool false, .bool false, .bool false, .bool false, .bool false, .bool false, .bool false, .bool false, .bool false, .bool false, .bool false, .bool false, .bool false, .bool false, .bool false, .bool false, .bool false, .bool false, .bool false, .bool false, .bool false, .bool false, .bool false, .bool false, .bool false, .bool false, .bool false, .bool false, .bool false, .bool false, .bool false, .bool false, .bool false, .bool false, .bool false, .bool false, .bool false, .bool false, .bool false, .bool false, .bool false, .bool false, .bool false, .bool false, .bool false, .bool false, .bool false, .bool false, .bool false, .bool false, .bool false, .bool false, .bool false, .bool false, .bool false, .bool false, .bool false, .bool false, .bool false, .bool false, .bool false, .bool false, .bool false, .bool false, .bool false, .bool false, .bool false, .bool false, .bool false, .bool false, .bool false, .bool false, .bool false, .bool false, .bool false, .bool false, .bool false, .bool false, .bool false, .bool false, .bool false, .bool false, .bool false, .bool false, .bool false, .bool false, .bool false, .bool false, .bool false, .bool false, .bool false, .bool false, .bool false, .bool false, .bool false, .bool false, .bool false, .bool false, .bool false, .bool false, .bool false, .bool false, .bool false, .bool false, .bool false, .bool false, .bool false, .bool false, .bool false, .bool false, .bool false, .bool false, .bool false, .bool false, .bool false, .bool false, .bool false, .bool false, .bool false, .bool false, .bool false, .bool false, .bool false, .bool false, .bool false, .bool false, .bool false, .bool false, .bool false, .bool false, .bool false, .bool false, .bool false, .bool false, .bool false, .bool false, .bool false, .bool false, .bool false, .bool false, .bool false, .bool false, .bool false, .bool false, .bool false, .bool false, .bool false, .bool false, .bool false, .bool false, .bool false, .bool false, .bool false, .bool false, .bool false, .bool false, .bool false, .bool false, .bool false, .bool false, .bool false, .bool false, .bool false, .bool false, .bool false, .bool false, .bool false, .bool false, .bool false, .bool false, .bool false, .bool false, .bool false, .bool false, .bool false, .bool false, .bool false, .bool false, .bool false, .bool false, .bool false, .bool false, .bool false, .bool false, .bool false, .bool false, .bool false, .bool false, .bool false, .bool false, .bool false, .bool false, .bool false, .bool false, .bool false, .bool false, .bool false, .bool false, .bool false, .bool false, .bool false, .bool false]),
  zE 3 (.mov (.c (.bool false)))]) (.seq (.seq (.region [zE 4 (.mov (.c (.int .i64 0)))]) (.block 0 (.loop (.seq (.seq (.region [zA 6 4,
  zA 7 0,
  zE 8 (.len 0 (.t 7)),
  zE 9 (.bin .lss (.basic .bool) (.t 6) (.t 8))]) (.cond (.t 9) (.skip) (.exit 0))) (.seq (.block 1 (.seq (.region [zA 12 0,
  zA 13 4,
  zE 14 (.idxStr (.t 12) (.t 13)),
  zA 5 14]) (.seq (.seq (.region [zA 15 5,
  zE 16 (.bin .geq (.basic .bool) (.t 15) (.c (.int .u8 128)))]) (.cond (.t 16) (.seq (.region [zE 17 (.loadN 256 (.t 2)),
  ⟨none, .store 256 (.t 2) (.t 17), none⟩,
  zE 3 (.mov (.c (.bool false)))]) (.ret)) (.skip))) (.region [zA 18 5,
  zE 19 (.iaddrArr 256 1 (.t 2) (.t 18)),
  ⟨none, .store 1 (.t 19) (.c (.bool true)), none⟩])))) (.region [zA 10 4,
  zE 11 (.bin .add (.basic .bool) (.t 10) (.c (.int .i64 1))),
  zA 4 11])))))) (.seq (.region [zE 20 (.loadN 256 (.t 2)),
  ⟨none, .store 256 (.t 2) (.t 20), none⟩,
  zE 3 (.mov (.c (.bool true)))]) (.ret)))⟩
theorem c92 : (cProg Tryd.prog 2).fn 92 = some n92 := by kernel_rfl

noncomputable def n93 : NFunc := ⟨10, [.tmp 4],
  .seq (.region [zE 4 (.mov (.c (.bool false)))]) (.seq (.region [zA 5 0,
  zA 6 1,
  zB 7 5,
  zE 8 (.iaddrArr 256 1 (.t 7) (.t 6)),
  zD 9 8,
  zA 4 9]) (.ret))⟩
theorem c93 : (cProg Tryd.prog 2).fn 93 = some n93 := by kernel_rfl

noncomputable def n104 : NFunc := ⟨8, [.tmp 4],
  .seq (.region [zE 4 (.mov (.c (.int .i64 0)))]) (.seq (.region [zA 5 0,
  zA 6 1,
  zE 7 (.call (.c (.func (.func 110) #[] #[])) [(.t 5), (.t 6)]),
  zA 4 7]) (.ret))⟩
theorem c104 : (cProg Tryd.prog 2).fn 104 = some n104 := by kernel_rfl

noncomputable def n105 : NFunc := ⟨17, [.tmp 2],
  .seq (.region [zE 2 (.mov (.c (.bool false)))]) (.seq (.block 0 (.seq (.region [zA 4 0,
  zE 5 (.bin .leq (.basic .bool) (.c (.int .i32 0)) (.t 4)),
  zA 6 5,
  zF 7 6 true (.mov (.t 0)),
  zF 8 6 true (.bin .lss (.basic .bool) (.t 7) (.c (.int .i32 55296))),
  zE 9 (.pick (.t 6) (.t 8) (.c (.bool false))),
  zA 3 9]) (.cond (.t 3) (.seq (.region [zE 2 (.mov (.c (.bool true)))]) (.ret)) (.seq (.region [zA 11 0,
  zE 12 (.bin .lss (.basic .bool) (.c (.int .i32 57343)) (.t 11)),
  zA 13 12,
  zF 14 13 true (.mov (.t 0)),
  zF 15 13 true (.bin .leq (.basic .bool) (.t 14) (.c (.int .i32 1114111))),
  zE 16 (.pick (.t 13) (.t 15) (.c (.bool false))),
  zA 10 16]) (.cond (.t 10) (.seq (.region [zE 2 (.mov (.c (.bool true)))]) (.ret)) (.skip)))))) (.seq (.region [zE 2 (.mov (.c (.bool false)))]) (.ret)))⟩
theorem c105 : (cProg Tryd.prog 2).fn 105 = some n105 := by kernel_rfl

noncomputable def n110 : NFunc := ⟨8, [.tmp 4],
  .seq (.region [zE 4 (.mov (.c (.int .i64 0)))]) (.seq (.region [zA 5 0,
  zA 6 1,
  zE 7 (.ixByteS (.t 5) (.t 6)),
  zA 4 7]) (.ret))⟩
theorem c110 : (cProg Tryd.prog 2).fn 110 = some n110 := by kernel_rfl


def K : List (Nat × Value) := [(9, .bool true)]
theorem awakeRun : (callN (cProg Tryd.prog 2) 60 (.fn 9) [] (startH objs)).map (·.1) = some (.bool true) := by kernel_rfl
theorem hK : ∀ f v, K.lookup f = some v → plainV v = true ∧ (callN (cProg Tryd.prog 2) 60 (.fn f) [] (startH objs)).map (·.1) = some v := by
  intro f v h
  unfold K at h
  simp only [List.lookup] at h
  split at h
  · rename_i he
    cases h
    have : f = 9 := by simpa using he
    subst this
    exact ⟨rfl, awakeRun⟩
  · cases h
def X : Extra Tryd.prog 2 := (extKnown mixed (objs := objs) rfl (Nat.le_refl _) hK).or (Extra.none Tryd.prog 2)
noncomputable def C : Callees := callsX X
theorem C_ok : CalleesOk Tryd.prog 2 C := callsX_ok mixed X
theorem o16 : Opens C 16 n16 := opens_of c16
theorem o23 : Opens C 23 n23 := opens_of c23
theorem o41 : Opens C 41 n41 := opens_of c41
theorem o44 : Opens C 44 n44 := opens_of c44
theorem o48 : Opens C 48 n48 := opens_of c48
theorem o54 : Opens C 54 n54 := opens_of c54
theorem o67 : Opens C 67 n67 := opens_of c67
theorem o90 : Opens C 90 n90 := opens_of c90
theorem o91 : Opens C 91 n91 := opens_of c91
theorem o92 : Opens C 92 n92 := opens_of c92
theorem o93 : Opens C 93 n93 := opens_of c93
theorem o104 : Opens C 104 n104 := opens_of c104
theorem o105 : Opens C 105 n105 := opens_of c105
theorem o110 : Opens C 110 n110 := opens_of c110
end Go.E.Cb
