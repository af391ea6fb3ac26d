/- What the proof needs, part 2: a sound evaluator over trees, the program's functions on it, and what they come to. -/
import Derived.Test.YtjiahcekpohehaaMa
import Derived.Test.YtjiahcekpohehaaProg
import Derived.KernelRfl
set_option linter.unusedVariables false
set_option linter.unusedSimpArgs false
set_option maxRecDepth 100000
namespace Go.Proofs.Ytjiahcekpohehaa.Abs
section
open Go
variable {β : Type}
noncomputable def tis : List (Option TI) := [none,
 none,
 some ⟨false, false, 1, 8, [(.int .i64 0)], 0, [], some .i64, false, false, [2], false⟩,
 some ⟨false, false, 1, 8, [(.int .i64 0)], 0, [], some .i64, false, false, [3], false⟩,
 some ⟨false, false, 1, 1, [(.bool false)], 0, [], none, false, true, [4], false⟩,
 some ⟨false, false, 1, 1, [(.int .u8 0)], 0, [], some .u8, false, false, [5], false⟩,
 some ⟨false, false, 1, 1, [(.int .u8 0)], 0, [], some .u8, false, false, [6], false⟩,
 none,
 none,
 some ⟨false, false, 1, 16, [(.string ⟨#[]⟩)], 0, [], none, true, false, [9], false⟩,
 some ⟨false, false, 1, 16, [(.string ⟨#[]⟩)], 0, [], none, true, false, [10], false⟩,
 some ⟨false, false, 1, 16, [(.string ⟨#[]⟩)], 0, [], none, true, false, [11], false⟩,
 some ⟨false, false, 1, 8, [(.int .u64 0)], 0, [], some .u64, false, false, [12], false⟩,
 none,
 none,
 none,
 none,
 none,
 none,
 none,
 none,
 some ⟨false, false, 1, 4, [(.int .i32 0)], 0, [], some .i32, false, false, [21], false⟩,
 some ⟨false, true, 1, 24, [(.slice none 0 0)], 5, [], none, false, false, [22], false⟩,
 none,
 some ⟨false, true, 1, 24, [(.slice none 0 0)], 117, [], none, false, false, [24], false⟩,
 none,
 some ⟨true, false, 2, 32, [(.int .i64 0), (.slice none 0 0)], 0, [(0, 3), (1, 24)], none, false, false, [3, 24], false⟩,
 none,
 none,
 none,
 none,
 none,
 some ⟨false, true, 1, 24, [(.slice none 0 0)], 9, [], none, false, false, [32], false⟩,
 none,
 none,
 none,
 none,
 none,
 none,
 none,
 some ⟨false, true, 1, 24, [(.slice none 0 0)], 26, [], none, false, false, [40], false⟩,
 none,
 none,
 none,
 none,
 none,
 none,
 none,
 none,
 none,
 none,
 none,
 none,
 some ⟨false, true, 1, 24, [(.slice none 0 0)], 3, [], none, false, false, [53], false⟩,
 none,
 none,
 none,
 none,
 none,
 none,
 none,
 some ⟨false, false, 1, 8, [(.pointer none)], 0, [], none, false, false, [61], false⟩,
 none,
 none,
 none,
 none,
 none,
 none,
 none,
 none,
 none,
 some ⟨false, true, 1, 24, [(.slice none 0 0)], 78, [], none, false, false, [71], false⟩,
 none,
 some ⟨true, false, 4, 56, [(.string ⟨#[]⟩), (.slice none 0 0), (.int .i64 0), (.bool false)], 0, [(0, 9), (1, 22), (2, 3), (3, 4)], none, false, false, [9, 22, 3, 4], false⟩,
 none,
 none,
 some ⟨false, true, 1, 24, [(.slice none 0 0)], 148, [], none, false, false, [76], false⟩,
 none,
 some ⟨true, false, 25, 320, [(.int .i64 0), (.bool false), (.int .i64 0), (.bool false), (.int .i64 0), (.string ⟨#[]⟩), (.slice none 0 0), (.string ⟨#[]⟩), (.int .i64 0), (.bool false), (.int .i64 0), (.bool false), (.string ⟨#[]⟩), (.slice none 0 0), (.int .i64 0), (.bool false), (.bool false), (.string ⟨#[]⟩), (.bool false), (.slice none 0 0), (.int .i64 0), (.bool false), (.slice none 0 0), (.slice none 0 0), (.slice none 0 0)], 0, [(0, 3), (1, 4), (2, 3), (3, 4), (4, 3), (5, 9), (6, 22), (7, 9), (8, 3), (9, 4), (10, 3), (11, 4), (12, 9), (13, 22), (14, 3), (15, 4), (16, 4), (17, 9), (18, 4), (19, 22), (20, 3), (21, 4), (22, 76), (23, 32), (24, 53)], none, false, false, [3, 4, 3, 4, 3, 9, 22, 9, 3, 4, 3, 4, 9, 22, 3, 4, 4, 9, 4, 22, 3, 4, 76, 32, 53], false⟩,
 some ⟨false, true, 1, 24, [(.slice none 0 0)], 73, [], none, false, false, [79], false⟩,
 none,
 none,
 none,
 none,
 none,
 none,
 none,
 none,
 none,
 none,
 none,
 none,
 none,
 none,
 none,
 none,
 none,
 none,
 none,
 none,
 none,
 none,
 none,
 none,
 none,
 none,
 none,
 none,
 none,
 none,
 none,
 none,
 some ⟨true, false, 3, 40, [(.slice none 0 0), (.int .i64 0), (.int .i64 0)], 0, [(0, 22), (1, 3), (2, 3)], none, false, false, [22, 3, 3], false⟩,
 some ⟨false, true, 1, 24, [(.slice none 0 0)], 188, [], none, false, false, [113], false⟩,
 none,
 some ⟨true, false, 3, 56, [(.int .i64 0), (.slice none 0 0), (.slice none 0 0)], 0, [(0, 3), (1, 113), (2, 79)], none, false, false, [3, 113, 79], false⟩,
 none,
 some ⟨true, false, 9, 128, [(.string ⟨#[]⟩), (.int .i64 0), (.bool false), (.int .i64 0), (.int .i64 0), (.int .i64 0), (.slice none 0 0), (.slice none 0 0), (.slice none 0 0)], 0, [(0, 9), (1, 3), (2, 4), (3, 3), (4, 3), (5, 115), (8, 53)], none, false, false, [9, 3, 4, 3, 3, 3, 113, 79, 53], false⟩,
 none,
 none,
 none,
 none,
 none,
 none,
 none,
 none,
 none,
 none,
 none,
 none,
 none,
 none,
 none,
 none,
 none,
 none,
 none,
 none,
 none,
 none,
 none,
 none,
 none,
 none,
 none,
 none,
 none,
 none,
 some ⟨true, false, 2, 24, [(.string ⟨#[]⟩), (.int .i64 0)], 0, [(0, 9), (1, 3)], none, false, false, [9, 3], true⟩,
 none,
 none,
 none,
 none,
 none,
 none,
 none,
 none,
 none,
 none,
 none,
 none,
 none,
 none,
 none,
 none,
 none,
 none,
 none,
 none,
 none,
 none,
 none,
 none,
 none,
 none,
 none,
 none,
 none,
 none,
 none,
 none,
 none,
 none,
 none,
 none,
 none,
 none,
 none,
 some ⟨true, false, 6, 72, [(.int .i64 0), (.string ⟨#[]⟩), (.slice none 0 0), (.int .i64 0), (.bool false), (.int .i64 0)], 0, [(0, 3), (1, 73), (5, 3)], none, false, false, [3, 9, 22, 3, 4, 3], false⟩,
 none,
 none,
 none,
 none,
 none,
 none,
 none,
 none,
 none,
 none,
 none,
 none,
 none,
 none,
 none,
 none,
 none,
 none,
 none,
 none,
 none,
 none,
 none,
 none,
 none,
 none,
 none,
 none,
 none,
 none,
 none,
 none,
 none,
 some ⟨false, true, 1, 24, [(.slice none 0 0)], 22, [], none, false, false, [222], false⟩]
noncomputable def Bt (f : Func) : Code := match f.body with | some c => c | none => .skip
noncomputable def c6 : Code := Bt Try.f6
noncomputable def c26 : Code := Bt Try.f26
noncomputable def c65 : Code := Bt Try.f65
noncomputable def c29 : Code := Bt Try.f29
noncomputable def c64 : Code := Bt Try.f64
noncomputable def c28 : Code := Bt Try.f28
noncomputable def Ai1 : Code := Bt Try.f154
noncomputable def Ahs : Code := Bt Try.f180
noncomputable def Ahd : Code := Bt Try.f170
noncomputable def AiB : Code := Bt Try.f153
noncomputable def AgZ : Code := Bt Try.f186
noncomputable def Ahf : Code := Bt Try.f187
noncomputable def Ait : Code := Bt Try.f181
noncomputable def Ai7 : Code := Bt Try.f171
noncomputable def Ai0 : Code := Bt Try.f172
noncomputable def AgK : Code := Bt Try.f173
noncomputable def Vc : Code := Bt Try.f155
noncomputable def AgW : Code := Bt Try.f156
noncomputable def Aig : Code := Bt Try.f136
noncomputable def Air : Code := Bt Try.f104
noncomputable def Ai4 : Code := Bt Try.f175
noncomputable def Ag9 : Code := Bt Try.f174
noncomputable def Ahq : Code := Bt Try.f157
noncomputable def Aik : Code := Bt Try.f138
noncomputable def Ahc : Code := Bt Try.f105
noncomputable def c32 : Code := Bt Try.f32
noncomputable def Ail : Code := Bt Try.f166
noncomputable def Ahe : Code := Bt Try.f159
noncomputable def AiD : Code := Bt Try.f145
noncomputable def Ag6 : Code := Bt Try.f141
noncomputable def AiA : Code := Bt Try.f160
noncomputable def Aii : Code := Bt Try.f161
noncomputable def AiO : Code := Bt Try.f162
noncomputable def Ahy : Code := Bt Try.f177
noncomputable def AgE : Code := Bt Try.f163
noncomputable def Ahk : Code := Bt Try.f142
noncomputable def Aio : Code := Bt Try.f183
noncomputable def Ai8 : Code := Bt Try.f188
noncomputable def Tc : Code := Bt Try.f182
noncomputable def Ain : Code := Bt Try.f184
noncomputable def P9 : Code := Bt Try.f178
noncomputable def AiM : Code := Bt Try.f164
noncomputable def Ahh : Code := Bt Try.f143
noncomputable def Ais : Code := Bt Try.f165
noncomputable def AiE : Code := Bt Try.f144
noncomputable def Y4 : Code := Bt Try.f106
noncomputable def Aha : Code := Bt Try.f107
noncomputable def c63 : Code := Bt Try.f63
noncomputable def c99 : Code := Bt Try.f99
noncomputable def AgP : Code := Bt Try.f137
noncomputable def AgC : Code := Bt Try.f100
noncomputable def c61 : Code := Bt Try.f61
noncomputable def Aiw : Code := Bt Try.f101
noncomputable def Aim : Code := Bt Try.f176
noncomputable def Ai2 : Code := Bt Try.f158
noncomputable def AiJ : Code := Bt Try.f140
noncomputable def Aip : Code := Bt Try.f139
noncomputable def AiI : Code := Bt Try.f102
noncomputable def AiG : Code := Bt Try.f103
noncomputable def c62 : Code := Bt Try.f62
noncomputable def c27 : Code := Bt Try.f27
noncomputable def c7 : Code := Bt Try.f7
noncomputable def Ahg : Code := Bt Try.f167
noncomputable def Aij : Code := Bt Try.f147
noncomputable def AgF : Code := Bt Try.f146
noncomputable def AgM : Code := Bt Try.f108
noncomputable def AiK : Code := Bt Try.f109
noncomputable def c66 : Code := Bt Try.f66
noncomputable def c30 : Code := Bt Try.f30
noncomputable def c31 : Code := Bt Try.f31
noncomputable def c8 : Code := Bt Try.f8
noncomputable def c9 : Code := Bt Try.f9
noncomputable def c10 : Code := Bt Try.f10
noncomputable def c11 : Code := Bt Try.f11
noncomputable def c3 : Code := Bt Try.f3
noncomputable def o65 : List (Nat × PI) := [(2, PI.of [0, 1, 2, 3, 4, 5, 6, 7, 8, 9, 10, 11, 12]), (3, PI.of [0, 1, 2, 3, 4, 5, 6, 7, 8, 9]), (4, PI.of [0, 1, 2, 3, 4, 5, 6, 7, 8, 9, 10, 11, 12, 13, 14])]
noncomputable def Uq : List (Nat × PI) := [(9, PI.of [0, 1, 2, 3, 4, 5, 6, 7, 8, 9, 10, 11, 12])]
noncomputable def AgT : List (Nat × PI) := [(4, PI.of [0, 1, 2, 3, 4, 5, 6, 7, 8, 9, 10, 11, 12, 13, 14, 15, 16, 17, 18, 19, 20, 21])]
noncomputable def Ai5 : List (Nat × PI) := [(1, PI.of [0, 1, 3, 4, 6, 7, 8, 9, 2, 5, 10, 11])]
noncomputable def AgA : List (Nat × PI) := [(1, .one 0 (.one 1 (.one 2 (.one 3 (.two 4 (PI.of [5, 6, 7]) 6 (PI.of [4, 5, 7])))))), (5, PI.of [0, 1, 2, 3, 4, 5, 6, 7, 8, 9, 10, 11, 12, 13, 15, 16, 17, 18, 19, 20, 14, 21, 22, 23, 24, 25])]
noncomputable def Ai9 : List (Nat × PI) := [(3, PI.of [0, 1, 3, 4, 5, 2, 6, 7, 8, 9])]
noncomputable def Ai6 : List (Nat × PI) := [(1, PI.of [0, 1, 2, 3, 4, 5, 6, 7, 9, 10, 8, 11, 12, 13])]
noncomputable def AgO : List (Nat × PI) := [(7, PI.of [0, 1, 2, 3, 4, 5]), (16, PI.of [0, 1, 2, 3, 4, 5, 6])]
noncomputable def Td : List (Nat × PI) := [(6, PI.of [0, 1, 2, 3, 4, 5, 6, 7, 8, 9, 10]), (11, PI.of [0, 1, 2, 3, 4, 5, 6, 7, 8, 9, 10]), (16, PI.of [0, 1, 2, 3, 4, 5, 6, 7, 8, 9, 10])]
noncomputable def P0 : List (Nat × PI) := [(1, .one 0 (.one 1 (.one 2 (.one 3 (.one 4 (.one 6 (.two 5 (PI.of [7, 8, 9, 10]) 7 (PI.of [5, 8, 9, 10]))))))))]
noncomputable def Ag7 : List (Nat × PI) := [(10, PI.of [0, 1, 2, 3, 4, 5, 6, 7, 8, 9, 10, 11]), (14, PI.of [0, 1, 2, 3, 4, 5])]
noncomputable def Zf : List (Nat × PI) := [(8, .one 0 (.one 2 (.one 3 (.one 4 (.one 5 (.alt 1 (.two 6 (PI.of [7, 8, 9, 10]) 9 (PI.of [6, 7, 8, 10])) (.alt 6 (PI.of [1, 7, 8, 9, 10]) (.one 9 (.two 1 (PI.of [6, 7, 8, 10]) 6 (PI.of [1, 7, 8, 10])))))))))), (9, .one 1 (.one 4 (.alt 0 (.two 2 (.two 3 (PI.of [5, 6, 7, 8, 9, 10, 11]) 5 (PI.of [3, 6, 7, 8, 9, 10, 11])) 5 (PI.of [2, 3, 6, 7, 8, 9, 10, 11])) (.alt 2 (.alt 0 (.two 3 (PI.of [5, 6, 7, 8, 9, 10, 11]) 5 (PI.of [3, 6, 7, 8, 9, 10, 11])) (.alt 3 (PI.of [0, 5, 6, 7, 8, 9, 10, 11]) (.one 5 (.two 0 (PI.of [3, 6, 7, 8, 9, 10, 11]) 3 (PI.of [0, 6, 7, 8, 9, 10, 11]))))) (.one 5 (.two 0 (PI.of [2, 3, 6, 7, 8, 9, 10, 11]) 2 (.two 0 (PI.of [3, 6, 7, 8, 9, 10, 11]) 3 (PI.of [0, 6, 7, 8, 9, 10, 11])))))))), (13, .one 1 (.two 0 (PI.of [2, 3, 4, 5, 6, 7]) 2 (PI.of [0, 3, 4, 5, 6, 7])))]
noncomputable def Ahu : List (Nat × PI) := [(5, PI.of [0, 1, 2, 3, 4, 5, 6, 7, 8, 9, 10, 11])]
noncomputable def AgG : List (Nat × PI) := [(8, PI.of [0, 1, 2, 3, 4, 5, 6, 7, 8, 9, 10, 11, 12]), (9, PI.of [0, 1, 2, 3, 4, 5, 6, 7]), (11, PI.of [0, 1, 2, 3, 4, 5, 6, 7, 8]), (12, PI.of [0, 1, 2, 3, 4, 5, 6, 7, 8, 9, 10, 11]), (14, PI.of [0, 1, 2, 3, 4, 5, 6, 7])]
noncomputable def Aiq : List (Nat × PI) := [(9, .one 0 (.one 2 (.two 1 (PI.of [3, 4, 5, 6, 7]) 3 (.two 1 (PI.of [4, 5, 6, 7]) 4 (PI.of [1, 5, 6, 7]))))), (12, .one 0 (.one 2 (.two 1 (PI.of [3, 4, 5, 6, 7]) 3 (.two 1 (PI.of [4, 5, 6, 7]) 4 (PI.of [1, 5, 6, 7]))))), (15, .one 0 (.one 2 (.two 1 (PI.of [3, 4, 5, 6]) 3 (PI.of [1, 4, 5, 6]))))]
noncomputable def o27 : List (Nat × PI) := [(6, .one 0 (.one 2 (.two 1 (PI.of [3, 4, 5, 6, 7]) 3 (PI.of [1, 4, 5, 6, 7])))), (13, .one 0 (.one 2 (.one 3 (.two 1 (PI.of [4, 5, 6, 7, 8, 9, 10]) 4 (.two 1 (PI.of [5, 6, 7, 8, 9, 10]) 5 (.two 1 (PI.of [6, 7, 8, 9, 10]) 6 (PI.of [1, 7, 8, 9, 10])))))))]
noncomputable def o7 : List (Nat × PI) := [(5, .one 1 (.two 0 (PI.of [2, 3, 4, 5]) 2 (PI.of [0, 3, 4, 5])))]
noncomputable def AgJ : List (Nat × PI) := [(1, .one 0 (.one 1 (.one 2 (.one 3 (.two 4 (PI.of [5, 6, 7]) 6 (PI.of [4, 5, 7])))))), (5, PI.of [0, 1, 2, 3, 4, 5, 7, 8, 6, 9, 10, 11, 12, 13])]
noncomputable def o66 : List (Nat × PI) := [(1, PI.of [0, 1, 3, 4, 2, 6, 5, 7, 8, 9])]
noncomputable def o30 : List (Nat × PI) := [(5, PI.of [0, 1, 2, 3, 4, 5, 6, 7])]
noncomputable def o9 : List (Nat × PI) := [(3, .one 1 (.one 2 (.one 3 (.one 4 (.one 5 (.one 6 (.one 7 (.two 0 (PI.of [8, 9, 10, 11]) 8 (.two 0 (PI.of [9, 10, 11]) 9 (PI.of [0, 10, 11]))))))))))]
noncomputable abbrev fi6 : Fs := ⟨c6, 6, Try.f6.results.toList, []⟩
noncomputable abbrev fi26 : Fs := ⟨c26, 32, Try.f26.results.toList, []⟩
noncomputable abbrev AhS : Fs := ⟨c65, 58, Try.f65.results.toList, o65⟩
noncomputable abbrev AhB : Fs := ⟨c29, 31, Try.f29.results.toList, []⟩
noncomputable abbrev AhF : Fs := ⟨c64, 12, Try.f64.results.toList, []⟩
noncomputable abbrev AhH : Fs := ⟨c28, 9, Try.f28.results.toList, []⟩
noncomputable abbrev Agi : Fs := ⟨Ai1, 15, Try.f154.results.toList, []⟩
noncomputable abbrev fi180 : Fs := ⟨Ahs, 104, Try.f180.results.toList, []⟩
noncomputable abbrev fi170 : Fs := ⟨Ahd, 35, Try.f170.results.toList, []⟩
noncomputable abbrev AfJ : Fs := ⟨AiB, 6, Try.f153.results.toList, []⟩
noncomputable abbrev fi186 : Fs := ⟨AgZ, 17, Try.f186.results.toList, []⟩
noncomputable abbrev fi187 : Fs := ⟨Ahf, 33, Try.f187.results.toList, []⟩
noncomputable abbrev AfX : Fs := ⟨Ait, 25, Try.f181.results.toList, []⟩
noncomputable abbrev AfO : Fs := ⟨Ai7, 17, Try.f171.results.toList, []⟩
noncomputable abbrev Agp : Fs := ⟨Ai0, 24, Try.f172.results.toList, []⟩
noncomputable abbrev fi173 : Fs := ⟨AgK, 19, Try.f173.results.toList, []⟩
noncomputable abbrev fi155 : Fs := ⟨Vc, 71, Try.f155.results.toList, Uq⟩
noncomputable abbrev fi156 : Fs := ⟨AgW, 35, Try.f156.results.toList, AgT⟩
noncomputable abbrev AfM : Fs := ⟨Aig, 48, Try.f136.results.toList, []⟩
noncomputable abbrev AfG : Fs := ⟨Air, 23, Try.f104.results.toList, []⟩
noncomputable abbrev AfH : Fs := ⟨Ai4, 14, Try.f175.results.toList, Ai5⟩
noncomputable abbrev fi174 : Fs := ⟨Ag9, 21, Try.f174.results.toList, []⟩
noncomputable abbrev fi157 : Fs := ⟨Ahq, 44, Try.f157.results.toList, AgA⟩
noncomputable abbrev Agm : Fs := ⟨Aik, 15, Try.f138.results.toList, []⟩
noncomputable abbrev AfL : Fs := ⟨Ahc, 16, Try.f105.results.toList, []⟩
noncomputable abbrev AhX : Fs := ⟨c32, 12, Try.f32.results.toList, []⟩
noncomputable abbrev Agg : Fs := ⟨Ail, 6, Try.f166.results.toList, []⟩
noncomputable abbrev fi159 : Fs := ⟨Ahe, 20, Try.f159.results.toList, []⟩
noncomputable abbrev AfV : Fs := ⟨AiD, 14, Try.f145.results.toList, []⟩
noncomputable abbrev fi141 : Fs := ⟨Ag6, 22, Try.f141.results.toList, []⟩
noncomputable abbrev AfQ : Fs := ⟨AiA, 25, Try.f160.results.toList, []⟩
noncomputable abbrev AfK : Fs := ⟨Aii, 17, Try.f161.results.toList, Ai9⟩
noncomputable abbrev Aga : Fs := ⟨AiO, 20, Try.f162.results.toList, Ai6⟩
noncomputable abbrev fi177 : Fs := ⟨Ahy, 18, Try.f177.results.toList, []⟩
noncomputable abbrev fi163 : Fs := ⟨AgE, 31, Try.f163.results.toList, []⟩
noncomputable abbrev fi142 : Fs := ⟨Ahk, 75, Try.f142.results.toList, AgO⟩
noncomputable abbrev Agd : Fs := ⟨Aio, 120, Try.f183.results.toList, []⟩
noncomputable abbrev Agh : Fs := ⟨Ai8, 10, Try.f188.results.toList, []⟩
noncomputable abbrev fi182 : Fs := ⟨Tc, 239, Try.f182.results.toList, Td⟩
noncomputable abbrev AhR : Fs := ⟨Ain, 57, Try.f184.results.toList, []⟩
noncomputable abbrev fi178 : Fs := ⟨P9, 191, Try.f178.results.toList, P0⟩
noncomputable abbrev AfN : Fs := ⟨AiM, 23, Try.f164.results.toList, []⟩
noncomputable abbrev fi143 : Fs := ⟨Ahh, 81, Try.f143.results.toList, Ag7⟩
noncomputable abbrev Agj : Fs := ⟨Ais, 31, Try.f165.results.toList, []⟩
noncomputable abbrev Agc : Fs := ⟨AiE, 26, Try.f144.results.toList, []⟩
noncomputable abbrev fi106 : Fs := ⟨Y4, 68, Try.f106.results.toList, Zf⟩
noncomputable abbrev fi107 : Fs := ⟨Aha, 22, Try.f107.results.toList, []⟩
noncomputable abbrev AhT : Fs := ⟨c63, 28, Try.f63.results.toList, []⟩
noncomputable abbrev fi99 : Fs := ⟨c99, 19, Try.f99.results.toList, []⟩
noncomputable abbrev fi137 : Fs := ⟨AgP, 27, Try.f137.results.toList, Ahu⟩
noncomputable abbrev fi100 : Fs := ⟨AgC, 80, Try.f100.results.toList, AgG⟩
noncomputable abbrev fi61 : Fs := ⟨c61, 38, Try.f61.results.toList, []⟩
noncomputable abbrev Agl : Fs := ⟨Aiw, 6, Try.f101.results.toList, []⟩
noncomputable abbrev AfP : Fs := ⟨Aim, 10, Try.f176.results.toList, []⟩
noncomputable abbrev Agk : Fs := ⟨Ai2, 16, Try.f158.results.toList, []⟩
noncomputable abbrev Agn : Fs := ⟨AiJ, 28, Try.f140.results.toList, []⟩
noncomputable abbrev Agf : Fs := ⟨Aip, 14, Try.f139.results.toList, []⟩
noncomputable abbrev AfI : Fs := ⟨AiI, 69, Try.f102.results.toList, Aiq⟩
noncomputable abbrev AfW : Fs := ⟨AiG, 25, Try.f103.results.toList, []⟩
noncomputable abbrev AhE : Fs := ⟨c62, 48, Try.f62.results.toList, []⟩
noncomputable abbrev fi27 : Fs := ⟨c27, 51, Try.f27.results.toList, o27⟩
noncomputable abbrev fi7 : Fs := ⟨c7, 21, Try.f7.results.toList, o7⟩
noncomputable abbrev fi167 : Fs := ⟨Ahg, 18, Try.f167.results.toList, []⟩
noncomputable abbrev Agb : Fs := ⟨Aij, 9, Try.f147.results.toList, []⟩
noncomputable abbrev fi146 : Fs := ⟨AgF, 20, Try.f146.results.toList, []⟩
noncomputable abbrev fi108 : Fs := ⟨AgM, 34, Try.f108.results.toList, AgJ⟩
noncomputable abbrev AfS : Fs := ⟨AiK, 6, Try.f109.results.toList, []⟩
noncomputable abbrev Aif : Fs := ⟨c66, 12, Try.f66.results.toList, o66⟩
noncomputable abbrev fi30 : Fs := ⟨c30, 25, Try.f30.results.toList, o30⟩
noncomputable abbrev Ah9 : Fs := ⟨c31, 15, Try.f31.results.toList, []⟩
noncomputable abbrev fi8 : Fs := ⟨c8, 21, Try.f8.results.toList, []⟩
noncomputable abbrev fi9 : Fs := ⟨c9, 24, Try.f9.results.toList, o9⟩
noncomputable abbrev AhU : Fs := ⟨c10, 21, Try.f10.results.toList, []⟩
noncomputable abbrev Aid : Fs := ⟨c11, 21, Try.f11.results.toList, []⟩
noncomputable abbrev fi3 : Fs := ⟨c3, 163, Try.f3.results.toList, []⟩
abbrev uu : AV := .sc undef
noncomputable def tf : Nat → Nat → (Nat → AV) → Tm
 | 0, _, _ => []
 | n + 1, i, t => (i, t i) :: tf n (i + 1) t
noncomputable def ut : Nat → AV := fun _ => uu
noncomputable def ud : List (Nat × AV) → (Nat → AV) → Nat → AV
 | [], t, i => t i
 | (j, v) :: r, t, i => match Nat.beq j i with
  | true => v
  | false => ud r t i
theorem Wc : ∀ (n i : Nat) (t : Nat → AV), tf n i t = (List.range' i n).map fun j => (j, t j)
 | 0, _, _ => rfl
 | n + 1, i, t => by
  rw [tf, Wc n (i + 1) t, List.range'_succ, List.map_cons]
theorem Agy (nt : Nat) (tm : Tm) : nrm nt tm = tf nt 0 (fun i => gt tm i) := by
 rw [Wc, nrm, List.range_eq_range']
theorem Cd {nt m : Nat} {body : Tm → Ac → (Ex → Tm → Ac → Option β) → Option β} {c c' : Ex → Tm → Ac → Option β} {g : (Nat → AV) → Ac → Option β} {tm : Tm} {H : Ac} (h : ∀ t H, Dz nt body c m (tf nt 0 t) H = g t H) (hc : c = c') : Dz nt body c (m + 1) tm H = body tm H (Em (fun tm H => g (fun i => gt tm i) H) c') := by
 have e : (fun tm H => Dz nt body c m (nrm nt tm) H) = fun tm H => g (fun i => gt tm i) H := by
  funext tm H
  rw [Agy, h]
 rw [Dz, e, hc]
noncomputable def At (t : Nat) : Option TI := (tis[t]?).getD none
noncomputable def cd : Code → List Nat → Code
 | c, [] => c
 | .seq a b, i :: p => cd (if i = 0 then a else b) p
 | .cond _ a b, i :: p => cd (if i = 1 then a else b) p
 | .block _ a, _ :: p => cd a p
 | .loop a, _ :: p => cd a p
 | c, _ => c
abbrev Jl (i : Fs) (f : (β : Type) → Pr β → Nat → AV → Ac → KO β → Option β) : Prop := ∀ {β : Type} (p : Pr β) (n : Nat) (a0 : AV) (H : Ac) (k : KO β), Ct At p n i [a0] H k = f β p n a0 H k
abbrev T7 (i : Fs) (f : (β : Type) → Pr β → Nat → AV → AV → Ac → KO β → Option β) : Prop := ∀ {β : Type} (p : Pr β) (n : Nat) (a0 a1 : AV) (H : Ac) (k : KO β), Ct At p n i [a0, a1] H k = f β p n a0 a1 H k
abbrev Bd3 (i : Fs) (f : (β : Type) → Pr β → Nat → AV → AV → AV → Ac → KO β → Option β) : Prop := ∀ {β : Type} (p : Pr β) (n : Nat) (a0 a1 a2 : AV) (H : Ac) (k : KO β), Ct At p n i [a0, a1, a2] H k = f β p n a0 a1 a2 H k
abbrev Bd5 (i : Fs) (f : (β : Type) → Pr β → Nat → AV → AV → AV → AV → AV → Ac → KO β → Option β) : Prop := ∀ {β : Type} (p : Pr β) (n : Nat) (a0 a1 a2 a3 a4 : AV) (H : Ac) (k : KO β), Ct At p n i [a0, a1, a2, a3, a4] H k = f β p n a0 a1 a2 a3 a4 H k
noncomputable def f6 (p : Pr β) (n : Nat) (a0 : AV) (H : Ac) (k : KO β) : Option β :=
 p.len a0 fun t4 =>
 p.bin .gtr t4 (.sc (.int .i64 1048576)) fun t5 =>
 k t5 H
theorem Afz : Jl fi6 @f6 := fun p n a0 H k => by kernel_rfl
noncomputable def N4 (p : Pr β) (n : Nat)  (k : KO β) : Nat → AV → AV → KO β
 | 0, _, _, _, _ => none
 | m + 1, t0, t3, t4, H => p.len t0 fun t10 =>
   p.bin .lss t4 t10 fun t11 =>
   p.guard t11 true H (fun k' => k' t4 H) fun t13 H =>
   p.guard t11 true H (fun k' => p.bin .lss t13 (.sc (.int .i64 4000)) fun t' => k' t' H) fun t14 H =>
   p.pick t11 t14 (.sc (.bool false)) fun t15 =>
   p.cond t15
   (p.bin .mul t3 (.sc (.int .i64 137)) fun t19 =>
   p.iadr 1 t0 t4 fun t22 =>
   p.load false 1 t22 H fun t23 =>
   p.cvI .i64 t23 fun t24 =>
   p.bin .add t19 t24 fun t25 =>
   p.bin .add t25 (.sc (.int .i64 11)) fun t26 =>
   p.bin .and t26 (.sc (.int .i64 1073741823)) fun t27 =>
   p.bin .add t4 (.sc (.int .i64 1)) fun t17 =>
   N4 p n  k m t0 t27 t17 H)
   (p.fill [.nl, (.sc (.int .i64 0)), (.sc (.int .i64 0))] [(0, 1, t0), (2, 1, t3)] fun ct30 =>
   p.box (.agg ct30) H fun t31 H =>
   k t31 H)
noncomputable def f26 (p : Pr β) (n : Nat) (a0 : AV) (H : Ac) (k : KO β) : Option β :=
 p.len a0 fun t6 =>
 p.bin .add (.sc (.int .i64 128361)) t6 fun t7 =>
 N4 p n  k n a0 t7 (.sc (.int .i64 0)) H
noncomputable def Adk (p : Pr β) (n : Nat)  (k : KO β) (m : Nat) (tm : Tm) (H : Ac) : Option β :=
 Dz 32 (fun tm H k => An At p [] 32 n (cd c26 [1, 1, 0, 1, 0, 0]) tm H k) (E5 0 (Em (fun tm H => An At p [] 32 n (cd c26 [1, 1, 1]) tm H (C9 At p fi26.results k)) (C9 At p fi26.results k))) m tm H
theorem Abb (p : Pr β) (n : Nat)  (k : KO β) (m0 : Nat) : ∀ (t : Nat → AV) (H : Ac), Adk p n  k m0 (tf 32 0 t) H = N4 p n  k m0 (t 0) (t 3) (t 4) H := by
 induction m0 with
 | zero => intros; rfl
 | succ m0 ih =>
  intro t H
  refine Eq.trans (Cd (nt := 32) (m := m0) (g := fun t H => N4 p n  k m0 (t 0) (t 3) (t 4) H) ih rfl) ?_
  kernel_rfl
theorem AeC (p : Pr β) (n : Nat) (a0 : AV) (H : Ac) (k : KO β) : Ct At p n fi26 [a0] H k =
 p.len a0 fun t6 =>
 p.bin .add (.sc (.int .i64 128361)) t6 fun t7 =>
 Adk p n  k n (tf 32 0 (ud [(0, a0), (2, (.sc (.pointer none))), (3, t7), (4, (.sc (.int .i64 0))), (5, a0), (6, t6), (7, t7)] ut)) H := by kernel_rfl
theorem AcQ : Jl fi26 @f26 := fun p n a0 H k => by
 rw [AeC]
 simp only [Abb]
 kernel_rfl
noncomputable def f65 (p : Pr β) (n : Nat) (a0 : AV) (H : Ac) (k : KO β) : Option β :=
 p.nil a0 fun t6 =>
 p.fadr 2 t6 fun t7 =>
 p.load false 1 t7 H fun t8 =>
 p.bin .mul t8 (.sc (.int .i64 6364136223846793005)) fun t9 =>
 p.bin .add t9 (.sc (.int .i64 1442695040888963407)) fun t10 =>
 p.nil a0 fun t11 =>
 p.fadr 2 t11 fun t12 =>
 p.store 1 t12 t10 H fun H =>
 p.nil a0 fun t14 =>
 p.fadr 2 t14 fun t15 =>
 p.load false 1 t15 H fun t16 =>
 p.bin .shr t16 (.sc (.int .u64 33)) fun t17 =>
 p.nil a0 fun t19 =>
 p.fadr 2 t19 fun t20 =>
 p.load false 1 t20 H fun t21 =>
 p.bin .shr t21 (.sc (.int .u64 47)) fun t22 =>
 p.bin .xor t17 t22 fun t23 =>
 p.bin .and t23 (.sc (.int .i64 255)) fun t24 =>
 p.nil a0 fun t26 =>
 p.fadr 1 t26 fun t27 =>
 p.load false 1 t27 H fun t28 =>
 p.nil a0 fun t30 =>
 p.fadr 0 t30 fun t31 =>
 p.load false 1 t31 H fun t32 =>
 p.len t32 fun t33 =>
 p.bin .lss t28 t33 fun t34 =>
 M7 (fun (t3 : AV) (H : Ac) => k t3 H) fun j1 =>
 p.cond t34
 (p.nil a0 fun t37 =>
 p.fadr 0 t37 fun t38 =>
 p.load false 1 t38 H fun t39 =>
 p.nil a0 fun t41 =>
 p.fadr 1 t41 fun t42 =>
 p.load false 1 t42 H fun t43 =>
 p.iadr 1 t39 t43 fun t44 =>
 p.load false 1 t44 H fun t45 =>
 p.cvI .i64 t45 fun t46 =>
 p.bin .add t24 t46 fun t47 =>
 p.bin .and t47 (.sc (.int .i64 255)) fun t48 =>
 p.nil a0 fun t51 =>
 p.fadr 1 t51 fun t52 =>
 p.load false 1 t52 H fun t53 =>
 p.bin .add t53 (.sc (.int .i64 1)) fun t54 =>
 p.nil a0 fun t55 =>
 p.fadr 1 t55 fun t56 =>
 p.store 1 t56 t54 H fun H =>
 j1 t48 H)
 (j1 t24 H)
theorem AcM : Jl AhS @f65 := fun p n a0 H k => by kernel_rfl
noncomputable def f29 (p : Pr β) (n : Nat) (a0 a1 : AV) (H : Ac) (k : KO β) : Option β :=
 p.bin .leq a1 (.sc (.int .i64 0)) fun t9 =>
 p.cond t9
 (k (.sc (.int .i64 0)) H)
 (p.bin .leq a1 (.sc (.int .i64 256)) fun t11 =>
 p.cond t11
 (p.call 3 (.fn 65 [] []) [a0] H fun t13 H =>
 p.bin .rem t13 a1 fun t15 =>
 k t15 H)
 (p.call 3 (.fn 65 [] []) [a0] H fun t17 H =>
 p.call 3 (.fn 65 [] []) [a0] H fun t19 H =>
 p.call 3 (.fn 65 [] []) [a0] H fun t21 H =>
 p.bin .mul t17 (.sc (.int .i64 65536)) fun t23 =>
 p.bin .mul t19 (.sc (.int .i64 256)) fun t25 =>
 p.bin .add t23 t25 fun t26 =>
 p.bin .add t26 t21 fun t28 =>
 p.bin .rem t28 a1 fun t30 =>
 k t30 H))
theorem Ads : T7 AhB @f29 := fun p n a0 a1 H k => by kernel_rfl
noncomputable def f64 (p : Pr β) (n : Nat) (a0 a1 : AV) (H : Ac) (k : KO β) : Option β :=
 p.len a1 fun t8 =>
 p.call 3 (.fn 29 [] []) [a0, t8] H fun t9 H =>
 p.iadr 1 a1 t9 fun t10 =>
 p.load false 1 t10 H fun t11 =>
 k t11 H
theorem AdF : T7 AhF @f64 := fun p n a0 a1 H k => by kernel_rfl
noncomputable def f28 (p : Pr β) (n : Nat) (a0 a1 : AV) (H : Ac) (k : KO β) : Option β :=
 p.call 3 (.fn 29 [] []) [a0, a1] H fun t7 H =>
 p.bin .eql t7 (.sc (.int .i64 0)) fun t8 =>
 k t8 H
theorem Adw : T7 AhH @f28 := fun p n a0 a1 H k => by kernel_rfl
noncomputable def f154 (p : Pr β) (n : Nat) (a0 a1 a2 : AV) (H : Ac) (k : KO β) : Option β :=
 p.bin .geq a0 a1 fun t9 =>
 p.guard t9 true H (fun k' => k' a0 H) fun t11 H =>
 p.guard t9 true H (fun k' => k' a2 H) fun t12 H =>
 p.guard t9 true H (fun k' => p.bin .leq t11 t12 fun t' => k' t' H) fun t13 H =>
 p.pick t9 t13 (.sc (.bool false)) fun t14 =>
 k t14 H
theorem AbR : Bd3 Agi @f154 := fun p n a0 a1 a2 H k => by kernel_rfl
noncomputable def H0 (p : Pr β) (n : Nat)  (k : KO β) : Nat → AV → AV → AV → AV → AV → KO β
 | 0, _, _, _, _, _, _, _ => none
 | m + 1, t0, t1, t8, t9, t10, t11, H => p.bin .leq t11 t8 fun t67 =>
   p.cond t67
   (p.bin .add t1 t11 fun t73 =>
   p.iadr 1 t0 t73 fun t74 =>
   p.load false 1 t74 H fun t75 =>
   p.cvI .i64 t75 fun t76 =>
   p.bin .lss t76 (.sc (.int .i64 128)) fun t78 =>
   p.guard t78 false H (fun k' => k' t76 H) fun t80 H =>
   p.guard t78 false H (fun k' => p.bin .gtr t80 (.sc (.int .i64 191)) fun t' => k' t' H) fun t81 H =>
   p.pick t78 (.sc (.bool true)) t81 fun t82 =>
   p.cond t82
   (k (Cq [(.sc (.int .i64 0)), (.sc (.int .i64 0)), (.sc (.bool false))]) H)
   (p.bin .mul t10 (.sc (.int .i64 64)) fun t84 =>
   p.bin .add t84 t76 fun t86 =>
   p.bin .sub t86 (.sc (.int .i64 128)) fun t87 =>
   p.bin .add t11 (.sc (.int .i64 1)) fun t69 =>
   H0 p n  k m t0 t1 t8 t9 t87 t69 H))
   (p.bin .lss t10 t9 fun t90 =>
   p.guard t90 false H (fun k' => k' t10 H) fun t92 H =>
   p.guard t90 false H (fun k' => p.bin .gtr t92 (.sc (.int .i64 1114111)) fun t' => k' t' H) fun t93 H =>
   p.pick t90 (.sc (.bool true)) t93 fun t94 =>
   p.guard t94 false H (fun k' => k' t10 H) fun t96 H =>
   p.guard t94 false H (fun k' => p.call 4 (.fn 154 [] []) [t96, (.sc (.int .i64 55296)), (.sc (.int .i64 57343))] H fun t' H => k' t' H) fun t97 H =>
   p.pick t94 (.sc (.bool true)) t97 fun t98 =>
   p.cond t98
   (k (Cq [(.sc (.int .i64 0)), (.sc (.int .i64 0)), (.sc (.bool false))]) H)
   (p.bin .add t1 (.sc (.int .i64 1)) fun t101 =>
   p.bin .add t101 t8 fun t103 =>
   k (Cq [t10, t103, (.sc (.bool true))]) H))
noncomputable def f180 (p : Pr β) (n : Nat) (a0 a1 : AV) (H : Ac) (k : KO β) : Option β :=
 p.bin .lss a1 (.sc (.int .i64 0)) fun t14 =>
 p.guard t14 false H (fun k' => k' a1 H) fun t16 H =>
 p.guard t14 false H (fun k' => k' a0 H) fun t17 H =>
 p.guard t14 false H (fun k' => p.len t17 fun t' => k' t' H) fun t18 H =>
 p.guard t14 false H (fun k' => p.bin .geq t16 t18 fun t' => k' t' H) fun t19 H =>
 p.pick t14 (.sc (.bool true)) t19 fun t20 =>
 p.cond t20
 (k (Cq [(.sc (.int .i64 0)), (.sc (.int .i64 0)), (.sc (.bool false))]) H)
 (p.iadr 1 a0 a1 fun t23 =>
 p.load false 1 t23 H fun t24 =>
 p.cvI .i64 t24 fun t25 =>
 p.bin .lss t25 (.sc (.int .i64 128)) fun t27 =>
 p.cond t27
 (p.bin .add a1 (.sc (.int .i64 1)) fun t30 =>
 k (Cq [t25, t30, (.sc (.bool true))]) H)
 (p.bin .geq t25 (.sc (.int .i64 192)) fun t33 =>
 p.guard t33 true H (fun k' => k' t25 H) fun t35 H =>
 p.guard t33 true H (fun k' => p.bin .lss t35 (.sc (.int .i64 224)) fun t' => k' t' H) fun t36 H =>
 p.pick t33 t36 (.sc (.bool false)) fun t37 =>
 p.cond t37
 (p.bin .and t25 (.sc (.int .i64 31)) fun t39 =>
 p.len a0 fun t60 =>
 p.bin .sub t60 (.sc (.int .i64 1)) fun t61 =>
 p.bin .sub t61 (.sc (.int .i64 1)) fun t63 =>
 p.bin .gtr a1 t63 fun t64 =>
 p.cond t64
 (k (Cq [(.sc (.int .i64 0)), (.sc (.int .i64 0)), (.sc (.bool false))]) H)
 (H0 p n  k n a0 a1 (.sc (.int .i64 1)) (.sc (.int .i64 128)) t39 (.sc (.int .i64 1)) H))
 (p.bin .geq t25 (.sc (.int .i64 224)) fun t42 =>
 p.guard t42 true H (fun k' => k' t25 H) fun t44 H =>
 p.guard t42 true H (fun k' => p.bin .lss t44 (.sc (.int .i64 240)) fun t' => k' t' H) fun t45 H =>
 p.pick t42 t45 (.sc (.bool false)) fun t46 =>
 p.cond t46
 (p.bin .and t25 (.sc (.int .i64 15)) fun t48 =>
 p.len a0 fun t60 =>
 p.bin .sub t60 (.sc (.int .i64 1)) fun t61 =>
 p.bin .sub t61 (.sc (.int .i64 2)) fun t63 =>
 p.bin .gtr a1 t63 fun t64 =>
 p.cond t64
 (k (Cq [(.sc (.int .i64 0)), (.sc (.int .i64 0)), (.sc (.bool false))]) H)
 (H0 p n  k n a0 a1 (.sc (.int .i64 2)) (.sc (.int .i64 2048)) t48 (.sc (.int .i64 1)) H))
 (p.bin .geq t25 (.sc (.int .i64 240)) fun t51 =>
 p.guard t51 true H (fun k' => k' t25 H) fun t53 H =>
 p.guard t51 true H (fun k' => p.bin .lss t53 (.sc (.int .i64 248)) fun t' => k' t' H) fun t54 H =>
 p.pick t51 t54 (.sc (.bool false)) fun t55 =>
 p.cond t55
 (p.bin .and t25 (.sc (.int .i64 7)) fun t57 =>
 p.len a0 fun t60 =>
 p.bin .sub t60 (.sc (.int .i64 1)) fun t61 =>
 p.bin .sub t61 (.sc (.int .i64 3)) fun t63 =>
 p.bin .gtr a1 t63 fun t64 =>
 p.cond t64
 (k (Cq [(.sc (.int .i64 0)), (.sc (.int .i64 0)), (.sc (.bool false))]) H)
 (H0 p n  k n a0 a1 (.sc (.int .i64 3)) (.sc (.int .i64 65536)) t57 (.sc (.int .i64 1)) H))
 (k (Cq [(.sc (.int .i64 0)), (.sc (.int .i64 0)), (.sc (.bool false))]) H)))))
noncomputable def Q6 (p : Pr β) (n : Nat)  (k : KO β) (m : Nat) (tm : Tm) (H : Ac) : Option β :=
 Dz 104 (fun tm H k => An At p [] 104 n (cd Ahs [1, 1, 1, 1, 1, 1, 1, 1, 1, 0, 1, 0, 0]) tm H k) (E5 1 (Em (fun tm H => An At p [] 104 n (cd Ahs [1, 1, 1, 1, 1, 1, 1, 1, 1, 1]) tm H (C9 At p fi180.results k)) (C9 At p fi180.results k))) m tm H
theorem Y0 (p : Pr β) (n : Nat)  (k : KO β) (m0 : Nat) : ∀ (t : Nat → AV) (H : Ac), Q6 p n  k m0 (tf 104 0 t) H = H0 p n  k m0 (t 0) (t 1) (t 8) (t 9) (t 10) (t 11) H := by
 induction m0 with
 | zero => intros; rfl
 | succ m0 ih =>
  intro t H
  refine Eq.trans (Cd (nt := 104) (m := m0) (g := fun t H => H0 p n  k m0 (t 0) (t 1) (t 8) (t 9) (t 10) (t 11) H) ih rfl) ?_
  kernel_rfl
theorem AdB (p : Pr β) (n : Nat) (a0 a1 : AV) (H : Ac) (k : KO β) : Ct At p n fi180 [a0, a1] H k =
 p.bin .lss a1 (.sc (.int .i64 0)) fun t14 =>
 p.guard t14 false H (fun k' => k' a1 H) fun t16 H =>
 p.guard t14 false H (fun k' => k' a0 H) fun t17 H =>
 p.guard t14 false H (fun k' => p.len t17 fun t' => k' t' H) fun t18 H =>
 p.guard t14 false H (fun k' => p.bin .geq t16 t18 fun t' => k' t' H) fun t19 H =>
 p.pick t14 (.sc (.bool true)) t19 fun t20 =>
 p.cond t20
 (k (Cq [(.sc (.int .i64 0)), (.sc (.int .i64 0)), (.sc (.bool false))]) H)
 (p.iadr 1 a0 a1 fun t23 =>
 p.load false 1 t23 H fun t24 =>
 p.cvI .i64 t24 fun t25 =>
 p.bin .lss t25 (.sc (.int .i64 128)) fun t27 =>
 p.cond t27
 (p.bin .add a1 (.sc (.int .i64 1)) fun t30 =>
 k (Cq [t25, t30, (.sc (.bool true))]) H)
 (p.bin .geq t25 (.sc (.int .i64 192)) fun t33 =>
 p.guard t33 true H (fun k' => k' t25 H) fun t35 H =>
 p.guard t33 true H (fun k' => p.bin .lss t35 (.sc (.int .i64 224)) fun t' => k' t' H) fun t36 H =>
 p.pick t33 t36 (.sc (.bool false)) fun t37 =>
 p.cond t37
 (p.bin .and t25 (.sc (.int .i64 31)) fun t39 =>
 p.len a0 fun t60 =>
 p.bin .sub t60 (.sc (.int .i64 1)) fun t61 =>
 p.bin .sub t61 (.sc (.int .i64 1)) fun t63 =>
 p.bin .gtr a1 t63 fun t64 =>
 p.cond t64
 (k (Cq [(.sc (.int .i64 0)), (.sc (.int .i64 0)), (.sc (.bool false))]) H)
 (Q6 p n  k n (tf 104 0 (ud [(0, a0), (1, a1), (4, (.sc (.int .i64 0))), (5, (.sc (.int .i64 0))), (6, (.sc (.bool false))), (7, t25), (8, (.sc (.int .i64 1))), (9, (.sc (.int .i64 128))), (10, t39), (11, (.sc (.int .i64 1))), (13, a1), (14, t14), (15, t14), (16, t16), (17, t17), (18, t18), (19, t19), (20, t20), (21, a0), (22, a1), (23, t23), (24, t24), (25, t25), (26, t25), (27, t27), (31, t37), (32, t25), (33, t33), (34, t33), (35, t35), (36, t36), (37, t37), (38, t25), (39, t39), (58, a1), (59, a0), (60, t60), (61, t61), (62, (.sc (.int .i64 1))), (63, t63), (64, t64)] ut)) H))
 (p.bin .geq t25 (.sc (.int .i64 224)) fun t42 =>
 p.guard t42 true H (fun k' => k' t25 H) fun t44 H =>
 p.guard t42 true H (fun k' => p.bin .lss t44 (.sc (.int .i64 240)) fun t' => k' t' H) fun t45 H =>
 p.pick t42 t45 (.sc (.bool false)) fun t46 =>
 p.cond t46
 (p.bin .and t25 (.sc (.int .i64 15)) fun t48 =>
 p.len a0 fun t60 =>
 p.bin .sub t60 (.sc (.int .i64 1)) fun t61 =>
 p.bin .sub t61 (.sc (.int .i64 2)) fun t63 =>
 p.bin .gtr a1 t63 fun t64 =>
 p.cond t64
 (k (Cq [(.sc (.int .i64 0)), (.sc (.int .i64 0)), (.sc (.bool false))]) H)
 (Q6 p n  k n (tf 104 0 (ud [(0, a0), (1, a1), (4, (.sc (.int .i64 0))), (5, (.sc (.int .i64 0))), (6, (.sc (.bool false))), (7, t25), (8, (.sc (.int .i64 2))), (9, (.sc (.int .i64 2048))), (10, t48), (11, (.sc (.int .i64 1))), (13, a1), (14, t14), (15, t14), (16, t16), (17, t17), (18, t18), (19, t19), (20, t20), (21, a0), (22, a1), (23, t23), (24, t24), (25, t25), (26, t25), (27, t27), (31, t37), (32, t25), (33, t33), (34, t33), (35, t35), (36, t36), (37, t37), (40, t46), (41, t25), (42, t42), (43, t42), (44, t44), (45, t45), (46, t46), (47, t25), (48, t48), (58, a1), (59, a0), (60, t60), (61, t61), (62, (.sc (.int .i64 2))), (63, t63), (64, t64)] ut)) H))
 (p.bin .geq t25 (.sc (.int .i64 240)) fun t51 =>
 p.guard t51 true H (fun k' => k' t25 H) fun t53 H =>
 p.guard t51 true H (fun k' => p.bin .lss t53 (.sc (.int .i64 248)) fun t' => k' t' H) fun t54 H =>
 p.pick t51 t54 (.sc (.bool false)) fun t55 =>
 p.cond t55
 (p.bin .and t25 (.sc (.int .i64 7)) fun t57 =>
 p.len a0 fun t60 =>
 p.bin .sub t60 (.sc (.int .i64 1)) fun t61 =>
 p.bin .sub t61 (.sc (.int .i64 3)) fun t63 =>
 p.bin .gtr a1 t63 fun t64 =>
 p.cond t64
 (k (Cq [(.sc (.int .i64 0)), (.sc (.int .i64 0)), (.sc (.bool false))]) H)
 (Q6 p n  k n (tf 104 0 (ud [(0, a0), (1, a1), (4, (.sc (.int .i64 0))), (5, (.sc (.int .i64 0))), (6, (.sc (.bool false))), (7, t25), (8, (.sc (.int .i64 3))), (9, (.sc (.int .i64 65536))), (10, t57), (11, (.sc (.int .i64 1))), (13, a1), (14, t14), (15, t14), (16, t16), (17, t17), (18, t18), (19, t19), (20, t20), (21, a0), (22, a1), (23, t23), (24, t24), (25, t25), (26, t25), (27, t27), (31, t37), (32, t25), (33, t33), (34, t33), (35, t35), (36, t36), (37, t37), (40, t46), (41, t25), (42, t42), (43, t42), (44, t44), (45, t45), (46, t46), (49, t55), (50, t25), (51, t51), (52, t51), (53, t53), (54, t54), (55, t55), (56, t25), (57, t57), (58, a1), (59, a0), (60, t60), (61, t61), (62, (.sc (.int .i64 3))), (63, t63), (64, t64)] ut)) H))
 (k (Cq [(.sc (.int .i64 0)), (.sc (.int .i64 0)), (.sc (.bool false))]) H))))) := by kernel_rfl
theorem Abt : T7 fi180 @f180 := fun p n a0 a1 H k => by
 rw [AdB]
 simp only [Y0]
 kernel_rfl
noncomputable def Nb (p : Pr β) (n : Nat)  (k : KO β) : Nat → AV → AV → KO β
 | 0, _, _, _, _ => none
 | m + 1, t3, t4, t5, H => p.len t3 fun t16 =>
   p.bin .lss t5 t16 fun t17 =>
   p.cond t17
   (p.call 224 (.fn 180 [] []) [t3, t5] H fun t21 H =>
   p.extr t21 0 fun t22 =>
   p.extr t21 1 fun t23 =>
   p.extr t21 2 fun t24 =>
   p.un .not t24 fun t26 =>
   p.guard t26 false H (fun k' => k' t22 H) fun t28 H =>
   p.guard t26 false H (fun k' => p.bin .eql t28 (.sc (.int .i64 0)) fun t' => k' t' H) fun t29 H =>
   p.pick t26 (.sc (.bool true)) t29 fun t30 =>
   p.cond t30
   (k (.sc (.int .i64 (-1))) H)
   (p.bin .add t4 (.sc (.int .i64 1)) fun t33 =>
   Nb p n  k m t3 t33 t23 H))
   (k t4 H)
noncomputable def f170 (p : Pr β) (n : Nat) (a0 : AV) (H : Ac) (k : KO β) : Option β :=
 p.lenS a0 fun t10 =>
 p.bin .gtr t10 (.sc (.int .i64 60)) fun t11 =>
 p.cond t11
 (k (.sc (.int .i64 (-1))) H)
 (p.cvSB a0 H fun t13 H =>
 Nb p n  k n t13 (.sc (.int .i64 0)) (.sc (.int .i64 0)) H)
noncomputable def Zz (p : Pr β) (n : Nat)  (k : KO β) (m : Nat) (tm : Tm) (H : Ac) : Option β :=
 Dz 35 (fun tm H k => An At p [] 35 n (cd Ahd [1, 1, 1, 1, 0, 1, 0, 0]) tm H k) (E5 0 (Em (fun tm H => An At p [] 35 n (cd Ahd [1, 1, 1, 1, 1]) tm H (C9 At p fi170.results k)) (C9 At p fi170.results k))) m tm H
theorem Y3 (p : Pr β) (n : Nat)  (k : KO β) (m0 : Nat) : ∀ (t : Nat → AV) (H : Ac), Zz p n  k m0 (tf 35 0 t) H = Nb p n  k m0 (t 3) (t 4) (t 5) H := by
 induction m0 with
 | zero => intros; rfl
 | succ m0 ih =>
  intro t H
  refine Eq.trans (Cd (nt := 35) (m := m0) (g := fun t H => Nb p n  k m0 (t 3) (t 4) (t 5) H) ih rfl) ?_
  kernel_rfl
theorem Ac9 (p : Pr β) (n : Nat) (a0 : AV) (H : Ac) (k : KO β) : Ct At p n fi170 [a0] H k =
 p.lenS a0 fun t10 =>
 p.bin .gtr t10 (.sc (.int .i64 60)) fun t11 =>
 p.cond t11
 (k (.sc (.int .i64 (-1))) H)
 (p.cvSB a0 H fun t13 H =>
 Zz p n  k n (tf 35 0 (ud [(0, a0), (2, (.sc (.int .i64 0))), (3, t13), (4, (.sc (.int .i64 0))), (5, (.sc (.int .i64 0))), (9, a0), (10, t10), (11, t11), (12, a0), (13, t13)] ut)) H) := by kernel_rfl
theorem Acl : Jl fi170 @f170 := fun p n a0 H k => by
 rw [Ac9]
 simp only [Y3]
 kernel_rfl
noncomputable def f153 (p : Pr β) (n : Nat) (a0 : AV) (H : Ac) (k : KO β) : Option β :=
 p.call 3 (.fn 170 [] []) [a0] H fun t4 H =>
 p.bin .geq t4 (.sc (.int .i64 0)) fun t5 =>
 k t5 H
theorem AaZ : Jl AfJ @f153 := fun p n a0 H k => by kernel_rfl
noncomputable def L6 (p : Pr β) (n : Nat)  (k : KO β) : Nat → AV → AV → KO β
 | 0, _, _, _, _ => none
 | m + 1, t0, t1, t5, H => p.lenS t0 fun t8 =>
   p.bin .lss t5 t8 fun t9 =>
   p.cond t9
   (p.idx t0 t5 fun t14 =>
   p.bin .eql t14 t1 fun t16 =>
   p.cond t16
   (k (.sc (.bool true)) H)
   (p.bin .add t5 (.sc (.int .i64 1)) fun t11 =>
   L6 p n  k m t0 t1 t11 H))
   (k (.sc (.bool false)) H)
noncomputable def f186 (p : Pr β) (n : Nat) (a0 a1 : AV) (H : Ac) (k : KO β) : Option β :=
 L6 p n  k n a0 a1 (.sc (.int .i64 0)) H
noncomputable def AaD (p : Pr β) (n : Nat)  (k : KO β) (m : Nat) (tm : Tm) (H : Ac) : Option β :=
 Dz 17 (fun tm H k => An At p [] 17 n (cd AgZ [1, 0, 1, 0, 0]) tm H k) (E5 0 (Em (fun tm H => An At p [] 17 n (cd AgZ [1, 1]) tm H (C9 At p fi186.results k)) (C9 At p fi186.results k))) m tm H
theorem Zj (p : Pr β) (n : Nat)  (k : KO β) (m0 : Nat) : ∀ (t : Nat → AV) (H : Ac), AaD p n  k m0 (tf 17 0 t) H = L6 p n  k m0 (t 0) (t 1) (t 5) H := by
 induction m0 with
 | zero => intros; rfl
 | succ m0 ih =>
  intro t H
  refine Eq.trans (Cd (nt := 17) (m := m0) (g := fun t H => L6 p n  k m0 (t 0) (t 1) (t 5) H) ih rfl) ?_
  kernel_rfl
theorem AcU (p : Pr β) (n : Nat) (a0 a1 : AV) (H : Ac) (k : KO β) : Ct At p n fi186 [a0, a1] H k =
 AaD p n  k n (tf 17 0 (ud [(0, a0), (1, a1), (4, (.sc (.bool false))), (5, (.sc (.int .i64 0)))] ut)) H := by kernel_rfl
theorem Abc : T7 fi186 @f186 := fun p n a0 a1 H k => by
 rw [AcU]
 simp only [Zj]
 kernel_rfl
noncomputable def Jm (p : Pr β) (n : Nat)  (k : KO β) : Nat → AV → AV → AV → KO β
 | 0, _, _, _, _, _ => none
 | m + 1, t0, t3, t4, t5, H => p.lenS t0 fun t9 =>
   p.bin .leq t5 t9 fun t10 =>
   p.cond t10
   (p.lenS t0 fun t15 =>
   p.bin .eql t5 t15 fun t16 =>
   p.guard t16 false H (fun k' => k' t0 H) fun t18 H =>
   p.guard t16 false H (fun k' => k' t5 H) fun t19 H =>
   p.guard t16 false H (fun k' => p.idx t18 t19 fun t' => k' t' H) fun t20 H =>
   p.guard t16 false H (fun k' => p.bin .eql t20 (.sc (.int .u8 47)) fun t' => k' t' H) fun t21 H =>
   p.pick t16 (.sc (.bool true)) t21 fun t22 =>
   p.cond t22
   (p.sliceS t0 (some t4) (some t5) fun t27 =>
   p.fill [(.sc (.string ⟨#[]⟩))] [(0, 1, t27)] fun ct28 => p.newSl 1 1 ct28 true H fun t28 H =>
   p.app 1 16 t3 t28 H fun t29 H =>
   p.bin .add t5 (.sc (.int .i64 1)) fun t31 =>
   p.bin .add t5 (.sc (.int .i64 1)) fun t12 =>
   Jm p n  k m t0 t29 t31 t12 H)
   (p.bin .add t5 (.sc (.int .i64 1)) fun t12 =>
   Jm p n  k m t0 t3 t4 t12 H))
   (k t3 H)
noncomputable def f187 (p : Pr β) (n : Nat) (a0 : AV) (H : Ac) (k : KO β) : Option β :=
 Jm p n  k n a0 .nl (.sc (.int .i64 0)) (.sc (.int .i64 0)) H
noncomputable def Aaz (p : Pr β) (n : Nat)  (k : KO β) (m : Nat) (tm : Tm) (H : Ac) : Option β :=
 Dz 33 (fun tm H k => An At p [] 33 n (cd Ahf [1, 1, 1, 0, 1, 0, 0]) tm H k) (E5 0 (Em (fun tm H => An At p [] 33 n (cd Ahf [1, 1, 1, 1]) tm H (C9 At p fi187.results k)) (C9 At p fi187.results k))) m tm H
theorem Yp (p : Pr β) (n : Nat)  (k : KO β) (m0 : Nat) : ∀ (t : Nat → AV) (H : Ac), Aaz p n  k m0 (tf 33 0 t) H = Jm p n  k m0 (t 0) (t 3) (t 4) (t 5) H := by
 induction m0 with
 | zero => intros; rfl
 | succ m0 ih =>
  intro t H
  refine Eq.trans (Cd (nt := 33) (m := m0) (g := fun t H => Jm p n  k m0 (t 0) (t 3) (t 4) (t 5) H) ih rfl) ?_
  kernel_rfl
theorem AcR (p : Pr β) (n : Nat) (a0 : AV) (H : Ac) (k : KO β) : Ct At p n fi187 [a0] H k =
 Aaz p n  k n (tf 33 0 (ud [(0, a0), (2, .nl), (3, .nl), (4, (.sc (.int .i64 0))), (5, (.sc (.int .i64 0))), (6, .nl)] ut)) H := by kernel_rfl
theorem AaO : Jl fi187 @f187 := fun p n a0 H k => by
 rw [AcR]
 simp only [Yp]
 kernel_rfl
noncomputable def f181 (p : Pr β) (n : Nat) (a0 : AV) (H : Ac) (k : KO β) : Option β :=
 p.call 4 (.fn 153 [] []) [a0] H fun t4 H =>
 p.guard t4 true H (fun k' => k' a0 H) fun t6 H =>
 p.guard t4 true H (fun k' => p.bin .neq t6 (.sc (.string ⟨#[]⟩)) fun t' => k' t' H) fun t7 H =>
 p.pick t4 t7 (.sc (.bool false)) fun t8 =>
 p.guard t8 true H (fun k' => k' a0 H) fun t10 H =>
 p.guard t8 true H (fun k' => p.call 4 (.fn 186 [] []) [t10, (.sc (.int .u8 43))] H fun t' H => k' t' H) fun t11 H =>
 p.guard t8 true H (fun k' => p.un .not t11 fun t' => k' t' H) fun t12 H =>
 p.pick t8 t12 (.sc (.bool false)) fun t13 =>
 p.guard t13 true H (fun k' => k' a0 H) fun t15 H =>
 p.guard t13 true H (fun k' => p.call 4 (.fn 186 [] []) [t15, (.sc (.int .u8 35))] H fun t' H => k' t' H) fun t16 H =>
 p.guard t13 true H (fun k' => p.un .not t16 fun t' => k' t' H) fun t17 H =>
 p.pick t13 t17 (.sc (.bool false)) fun t18 =>
 p.guard t18 true H (fun k' => k' a0 H) fun t20 H =>
 p.guard t18 true H (fun k' => p.call 32 (.fn 187 [] []) [t20] H fun t' H => k' t' H) fun t21 H =>
 p.guard t18 true H (fun k' => p.len t21 fun t' => k' t' H) fun t22 H =>
 p.guard t18 true H (fun k' => p.bin .leq t22 (.sc (.int .i64 6)) fun t' => k' t' H) fun t23 H =>
 p.pick t18 t23 (.sc (.bool false)) fun t24 =>
 k t24 H
theorem Aco : Jl AfX @f181 := fun p n a0 H k => by kernel_rfl
noncomputable def f171 (p : Pr β) (n : Nat) (a0 : AV) (H : Ac) (k : KO β) : Option β :=
 p.box a0 H fun t1 H =>
 p.fadr 0 t1 fun t3 =>
 p.load false 1 t3 H fun t4 =>
 p.call 4 (.fn 181 [] []) [t4] H fun t5 H =>
 p.guard t5 true H (fun k' => p.fadr 1 t1 fun t' => k' t' H) fun t7 H =>
 p.guard t5 true H (fun k' => p.load false 1 t7 H fun t' => k' t' H) fun t8 H =>
 p.guard t5 true H (fun k' => p.len t8 fun t' => k' t' H) fun t9 H =>
 p.guard t5 true H (fun k' => p.bin .leq t9 (.sc (.int .i64 40)) fun t' => k' t' H) fun t10 H =>
 p.pick t5 t10 (.sc (.bool false)) fun t11 =>
 p.guard t11 true H (fun k' => p.fadr 2 t1 fun t' => k' t' H) fun t13 H =>
 p.guard t11 true H (fun k' => p.load false 1 t13 H fun t' => k' t' H) fun t14 H =>
 p.guard t11 true H (fun k' => p.call 4 (.fn 154 [] []) [t14, (.sc (.int .i64 0)), (.sc (.int .i64 2))] H fun t' H => k' t' H) fun t15 H =>
 p.pick t11 t15 (.sc (.bool false)) fun t16 =>
 k t16 H
theorem Abr : Jl AfO @f171 := fun p n a0 H k => by kernel_rfl
noncomputable def f172 (p : Pr β) (n : Nat) (a0 : AV) (H : Ac) (k : KO β) : Option β :=
 p.box a0 H fun t1 H =>
 p.fadr 1 t1 fun t3 =>
 p.fadr 2 t3 fun t4 =>
 p.load false 1 t4 H fun t5 =>
 p.bin .eql t5 (.sc (.int .i64 1)) fun t6 =>
 p.cond t6
 (p.fadr 5 t1 fun t7 =>
 p.load false 1 t7 H fun t8 =>
 p.bin .eql t8 (.sc (.int .i64 1)) fun t9 =>
 k t9 H)
 (p.fadr 1 t1 fun t10 =>
 p.fadr 2 t10 fun t11 =>
 p.load false 1 t11 H fun t12 =>
 p.bin .eql t12 (.sc (.int .i64 2)) fun t13 =>
 p.guard t13 true H (fun k' => p.fadr 5 t1 fun t' => k' t' H) fun t15 H =>
 p.guard t13 true H (fun k' => p.load false 1 t15 H fun t' => k' t' H) fun t16 H =>
 p.guard t13 true H (fun k' => p.bin .eql t16 (.sc (.int .i64 2)) fun t' => k' t' H) fun t17 H =>
 p.guard t13 true H (fun k' => k' t17 H) fun t18 H =>
 p.guard t18 false H (fun k' => p.fadr 5 t1 fun t' => k' t' H) fun t19 H =>
 p.guard t18 false H (fun k' => p.load false 1 t19 H fun t' => k' t' H) fun t20 H =>
 p.guard t18 false H (fun k' => p.bin .eql t20 (.sc (.int .i64 3)) fun t' => k' t' H) fun t21 H =>
 p.guard t13 true H (fun k' => p.pick t18 (.sc (.bool true)) t21 fun t' => k' t' H) fun t22 H =>
 p.pick t13 t22 (.sc (.bool false)) fun t23 =>
 k t23 H)
theorem AbV : Jl Agp @f172 := fun p n a0 H k => by kernel_rfl
noncomputable def O8 (p : Pr β) (n : Nat)  (k : KO β) : Nat → AV → KO β
 | 0, _, _, _ => none
 | m + 1, t0, t3, H => p.len t0 fun t6 =>
   p.bin .lss t3 t6 fun t7 =>
   p.cond t7
   (p.iadr 4 t0 t3 fun t12 =>
   p.load true 4 t12 H fun t13 =>
   p.call 4 (.fn 171 [] []) [t13] H fun t14 H =>
   p.un .not t14 fun t15 =>
   p.cond t15
   (k (.sc (.bool false)) H)
   (p.bin .add t3 (.sc (.int .i64 1)) fun t9 =>
   O8 p n  k m t0 t9 H))
   (p.len t0 fun t17 =>
   p.bin .leq t17 (.sc (.int .i64 6)) fun t18 =>
   k t18 H)
noncomputable def f173 (p : Pr β) (n : Nat) (a0 : AV) (H : Ac) (k : KO β) : Option β :=
 O8 p n  k n a0 (.sc (.int .i64 0)) H
noncomputable def Aa2 (p : Pr β) (n : Nat)  (k : KO β) (m : Nat) (tm : Tm) (H : Ac) : Option β :=
 Dz 19 (fun tm H k => An At p [] 19 n (cd AgK [1, 0, 1, 0, 0]) tm H k) (E5 0 (Em (fun tm H => An At p [] 19 n (cd AgK [1, 1]) tm H (C9 At p fi173.results k)) (C9 At p fi173.results k))) m tm H
theorem Xx (p : Pr β) (n : Nat)  (k : KO β) (m0 : Nat) : ∀ (t : Nat → AV) (H : Ac), Aa2 p n  k m0 (tf 19 0 t) H = O8 p n  k m0 (t 0) (t 3) H := by
 induction m0 with
 | zero => intros; rfl
 | succ m0 ih =>
  intro t H
  refine Eq.trans (Cd (nt := 19) (m := m0) (g := fun t H => O8 p n  k m0 (t 0) (t 3) H) ih rfl) ?_
  kernel_rfl
theorem Adi (p : Pr β) (n : Nat) (a0 : AV) (H : Ac) (k : KO β) : Ct At p n fi173 [a0] H k =
 Aa2 p n  k n (tf 19 0 (ud [(0, a0), (2, (.sc (.bool false))), (3, (.sc (.int .i64 0)))] ut)) H := by kernel_rfl
theorem Abk : Jl fi173 @f173 := fun p n a0 H k => by
 rw [Adi]
 simp only [Xx]
 kernel_rfl
noncomputable def Ob (p : Pr β) (n : Nat) (g0 : AV → KO β) (k : KO β) : Nat → AV → AV → KO β
 | 0, _, _, _, _ => none
 | m + 1, t1, t3, t4, H => p.bin .lss t4 t3 fun t41 =>
   p.cond t41
   (p.fadr 1 t1 fun t44 =>
   p.load false 1 t44 H fun t45 =>
   p.iadr 6 t45 t4 fun t47 =>
   p.fadr 0 t47 fun t48 =>
   p.load false 1 t48 H fun t49 =>
   p.fadr 1 t1 fun t50 =>
   p.load false 1 t50 H fun t51 =>
   p.iadr 6 t51 t3 fun t53 =>
   p.fadr 0 t53 fun t54 =>
   p.load false 1 t54 H fun t55 =>
   p.bin .eql t49 t55 fun t56 =>
   p.cond t56
   (k (.sc (.bool false)) H)
   (p.bin .add t4 (.sc (.int .i64 1)) fun t43 =>
   Ob p n g0 k m t1 t3 t43 H))
   (p.bin .add t3 (.sc (.int .i64 1)) fun t11 =>
   g0 t1 t11 H)
noncomputable def Mc (p : Pr β) (n : Nat)  (k : KO β) : Nat → AV → KO β
 | 0, _, _, _ => none
 | m + 1, t1, t3, H => p.fadr 1 t1 fun t6 =>
   p.load false 1 t6 H fun t7 =>
   p.len t7 fun t8 =>
   p.bin .lss t3 t8 fun t9 =>
   p.cond t9
   (p.fadr 1 t1 fun t12 =>
   p.load false 1 t12 H fun t13 =>
   p.iadr 6 t13 t3 fun t15 =>
   p.fadr 0 t15 fun t16 =>
   p.load false 1 t16 H fun t17 =>
   p.call 4 (.fn 154 [] []) [t17, (.sc (.int .i64 1)), (.sc (.int .i64 65535))] H fun t18 H =>
   p.un .not t18 fun t19 =>
   p.guard t19 false H (fun k' => p.fadr 1 t1 fun t' => k' t' H) fun t21 H =>
   p.guard t19 false H (fun k' => p.load false 1 t21 H fun t' => k' t' H) fun t22 H =>
   p.guard t19 false H (fun k' => k' t3 H) fun t23 H =>
   p.guard t19 false H (fun k' => p.iadr 6 t22 t23 fun t' => k' t' H) fun t24 H =>
   p.guard t19 false H (fun k' => p.fadr 1 t24 fun t' => k' t' H) fun t25 H =>
   p.guard t19 false H (fun k' => p.load true 4 t25 H fun t' => k' t' H) fun t26 H =>
   p.guard t19 false H (fun k' => p.call 4 (.fn 171 [] []) [t26] H fun t' H => k' t' H) fun t27 H =>
   p.guard t19 false H (fun k' => p.un .not t27 fun t' => k' t' H) fun t28 H =>
   p.pick t19 (.sc (.bool true)) t28 fun t29 =>
   p.guard t29 false H (fun k' => p.fadr 1 t1 fun t' => k' t' H) fun t31 H =>
   p.guard t29 false H (fun k' => p.load false 1 t31 H fun t' => k' t' H) fun t32 H =>
   p.guard t29 false H (fun k' => k' t3 H) fun t33 H =>
   p.guard t29 false H (fun k' => p.iadr 6 t32 t33 fun t' => k' t' H) fun t34 H =>
   p.guard t29 false H (fun k' => p.load true 6 t34 H fun t' => k' t' H) fun t35 H =>
   p.guard t29 false H (fun k' => p.call 4 (.fn 172 [] []) [t35] H fun t' H => k' t' H) fun t36 H =>
   p.guard t29 false H (fun k' => p.un .not t36 fun t' => k' t' H) fun t37 H =>
   p.pick t29 (.sc (.bool true)) t37 fun t38 =>
   p.cond t38
   (k (.sc (.bool false)) H)
   (Ob p n (Mc p n  k m) k n t1 t3 (.sc (.int .i64 0)) H))
   (p.fadr 0 t1 fun t57 =>
   p.load false 1 t57 H fun t58 =>
   p.call 4 (.fn 154 [] []) [t58, (.sc (.int .i64 0)), (.sc (.int .i64 65535))] H fun t59 H =>
   p.guard t59 true H (fun k' => p.fadr 1 t1 fun t' => k' t' H) fun t61 H =>
   p.guard t59 true H (fun k' => p.load false 1 t61 H fun t' => k' t' H) fun t62 H =>
   p.guard t59 true H (fun k' => p.len t62 fun t' => k' t' H) fun t63 H =>
   p.guard t59 true H (fun k' => p.bin .leq t63 (.sc (.int .i64 3)) fun t' => k' t' H) fun t64 H =>
   p.pick t59 t64 (.sc (.bool false)) fun t65 =>
   p.guard t65 true H (fun k' => p.fadr 2 t1 fun t' => k' t' H) fun t67 H =>
   p.guard t65 true H (fun k' => p.load false 1 t67 H fun t' => k' t' H) fun t68 H =>
   p.guard t65 true H (fun k' => p.call 4 (.fn 173 [] []) [t68] H fun t' H => k' t' H) fun t69 H =>
   p.pick t65 t69 (.sc (.bool false)) fun t70 =>
   k t70 H)
noncomputable def f155 (p : Pr β) (n : Nat) (a0 : AV) (H : Ac) (k : KO β) : Option β :=
 p.box a0 H fun t1 H =>
 Mc p n  k n t1 (.sc (.int .i64 0)) H
noncomputable def AaF (p : Pr β) (n : Nat) (g0 : AV → KO β) (k : KO β) (m : Nat) (tm : Tm) (H : Ac) : Option β :=
 Dz 71 (fun tm H k => An At p Uq 71 n (cd Vc [1, 0, 1, 0, 0, 1, 0, 0, 1, 1, 0, 0]) tm H k) (E5 2 (E5 1 (Em (fun tm H => An At p Uq 71 n (cd Vc [1, 0, 1, 0, 0, 1, 1]) tm H (Em (fun tm H => g0 (gt tm 1) (gt tm 3) H) (E5 0 (Em (fun tm H => An At p Uq 71 n (cd Vc [1, 1]) tm H (C9 At p fi155.results k)) (C9 At p fi155.results k))))) (Em (fun tm H => g0 (gt tm 1) (gt tm 3) H) (E5 0 (Em (fun tm H => An At p Uq 71 n (cd Vc [1, 1]) tm H (C9 At p fi155.results k)) (C9 At p fi155.results k))))))) m tm H
noncomputable def Aa6 (p : Pr β) (n : Nat)  (k : KO β) (m : Nat) (tm : Tm) (H : Ac) : Option β :=
 Dz 71 (fun tm H k => An At p Uq 71 n (cd Vc [1, 0, 1, 0, 0]) tm H k) (E5 0 (Em (fun tm H => An At p Uq 71 n (cd Vc [1, 1]) tm H (C9 At p fi155.results k)) (C9 At p fi155.results k))) m tm H
theorem Zt (p : Pr β) (n : Nat) (g0 : AV → KO β) (k : KO β) (m1 : Nat) : ∀ (t : Nat → AV) (H : Ac), AaF p n g0 k m1 (tf 71 0 t) H = Ob p n g0 k m1 (t 1) (t 3) (t 4) H := by
 induction m1 with
 | zero => intros; rfl
 | succ m1 ih =>
  intro t H
  refine Eq.trans (Cd (nt := 71) (m := m1) (g := fun t H => Ob p n g0 k m1 (t 1) (t 3) (t 4) H) ih rfl) ?_
  kernel_rfl
theorem Vj (p : Pr β) (n : Nat)  (k : KO β) (m0 : Nat) (t : Nat → AV) (H : Ac) : An At p Uq 71 n (cd Vc [1, 0, 1, 0, 0]) (tf 71 0 t) H (Em (fun tm H => Mc p n  k m0 (gt tm 1) (gt tm 3) H) (E5 0 (Em (fun tm H => An At p Uq 71 n (cd Vc [1, 1]) tm H (C9 At p fi155.results k)) (C9 At p fi155.results k)))) =
 p.fadr 1 (t 1) fun t6 =>
 p.load false 1 t6 H fun t7 =>
 p.len t7 fun t8 =>
 p.bin .lss (t 3) t8 fun t9 =>
 p.cond t9
 (p.fadr 1 (t 1) fun t12 =>
 p.load false 1 t12 H fun t13 =>
 p.iadr 6 t13 (t 3) fun t15 =>
 p.fadr 0 t15 fun t16 =>
 p.load false 1 t16 H fun t17 =>
 p.call 4 (.fn 154 [] []) [t17, (.sc (.int .i64 1)), (.sc (.int .i64 65535))] H fun t18 H =>
 p.un .not t18 fun t19 =>
 p.guard t19 false H (fun k' => p.fadr 1 (t 1) fun t' => k' t' H) fun t21 H =>
 p.guard t19 false H (fun k' => p.load false 1 t21 H fun t' => k' t' H) fun t22 H =>
 p.guard t19 false H (fun k' => k' (t 3) H) fun t23 H =>
 p.guard t19 false H (fun k' => p.iadr 6 t22 t23 fun t' => k' t' H) fun t24 H =>
 p.guard t19 false H (fun k' => p.fadr 1 t24 fun t' => k' t' H) fun t25 H =>
 p.guard t19 false H (fun k' => p.load true 4 t25 H fun t' => k' t' H) fun t26 H =>
 p.guard t19 false H (fun k' => p.call 4 (.fn 171 [] []) [t26] H fun t' H => k' t' H) fun t27 H =>
 p.guard t19 false H (fun k' => p.un .not t27 fun t' => k' t' H) fun t28 H =>
 p.pick t19 (.sc (.bool true)) t28 fun t29 =>
 p.guard t29 false H (fun k' => p.fadr 1 (t 1) fun t' => k' t' H) fun t31 H =>
 p.guard t29 false H (fun k' => p.load false 1 t31 H fun t' => k' t' H) fun t32 H =>
 p.guard t29 false H (fun k' => k' (t 3) H) fun t33 H =>
 p.guard t29 false H (fun k' => p.iadr 6 t32 t33 fun t' => k' t' H) fun t34 H =>
 p.guard t29 false H (fun k' => p.load true 6 t34 H fun t' => k' t' H) fun t35 H =>
 p.guard t29 false H (fun k' => p.call 4 (.fn 172 [] []) [t35] H fun t' H => k' t' H) fun t36 H =>
 p.guard t29 false H (fun k' => p.un .not t36 fun t' => k' t' H) fun t37 H =>
 p.pick t29 (.sc (.bool true)) t37 fun t38 =>
 p.cond t38
 (k (.sc (.bool false)) H)
 (AaF p n (Mc p n  k m0) k n (tf 71 0 (ud [(4, (.sc (.int .i64 0))), (5, (t 3)), (6, t6), (7, t7), (8, t8), (9, t9), (12, t12), (13, t13), (14, (t 3)), (15, t15), (16, t16), (17, t17), (18, t18), (19, t19), (20, t19), (21, t21), (22, t22), (23, t23), (24, t24), (25, t25), (26, t26), (27, t27), (28, t28), (29, t29), (30, t29), (31, t31), (32, t32), (33, t33), (34, t34), (35, t35), (36, t36), (37, t37), (38, t38)] t)) H))
 (p.fadr 0 (t 1) fun t57 =>
 p.load false 1 t57 H fun t58 =>
 p.call 4 (.fn 154 [] []) [t58, (.sc (.int .i64 0)), (.sc (.int .i64 65535))] H fun t59 H =>
 p.guard t59 true H (fun k' => p.fadr 1 (t 1) fun t' => k' t' H) fun t61 H =>
 p.guard t59 true H (fun k' => p.load false 1 t61 H fun t' => k' t' H) fun t62 H =>
 p.guard t59 true H (fun k' => p.len t62 fun t' => k' t' H) fun t63 H =>
 p.guard t59 true H (fun k' => p.bin .leq t63 (.sc (.int .i64 3)) fun t' => k' t' H) fun t64 H =>
 p.pick t59 t64 (.sc (.bool false)) fun t65 =>
 p.guard t65 true H (fun k' => p.fadr 2 (t 1) fun t' => k' t' H) fun t67 H =>
 p.guard t65 true H (fun k' => p.load false 1 t67 H fun t' => k' t' H) fun t68 H =>
 p.guard t65 true H (fun k' => p.call 4 (.fn 173 [] []) [t68] H fun t' H => k' t' H) fun t69 H =>
 p.pick t65 t69 (.sc (.bool false)) fun t70 =>
 k t70 H) := by kernel_rfl
theorem Yg (p : Pr β) (n : Nat)  (k : KO β) (m0 : Nat) : ∀ (t : Nat → AV) (H : Ac), Aa6 p n  k m0 (tf 71 0 t) H = Mc p n  k m0 (t 1) (t 3) H := by
 induction m0 with
 | zero => intros; rfl
 | succ m0 ih =>
  intro t H
  refine Eq.trans (Cd (nt := 71) (m := m0) (g := fun t H => Mc p n  k m0 (t 1) (t 3) H) ih rfl) ?_
  refine Eq.trans (Vj p n  k m0 t H) ?_
  simp only [Zt]
  kernel_rfl
theorem AdN (p : Pr β) (n : Nat) (a0 : AV) (H : Ac) (k : KO β) : Ct At p n fi155 [a0] H k =
 p.box a0 H fun t1 H =>
 Aa6 p n  k n (tf 71 0 (ud [(0, a0), (1, t1), (2, (.sc (.bool false))), (3, (.sc (.int .i64 0)))] ut)) H := by kernel_rfl
theorem AbE : Jl fi155 @f155 := fun p n a0 H k => by
 rw [AdN]
 simp only [Yg]
 kernel_rfl
noncomputable def O3 (p : Pr β) (n : Nat)  (k : KO β) : Nat → AV → KO β
 | 0, _, _, _ => none
 | m + 1, t0, t3, H => p.len t0 fun t6 =>
   p.bin .lss t3 t6 fun t7 =>
   p.cond t7
   (p.iadr 1 t0 t3 fun t12 =>
   p.load false 1 t12 H fun t13 =>
   p.call 4 (.fn 154 [] []) [t13, (.sc (.int .i64 1)), (.sc (.int .i64 65535))] H fun t14 H =>
   p.un .not t14 fun t15 =>
   p.guard t15 false H (fun k' => k' t3 H) fun t17 H =>
   p.guard t15 false H (fun k' => p.bin .gtr t17 (.sc (.int .i64 0)) fun t' => k' t' H) fun t18 H =>
   p.guard t15 false H (fun k' => k' t18 H) fun t19 H =>
   p.guard t19 true H (fun k' => k' t0 H) fun t20 H =>
   p.guard t19 true H (fun k' => k' t3 H) fun t21 H =>
   p.guard t19 true H (fun k' => p.bin .sub t21 (.sc (.int .i64 1)) fun t' => k' t' H) fun t22 H =>
   p.guard t19 true H (fun k' => p.iadr 1 t20 t22 fun t' => k' t' H) fun t23 H =>
   p.guard t19 true H (fun k' => p.load false 1 t23 H fun t' => k' t' H) fun t24 H =>
   p.guard t19 true H (fun k' => k' t0 H) fun t25 H =>
   p.guard t19 true H (fun k' => k' t3 H) fun t26 H =>
   p.guard t19 true H (fun k' => p.iadr 1 t25 t26 fun t' => k' t' H) fun t27 H =>
   p.guard t19 true H (fun k' => p.load false 1 t27 H fun t' => k' t' H) fun t28 H =>
   p.guard t19 true H (fun k' => p.bin .geq t24 t28 fun t' => k' t' H) fun t29 H =>
   p.guard t15 false H (fun k' => p.pick t19 t29 (.sc (.bool false)) fun t' => k' t' H) fun t30 H =>
   p.pick t15 (.sc (.bool true)) t30 fun t31 =>
   p.cond t31
   (k (.sc (.bool false)) H)
   (p.bin .add t3 (.sc (.int .i64 1)) fun t9 =>
   O3 p n  k m t0 t9 H))
   (p.len t0 fun t33 =>
   p.bin .leq t33 (.sc (.int .i64 4)) fun t34 =>
   k t34 H)
noncomputable def f156 (p : Pr β) (n : Nat) (a0 : AV) (H : Ac) (k : KO β) : Option β :=
 O3 p n  k n a0 (.sc (.int .i64 0)) H
noncomputable def Aae (p : Pr β) (n : Nat)  (k : KO β) (m : Nat) (tm : Tm) (H : Ac) : Option β :=
 Dz 35 (fun tm H k => An At p AgT 35 n (cd AgW [1, 0, 1, 0, 0]) tm H k) (E5 0 (Em (fun tm H => An At p AgT 35 n (cd AgW [1, 1]) tm H (C9 At p fi156.results k)) (C9 At p fi156.results k))) m tm H
theorem X4 (p : Pr β) (n : Nat)  (k : KO β) (m0 : Nat) : ∀ (t : Nat → AV) (H : Ac), Aae p n  k m0 (tf 35 0 t) H = O3 p n  k m0 (t 0) (t 3) H := by
 induction m0 with
 | zero => intros; rfl
 | succ m0 ih =>
  intro t H
  refine Eq.trans (Cd (nt := 35) (m := m0) (g := fun t H => O3 p n  k m0 (t 0) (t 3) H) ih rfl) ?_
  kernel_rfl
theorem Adc (p : Pr β) (n : Nat) (a0 : AV) (H : Ac) (k : KO β) : Ct At p n fi156 [a0] H k =
 Aae p n  k n (tf 35 0 (ud [(0, a0), (2, (.sc (.bool false))), (3, (.sc (.int .i64 0)))] ut)) H := by kernel_rfl
theorem AbD : Jl fi156 @f156 := fun p n a0 H k => by
 rw [Adc]
 simp only [X4]
 kernel_rfl
noncomputable def f136 (p : Pr β) (n : Nat) (a0 : AV) (H : Ac) (k : KO β) : Option β :=
 p.box a0 H fun t1 H =>
 p.fadr 3 t1 fun t3 =>
 p.load false 1 t3 H fun t4 =>
 p.bin .eql t4 (.sc (.int .i64 (-1))) fun t5 =>
 p.guard t5 true H (fun k' => p.fadr 2 t1 fun t' => k' t' H) fun t7 H =>
 p.guard t5 true H (fun k' => p.load false 1 t7 H fun t' => k' t' H) fun t8 H =>
 p.guard t5 true H (fun k' => k' t8 H) fun t9 H =>
 p.guard t9 false H (fun k' => p.fadr 4 t1 fun t' => k' t' H) fun t10 H =>
 p.guard t9 false H (fun k' => p.load false 1 t10 H fun t' => k' t' H) fun t11 H =>
 p.guard t9 false H (fun k' => p.bin .neq t11 (.sc (.int .i64 0)) fun t' => k' t' H) fun t12 H =>
 p.guard t5 true H (fun k' => p.pick t9 (.sc (.bool true)) t12 fun t' => k' t' H) fun t13 H =>
 p.pick t5 t13 (.sc (.bool false)) fun t14 =>
 p.cond t14
 (k (.sc (.bool false)) H)
 (p.fadr 0 t1 fun t15 =>
 p.load false 1 t15 H fun t16 =>
 p.call 4 (.fn 153 [] []) [t16] H fun t17 H =>
 p.guard t17 true H (fun k' => p.fadr 0 t1 fun t' => k' t' H) fun t19 H =>
 p.guard t17 true H (fun k' => p.load false 1 t19 H fun t' => k' t' H) fun t20 H =>
 p.guard t17 true H (fun k' => p.bin .neq t20 (.sc (.string ⟨#[]⟩)) fun t' => k' t' H) fun t21 H =>
 p.pick t17 t21 (.sc (.bool false)) fun t22 =>
 p.guard t22 true H (fun k' => p.fadr 1 t1 fun t' => k' t' H) fun t24 H =>
 p.guard t22 true H (fun k' => p.load false 1 t24 H fun t' => k' t' H) fun t25 H =>
 p.guard t22 true H (fun k' => p.bin .geq t25 (.sc (.int .i64 0)) fun t' => k' t' H) fun t26 H =>
 p.pick t22 t26 (.sc (.bool false)) fun t27 =>
 p.guard t27 true H (fun k' => p.fadr 3 t1 fun t' => k' t' H) fun t29 H =>
 p.guard t27 true H (fun k' => p.load false 1 t29 H fun t' => k' t' H) fun t30 H =>
 p.guard t27 true H (fun k' => p.call 4 (.fn 154 [] []) [t30, (.sc (.int .i64 (-1))), (.sc (.int .i64 3))] H fun t' H => k' t' H) fun t31 H =>
 p.pick t27 t31 (.sc (.bool false)) fun t32 =>
 p.guard t32 true H (fun k' => p.fadr 4 t1 fun t' => k' t' H) fun t34 H =>
 p.guard t32 true H (fun k' => p.load false 1 t34 H fun t' => k' t' H) fun t35 H =>
 p.guard t32 true H (fun k' => p.bin .geq t35 (.sc (.int .i64 0)) fun t' => k' t' H) fun t36 H =>
 p.pick t32 t36 (.sc (.bool false)) fun t37 =>
 p.guard t37 true H (fun k' => p.fadr 5 t1 fun t' => k' t' H) fun t39 H =>
 p.guard t37 true H (fun k' => p.load true 3 t39 H fun t' => k' t' H) fun t40 H =>
 p.guard t37 true H (fun k' => p.call 4 (.fn 155 [] []) [t40] H fun t' H => k' t' H) fun t41 H =>
 p.pick t37 t41 (.sc (.bool false)) fun t42 =>
 p.guard t42 true H (fun k' => p.fadr 8 t1 fun t' => k' t' H) fun t44 H =>
 p.guard t42 true H (fun k' => p.load false 1 t44 H fun t' => k' t' H) fun t45 H =>
 p.guard t42 true H (fun k' => p.call 4 (.fn 156 [] []) [t45] H fun t' H => k' t' H) fun t46 H =>
 p.pick t42 t46 (.sc (.bool false)) fun t47 =>
 k t47 H)
theorem Aci : Jl AfM @f136 := fun p n a0 H k => by kernel_rfl
noncomputable def f104 (p : Pr β) (n : Nat) (a0 a1 a2 a3 a4 : AV) (H : Ac) (k : KO β) : Option β :=
 p.new [(.sc (.string ⟨#[]⟩)), (.sc (.int .i64 0)), (.sc (.bool false)), (.sc (.int .i64 0)), (.sc (.int .i64 0)), (.sc (.int .i64 0)), .nl, .nl, .nl] H fun t10 H =>
 p.fill [(.sc (.string ⟨#[]⟩)), (.sc (.int .i64 0)), (.sc (.bool false)), (.sc (.int .i64 0)), (.sc (.int .i64 0)), (.sc (.int .i64 0)), .nl, .nl, .nl] [(0, 1, a0), (1, 1, a1), (2, 1, a2), (3, 1, a3), (4, 1, a4)] fun ct17 =>
 p.new [(.sc (.string ⟨#[]⟩)), (.sc (.int .i64 0)), (.sc (.bool false)), (.sc (.int .i64 0)), (.sc (.int .i64 0)), (.sc (.int .i64 0)), .nl, .nl, .nl] H fun t11 H =>
 p.store 9 t11 (.agg ct17) H fun H =>
 p.load true 9 t11 H fun t18 =>
 p.call 4 (.fn 136 [] []) [t18] H fun t19 H =>
 p.un .not t19 fun t20 =>
 p.cond t20
 (p.fill [(.sc (.string ⟨#[]⟩)), (.sc (.int .i64 0)), (.sc (.bool false)), (.sc (.int .i64 0)), (.sc (.int .i64 0)), (.sc (.int .i64 0)), .nl, .nl, .nl] [] fun ct21 =>
 p.store 9 t10 (.agg ct21) H fun H =>
 p.load true 9 t10 H fun r0 =>
 k r0 H)
 (p.load true 9 t11 H fun t22 =>
 p.store 9 t10 t22 H fun H =>
 p.load true 9 t10 H fun r0 =>
 k r0 H)
theorem Ab6 : Bd5 AfG @f104 := fun p n a0 a1 a2 a3 a4 H k => by kernel_rfl
noncomputable def f175 (p : Pr β) (n : Nat) (a0 : AV) (H : Ac) (k : KO β) : Option β :=
 p.box a0 H fun t1 H =>
 p.new [(.sc (.string ⟨#[]⟩)), .nl, (.sc (.int .i64 0)), (.sc (.bool false))] H fun t2 H =>
 p.fadr 0 t1 fun t3 =>
 p.load false 1 t3 H fun t4 =>
 p.fadr 1 t1 fun t6 =>
 p.load false 1 t6 H fun t7 =>
 p.fadr 2 t1 fun t9 =>
 p.load false 1 t9 H fun t10 =>
 p.fadr 3 t1 fun t11 =>
 p.load false 1 t11 H fun t12 =>
 p.app 1 1 .nl t7 H fun t8 H =>
 p.fill [(.sc (.string ⟨#[]⟩)), .nl, (.sc (.int .i64 0)), (.sc (.bool false))] [(0, 1, t4), (1, 1, t8), (2, 1, t10), (3, 1, t12)] fun ct13 =>
 p.store 4 t2 (.agg ct13) H fun H =>
 p.load true 4 t2 H fun r0 =>
 k r0 H
theorem Abv : Jl AfH @f175 := fun p n a0 H k => by kernel_rfl
noncomputable def Mb (p : Pr β) (n : Nat)  (k : KO β) : Nat → AV → AV → KO β
 | 0, _, _, _, _ => none
 | m + 1, t0, t3, t4, H => p.len t0 fun t8 =>
   p.bin .lss t4 t8 fun t9 =>
   p.cond t9
   (p.iadr 4 t0 t4 fun t15 =>
   p.load true 4 t15 H fun t16 =>
   p.call 73 (.fn 175 [] []) [t16] H fun t17 H =>
   p.fill [(.sc (.string ⟨#[]⟩)), .nl, (.sc (.int .i64 0)), (.sc (.bool false))] [(0, 4, t17)] fun ct18 => p.newSl 1 4 ct18 true H fun t18 H =>
   p.app 4 56 t3 t18 H fun t19 H =>
   p.bin .add t4 (.sc (.int .i64 1)) fun t11 =>
   Mb p n  k m t0 t19 t11 H)
   (k t3 H)
noncomputable def f174 (p : Pr β) (n : Nat) (a0 : AV) (H : Ac) (k : KO β) : Option β :=
 Mb p n  k n a0 .nl (.sc (.int .i64 0)) H
noncomputable def AaA (p : Pr β) (n : Nat)  (k : KO β) (m : Nat) (tm : Tm) (H : Ac) : Option β :=
 Dz 21 (fun tm H k => An At p [] 21 n (cd Ag9 [1, 1, 0, 1, 0, 0]) tm H k) (E5 0 (Em (fun tm H => An At p [] 21 n (cd Ag9 [1, 1, 1]) tm H (C9 At p fi174.results k)) (C9 At p fi174.results k))) m tm H
theorem X9 (p : Pr β) (n : Nat)  (k : KO β) (m0 : Nat) : ∀ (t : Nat → AV) (H : Ac), AaA p n  k m0 (tf 21 0 t) H = Mb p n  k m0 (t 0) (t 3) (t 4) H := by
 induction m0 with
 | zero => intros; rfl
 | succ m0 ih =>
  intro t H
  refine Eq.trans (Cd (nt := 21) (m := m0) (g := fun t H => Mb p n  k m0 (t 0) (t 3) (t 4) H) ih rfl) ?_
  kernel_rfl
theorem Acy (p : Pr β) (n : Nat) (a0 : AV) (H : Ac) (k : KO β) : Ct At p n fi174 [a0] H k =
 AaA p n  k n (tf 21 0 (ud [(0, a0), (2, .nl), (3, .nl), (4, (.sc (.int .i64 0))), (5, .nl)] ut)) H := by kernel_rfl
theorem AaI : Jl fi174 @f174 := fun p n a0 H k => by
 rw [Acy]
 simp only [X9]
 kernel_rfl
noncomputable def Nh (p : Pr β) (n : Nat)  (k : KO β) : Nat → AV → AV → AV → KO β
 | 0, _, _, _, _, _ => none
 | m + 1, t1, t2, t3, t4, H => p.fadr 1 t1 fun t12 =>
   p.load false 1 t12 H fun t13 =>
   p.len t13 fun t14 =>
   p.bin .lss t4 t14 fun t15 =>
   p.cond t15
   (p.fadr 1 t3 fun t18 =>
   p.load false 1 t18 H fun t19 =>
   p.fadr 1 t1 fun t20 =>
   p.load false 1 t20 H fun t21 =>
   p.iadr 6 t21 t4 fun t23 =>
   p.fadr 0 t23 fun t24 =>
   p.load false 1 t24 H fun t25 =>
   p.fadr 1 t1 fun t26 =>
   p.load false 1 t26 H fun t27 =>
   p.iadr 6 t27 t4 fun t29 =>
   p.fadr 1 t29 fun t30 =>
   p.load true 4 t30 H fun t31 =>
   p.fadr 1 t1 fun t33 =>
   p.load false 1 t33 H fun t34 =>
   p.iadr 6 t34 t4 fun t36 =>
   p.fadr 5 t36 fun t37 =>
   p.load false 1 t37 H fun t38 =>
   p.call 73 (.fn 175 [] []) [t31] H fun t32 H =>
   p.fill [(.sc (.int .i64 0)), (.sc (.string ⟨#[]⟩)), .nl, (.sc (.int .i64 0)), (.sc (.bool false)), (.sc (.int .i64 0))] [(0, 1, t25), (1, 4, t32), (5, 1, t38)] fun ct39 =>
   p.fill [(.sc (.int .i64 0)), (.sc (.string ⟨#[]⟩)), .nl, (.sc (.int .i64 0)), (.sc (.bool false)), (.sc (.int .i64 0))] [(0, 6, (.agg ct39))] fun ct40 => p.newSl 1 6 ct40 true H fun t40 H =>
   p.app 6 72 t19 t40 H fun t41 H =>
   p.fadr 1 t3 fun t42 =>
   p.store 1 t42 t41 H fun H =>
   p.bin .add t4 (.sc (.int .i64 1)) fun t17 =>
   Nh p n  k m t1 t2 t3 t17 H)
   (p.load true 3 t3 H fun t43 =>
   p.store 3 t2 t43 H fun H =>
   p.load true 3 t2 H fun r0 =>
   k r0 H)
noncomputable def f157 (p : Pr β) (n : Nat) (a0 : AV) (H : Ac) (k : KO β) : Option β :=
 p.box a0 H fun t1 H =>
 p.new [(.sc (.int .i64 0)), .nl, .nl] H fun t2 H =>
 p.fadr 0 t1 fun t5 =>
 p.load false 1 t5 H fun t6 =>
 p.fadr 2 t1 fun t7 =>
 p.load false 1 t7 H fun t8 =>
 p.both
 (p.call 79 (.fn 174 [] []) [t8] H fun t9 H =>
 p.fill [(.sc (.int .i64 0)), .nl, .nl] [(0, 1, t6), (2, 1, t9)] fun ct10 =>
 p.new [(.sc (.int .i64 0)), .nl, .nl] H fun t3 H =>
 p.store 3 t3 (.agg ct10) H fun H =>
 Nh p n  k n t1 t2 t3 (.sc (.int .i64 0)) H)
 (p.new [(.sc (.int .i64 0)), .nl, .nl] H fun t3 H =>
 p.call 79 (.fn 174 [] []) [t8] H fun t9 H =>
 p.fill [(.sc (.int .i64 0)), .nl, .nl] [(0, 1, t6), (2, 1, t9)] fun ct10 =>
 p.store 3 t3 (.agg ct10) H fun H =>
 Nh p n  k n t1 t2 t3 (.sc (.int .i64 0)) H)
noncomputable def Vs (p : Pr β) (n : Nat)  (k : KO β) (m : Nat) (tm : Tm) (H : Ac) : Option β :=
 Dz 44 (fun tm H k => An At p AgA 44 n (cd Ahq [1, 1, 0, 1, 0, 0]) tm H k) (E5 0 (Em (fun tm H => An At p AgA 44 n (cd Ahq [1, 1, 1]) tm H (C9 At p fi157.results k)) (C9 At p fi157.results k))) m tm H
theorem X7 (p : Pr β) (n : Nat)  (k : KO β) (m0 : Nat) : ∀ (t : Nat → AV) (H : Ac), Vs p n  k m0 (tf 44 0 t) H = Nh p n  k m0 (t 1) (t 2) (t 3) (t 4) H := by
 induction m0 with
 | zero => intros; rfl
 | succ m0 ih =>
  intro t H
  refine Eq.trans (Cd (nt := 44) (m := m0) (g := fun t H => Nh p n  k m0 (t 1) (t 2) (t 3) (t 4) H) ih rfl) ?_
  kernel_rfl
theorem AdM (p : Pr β) (n : Nat) (a0 : AV) (H : Ac) (k : KO β) : Ct At p n fi157 [a0] H k =
 p.box a0 H fun t1 H =>
 p.new [(.sc (.int .i64 0)), .nl, .nl] H fun t2 H =>
 p.fadr 0 t1 fun t5 =>
 p.load false 1 t5 H fun t6 =>
 p.fadr 2 t1 fun t7 =>
 p.load false 1 t7 H fun t8 =>
 p.both
 (p.call 79 (.fn 174 [] []) [t8] H fun t9 H =>
 p.fill [(.sc (.int .i64 0)), .nl, .nl] [(0, 1, t6), (2, 1, t9)] fun ct10 =>
 p.new [(.sc (.int .i64 0)), .nl, .nl] H fun t3 H =>
 p.store 3 t3 (.agg ct10) H fun H =>
 Vs p n  k n (tf 44 0 (ud [(0, a0), (1, t1), (2, t2), (3, t3), (4, (.sc (.int .i64 0))), (5, t5), (6, t6), (7, t7), (8, t8), (9, t9), (10, (.agg ct10))] ut)) H)
 (p.new [(.sc (.int .i64 0)), .nl, .nl] H fun t3 H =>
 p.call 79 (.fn 174 [] []) [t8] H fun t9 H =>
 p.fill [(.sc (.int .i64 0)), .nl, .nl] [(0, 1, t6), (2, 1, t9)] fun ct10 =>
 p.store 3 t3 (.agg ct10) H fun H =>
 Vs p n  k n (tf 44 0 (ud [(0, a0), (1, t1), (2, t2), (3, t3), (4, (.sc (.int .i64 0))), (5, t5), (6, t6), (7, t7), (8, t8), (9, t9), (10, (.agg ct10))] ut)) H) := by kernel_rfl
theorem AbX : Jl fi157 @f157 := fun p n a0 H k => by
 rw [AdM]
 simp only [X7]
 kernel_rfl
noncomputable def f138 (p : Pr β) (n : Nat) (a0 : AV) (H : Ac) (k : KO β) : Option β :=
 p.box a0 H fun t1 H =>
 p.new [(.sc (.string ⟨#[]⟩)), (.sc (.int .i64 0)), (.sc (.bool false)), (.sc (.int .i64 0)), (.sc (.int .i64 0)), (.sc (.int .i64 0)), .nl, .nl, .nl] H fun t2 H =>
 p.load true 9 t1 H fun t4 =>
 p.new [(.sc (.string ⟨#[]⟩)), (.sc (.int .i64 0)), (.sc (.bool false)), (.sc (.int .i64 0)), (.sc (.int .i64 0)), (.sc (.int .i64 0)), .nl, .nl, .nl] H fun t3 H =>
 p.store 9 t3 t4 H fun H =>
 p.fadr 5 t1 fun t5 =>
 p.load true 3 t5 H fun t6 =>
 p.call 115 (.fn 157 [] []) [t6] H fun t7 H =>
 p.fadr 5 t3 fun t8 =>
 p.store 3 t8 t7 H fun H =>
 p.fadr 8 t1 fun t10 =>
 p.load false 1 t10 H fun t11 =>
 p.app 1 8 .nl t11 H fun t12 H =>
 p.fadr 8 t3 fun t13 =>
 p.store 1 t13 t12 H fun H =>
 p.load true 9 t3 H fun t14 =>
 p.store 9 t2 t14 H fun H =>
 p.load true 9 t2 H fun r0 =>
 k r0 H
theorem Abe : Jl Agm @f138 := fun p n a0 H k => by kernel_rfl
noncomputable def f105 (p : Pr β) (n : Nat) (a0 : AV) (H : Ac) (k : KO β) : Option β :=
 p.box a0 H fun t1 H =>
 p.new [(.sc (.string ⟨#[]⟩)), (.sc (.int .i64 0)), (.sc (.bool false)), (.sc (.int .i64 0)), (.sc (.int .i64 0)), (.sc (.int .i64 0)), .nl, .nl, .nl] H fun t2 H =>
 p.load true 9 t1 H fun t4 =>
 p.call 117 (.fn 138 [] []) [t4] H fun t5 H =>
 p.new [(.sc (.string ⟨#[]⟩)), (.sc (.int .i64 0)), (.sc (.bool false)), (.sc (.int .i64 0)), (.sc (.int .i64 0)), (.sc (.int .i64 0)), .nl, .nl, .nl] H fun t3 H =>
 p.store 9 t3 t5 H fun H =>
 p.load true 9 t1 H fun t6 =>
 p.call 4 (.fn 136 [] []) [t6] H fun t7 H =>
 p.guard t7 true H (fun k' => p.fadr 2 t1 fun t' => k' t' H) fun t9 H =>
 p.guard t7 true H (fun k' => p.load false 1 t9 H fun t' => k' t' H) fun t10 H =>
 p.guard t7 true H (fun k' => p.un .not t10 fun t' => k' t' H) fun t11 H =>
 p.pick t7 t11 (.sc (.bool false)) fun t12 =>
 M7 (fun (t2 t3 : AV) (H : Ac) => p.load true 9 t3 H fun t15 =>
 p.store 9 t2 t15 H fun H =>
 p.load true 9 t2 H fun r0 =>
 k r0 H) fun j1 =>
 p.cond t12
 (p.fadr 3 t3 fun t13 =>
 p.store 1 t13 (.sc (.int .i64 (-1))) H fun H =>
 p.fadr 4 t3 fun t14 =>
 p.store 1 t14 (.sc (.int .i64 0)) H fun H =>
 j1 t2 t3 H)
 (j1 t2 t3 H)
theorem Abl : Jl AfL @f105 := fun p n a0 H k => by kernel_rfl
noncomputable def f32 (p : Pr β) (n : Nat) (a0 a1 : AV) (H : Ac) (k : KO β) : Option β :=
 p.len a1 fun t8 =>
 p.call 3 (.fn 29 [] []) [a0, t8] H fun t9 H =>
 p.iadr 1 a1 t9 fun t10 =>
 p.load false 1 t10 H fun t11 =>
 k t11 H
theorem Ad2 : T7 AhX @f32 := fun p n a0 a1 H k => by kernel_rfl
noncomputable def f166 (p : Pr β) (n : Nat) (a0 : AV) (H : Ac) (k : KO β) : Option β :=
 p.fill [(.sc (.string ⟨#[]⟩)), (.sc (.string ⟨#[]⟩)), (.sc (.string ⟨#[]⟩)), (.sc (.string ⟨#[]⟩)), (.sc (.string ⟨#[]⟩)), (.sc (.string ⟨#[]⟩)), (.sc (.string ⟨#[]⟩)), (.sc (.string ⟨#[]⟩)), (.sc (.string ⟨#[]⟩)), (.sc (.string ⟨#[]⟩)), (.sc (.string ⟨#[]⟩)), (.sc (.string ⟨#[]⟩)), (.sc (.string ⟨#[]⟩))] [(0, 1, (.sc (.string ⟨#[97]⟩))), (1, 1, (.sc (.string ⟨#[98]⟩))), (2, 1, (.sc (.string ⟨#[97, 47, 98]⟩))), (3, 1, (.sc (.string ⟨#[97, 47, 99]⟩))), (4, 1, (.sc (.string ⟨#[97, 47, 98, 47, 99]⟩))), (5, 1, (.sc (.string ⟨#[97, 47, 98, 47, 99, 47, 100]⟩))), (6, 1, (.sc (.string ⟨#[36, 115]⟩))), (7, 1, (.sc (.string ⟨#[36, 115, 47, 97]⟩))), (8, 1, (.sc (.string ⟨#[47]⟩))), (9, 1, (.sc (.string ⟨#[97, 47]⟩))), (10, 1, (.sc (.string ⟨#[47, 97]⟩))), (11, 1, (.sc (.string ⟨#[98, 47, 98]⟩))), (12, 1, (.sc (.string ⟨#[195, 169, 47, 97]⟩)))] fun ct4 => p.newSl 13 1 ct4 true H fun t4 H =>
 p.call 9 (.fn 64 [] []) [a0, t4] H fun t5 H =>
 k t5 H
theorem Abg : Jl Agg @f166 := fun p n a0 H k => by kernel_rfl
noncomputable def Lp (p : Pr β) (n : Nat)  (k : KO β) : Nat → AV → AV → AV → KO β
 | 0, _, _, _, _, _ => none
 | m + 1, t0, t1, t5, t6, H => p.bin .lss t6 t1 fun t10 =>
   p.cond t10
   (p.call 3 (.fn 65 [] []) [t0] H fun t15 H =>
   p.cvI .u8 t15 fun t16 =>
   p.fill [(.sc (.int .u8 0))] [(0, 1, t16)] fun ct17 => p.newSl 1 1 ct17 true H fun t17 H =>
   p.app 1 1 t5 t17 H fun t18 H =>
   p.bin .add t6 (.sc (.int .i64 1)) fun t12 =>
   Lp p n  k m t0 t1 t18 t12 H)
   (k t5 H)
noncomputable def f159 (p : Pr β) (n : Nat) (a0 a1 : AV) (H : Ac) (k : KO β) : Option β :=
 Lp p n  k n a0 a1 .nl (.sc (.int .i64 0)) H
noncomputable def Aa7 (p : Pr β) (n : Nat)  (k : KO β) (m : Nat) (tm : Tm) (H : Ac) : Option β :=
 Dz 20 (fun tm H k => An At p [] 20 n (cd Ahe [1, 1, 0, 1, 0, 0]) tm H k) (E5 0 (Em (fun tm H => An At p [] 20 n (cd Ahe [1, 1, 1]) tm H (C9 At p fi159.results k)) (C9 At p fi159.results k))) m tm H
theorem X8 (p : Pr β) (n : Nat)  (k : KO β) (m0 : Nat) : ∀ (t : Nat → AV) (H : Ac), Aa7 p n  k m0 (tf 20 0 t) H = Lp p n  k m0 (t 0) (t 1) (t 5) (t 6) H := by
 induction m0 with
 | zero => intros; rfl
 | succ m0 ih =>
  intro t H
  refine Eq.trans (Cd (nt := 20) (m := m0) (g := fun t H => Lp p n  k m0 (t 0) (t 1) (t 5) (t 6) H) ih rfl) ?_
  kernel_rfl
theorem Ad6 (p : Pr β) (n : Nat) (a0 a1 : AV) (H : Ac) (k : KO β) : Ct At p n fi159 [a0, a1] H k =
 Aa7 p n  k n (tf 20 0 (ud [(0, a0), (1, a1), (4, .nl), (5, .nl), (6, (.sc (.int .i64 0))), (7, .nl)] ut)) H := by kernel_rfl
theorem Abw : T7 fi159 @f159 := fun p n a0 a1 H k => by
 rw [Ad6]
 simp only [X8]
 kernel_rfl
noncomputable def f145 (p : Pr β) (n : Nat) (a0 : AV) (H : Ac) (k : KO β) : Option β :=
 p.new [(.sc (.string ⟨#[]⟩)), .nl, (.sc (.int .i64 0)), (.sc (.bool false))] H fun t2 H =>
 p.call 9 (.fn 166 [] []) [a0] H fun t4 H =>
 p.call 3 (.fn 29 [] []) [a0, (.sc (.int .i64 3))] H fun t7 H =>
 p.call 22 (.fn 159 [] []) [a0, t7] H fun t8 H =>
 p.call 3 (.fn 29 [] []) [a0, (.sc (.int .i64 3))] H fun t10 H =>
 p.call 4 (.fn 28 [] []) [a0, (.sc (.int .i64 4))] H fun t12 H =>
 p.fill [(.sc (.string ⟨#[]⟩)), .nl, (.sc (.int .i64 0)), (.sc (.bool false))] [(0, 1, t4), (1, 1, t8), (2, 1, t10), (3, 1, t12)] fun ct13 =>
 p.store 4 t2 (.agg ct13) H fun H =>
 p.load true 4 t2 H fun r0 =>
 k r0 H
theorem Acs : Jl AfV @f145 := fun p n a0 H k => by kernel_rfl
noncomputable def Lq (p : Pr β) (n : Nat)  (k : KO β) : Nat → AV → AV → KO β
 | 0, _, _, _, _ => none
 | m + 1, t0, t5, t6, H => p.bin .gtr t6 (.sc (.int .i64 0)) fun t13 =>
   p.cond t13
   (p.call 73 (.fn 145 [] []) [t0] H fun t18 H =>
   p.fill [(.sc (.string ⟨#[]⟩)), .nl, (.sc (.int .i64 0)), (.sc (.bool false))] [(0, 4, t18)] fun ct19 => p.newSl 1 4 ct19 true H fun t19 H =>
   p.app 4 56 t5 t19 H fun t20 H =>
   p.bin .sub t6 (.sc (.int .i64 1)) fun t15 =>
   Lq p n  k m t0 t20 t15 H)
   (k t5 H)
noncomputable def f141 (p : Pr β) (n : Nat) (a0 a1 : AV) (H : Ac) (k : KO β) : Option β :=
 p.bin .add a1 (.sc (.int .i64 1)) fun t10 =>
 p.call 3 (.fn 29 [] []) [a0, t10] H fun t11 H =>
 Lq p n  k n a0 .nl t11 H
noncomputable def Aao (p : Pr β) (n : Nat)  (k : KO β) (m : Nat) (tm : Tm) (H : Ac) : Option β :=
 Dz 22 (fun tm H k => An At p [] 22 n (cd Ag6 [1, 1, 0, 1, 0, 0]) tm H k) (E5 0 (Em (fun tm H => An At p [] 22 n (cd Ag6 [1, 1, 1]) tm H (C9 At p fi141.results k)) (C9 At p fi141.results k))) m tm H
theorem Za (p : Pr β) (n : Nat)  (k : KO β) (m0 : Nat) : ∀ (t : Nat → AV) (H : Ac), Aao p n  k m0 (tf 22 0 t) H = Lq p n  k m0 (t 0) (t 5) (t 6) H := by
 induction m0 with
 | zero => intros; rfl
 | succ m0 ih =>
  intro t H
  refine Eq.trans (Cd (nt := 22) (m := m0) (g := fun t H => Lq p n  k m0 (t 0) (t 5) (t 6) H) ih rfl) ?_
  kernel_rfl
theorem Adp (p : Pr β) (n : Nat) (a0 a1 : AV) (H : Ac) (k : KO β) : Ct At p n fi141 [a0, a1] H k =
 p.bin .add a1 (.sc (.int .i64 1)) fun t10 =>
 p.call 3 (.fn 29 [] []) [a0, t10] H fun t11 H =>
 Aao p n  k n (tf 22 0 (ud [(0, a0), (1, a1), (4, .nl), (5, .nl), (6, t11), (7, .nl), (8, a0), (9, a1), (10, t10), (11, t11)] ut)) H := by kernel_rfl
theorem Abx : T7 fi141 @f141 := fun p n a0 a1 H k => by
 rw [Adp]
 simp only [Za]
 kernel_rfl
noncomputable def f160 (p : Pr β) (n : Nat) (a0 : AV) (H : Ac) (k : KO β) : Option β :=
 p.box a0 H fun t1 H =>
 p.load true 3 t1 H fun t3 =>
 p.call 4 (.fn 155 [] []) [t3] H fun t4 H =>
 p.guard t4 true H (fun k' => p.fadr 2 t1 fun t' => k' t' H) fun t6 H =>
 p.guard t4 true H (fun k' => p.load false 1 t6 H fun t' => k' t' H) fun t7 H =>
 p.guard t4 true H (fun k' => p.len t7 fun t' => k' t' H) fun t8 H =>
 p.guard t4 true H (fun k' => p.bin .gtr t8 (.sc (.int .i64 0)) fun t' => k' t' H) fun t9 H =>
 p.pick t4 t9 (.sc (.bool false)) fun t10 =>
 p.guard t10 true H (fun k' => p.fadr 2 t1 fun t' => k' t' H) fun t12 H =>
 p.guard t10 true H (fun k' => p.load false 1 t12 H fun t' => k' t' H) fun t13 H =>
 p.guard t10 true H (fun k' => p.iadr 4 t13 (.sc (.int .i64 0)) fun t' => k' t' H) fun t14 H =>
 p.guard t10 true H (fun k' => p.fadr 2 t14 fun t' => k' t' H) fun t15 H =>
 p.guard t10 true H (fun k' => p.load false 1 t15 H fun t' => k' t' H) fun t16 H =>
 p.guard t10 true H (fun k' => p.bin .eql t16 (.sc (.int .i64 0)) fun t' => k' t' H) fun t17 H =>
 p.guard t10 true H (fun k' => k' t17 H) fun t18 H =>
 p.guard t18 false H (fun k' => p.fadr 1 t1 fun t' => k' t' H) fun t19 H =>
 p.guard t18 false H (fun k' => p.load false 1 t19 H fun t' => k' t' H) fun t20 H =>
 p.guard t18 false H (fun k' => p.len t20 fun t' => k' t' H) fun t21 H =>
 p.guard t18 false H (fun k' => p.bin .lss t21 (.sc (.int .i64 3)) fun t' => k' t' H) fun t22 H =>
 p.guard t10 true H (fun k' => p.pick t18 (.sc (.bool true)) t22 fun t' => k' t' H) fun t23 H =>
 p.pick t10 t23 (.sc (.bool false)) fun t24 =>
 k t24 H
theorem Abz : Jl AfQ @f160 := fun p n a0 H k => by kernel_rfl
noncomputable def f161 (p : Pr β) (n : Nat) (a0 : AV) (H : Ac) (k : KO β) : Option β :=
 p.new [(.sc (.string ⟨#[]⟩)), .nl, (.sc (.int .i64 0)), (.sc (.bool false))] H fun t3 H =>
 p.len a0 fun t6 =>
 p.bin .eql t6 (.sc (.int .i64 0)) fun t7 =>
 p.cond t7
 (p.fill [(.sc (.string ⟨#[]⟩)), .nl, (.sc (.int .i64 0)), (.sc (.bool false))] [] fun ct9 =>
 p.store 4 t3 (.agg ct9) H fun H =>
 p.load true 4 t3 H fun r1 =>
 k (Cq [.nl, r1, (.sc (.bool false))]) H)
 (p.slice 4 a0 (some (.sc (.int .i64 1))) none fun t11 =>
 p.iadr 4 a0 (.sc (.int .i64 0)) fun t14 =>
 p.load true 4 t14 H fun t15 =>
 p.call 79 (.fn 174 [] []) [t11] H fun t12 H =>
 p.call 73 (.fn 175 [] []) [t15] H fun t16 H =>
 p.store 4 t3 t16 H fun H =>
 p.load true 4 t3 H fun r1 =>
 k (Cq [t12, r1, (.sc (.bool true))]) H)
theorem AbY : Jl AfK @f161 := fun p n a0 H k => by kernel_rfl
noncomputable def f162 (p : Pr β) (n : Nat) (a0 a1 a2 : AV) (H : Ac) (k : KO β) : Option β :=
 p.box a0 H fun t3 H =>
 p.new [(.sc (.int .i64 0)), (.sc (.bool false)), (.sc (.int .i64 0)), (.sc (.bool false)), (.sc (.int .i64 0)), (.sc (.string ⟨#[]⟩)), .nl, (.sc (.string ⟨#[]⟩)), (.sc (.int .i64 0)), (.sc (.bool false)), (.sc (.int .i64 0)), (.sc (.bool false)), (.sc (.string ⟨#[]⟩)), .nl, (.sc (.int .i64 0)), (.sc (.bool false)), (.sc (.bool false)), (.sc (.string ⟨#[]⟩)), (.sc (.bool false)), .nl, (.sc (.int .i64 0)), (.sc (.bool false)), .nl, .nl, .nl] H fun t6 H =>
 p.fadr 2 t3 fun t8 =>
 p.load false 1 t8 H fun t9 =>
 p.fadr 3 t3 fun t10 =>
 p.load false 1 t10 H fun t11 =>
 p.fadr 0 t3 fun t13 =>
 p.load false 1 t13 H fun t14 =>
 p.fadr 1 t3 fun t16 =>
 p.load false 1 t16 H fun t17 =>
 p.app 1 1 .nl t17 H fun t18 H =>
 p.fill [(.sc (.int .i64 0)), (.sc (.bool false)), (.sc (.int .i64 0)), (.sc (.bool false)), (.sc (.int .i64 0)), (.sc (.string ⟨#[]⟩)), .nl, (.sc (.string ⟨#[]⟩)), (.sc (.int .i64 0)), (.sc (.bool false)), (.sc (.int .i64 0)), (.sc (.bool false)), (.sc (.string ⟨#[]⟩)), .nl, (.sc (.int .i64 0)), (.sc (.bool false)), (.sc (.bool false)), (.sc (.string ⟨#[]⟩)), (.sc (.bool false)), .nl, (.sc (.int .i64 0)), (.sc (.bool false)), .nl, .nl, .nl] [(0, 1, (.sc (.int .i64 3))), (1, 1, a2), (2, 1, t9), (3, 1, t11), (4, 1, a1), (5, 1, t14), (6, 1, t18)] fun ct19 =>
 p.store 25 t6 (.agg ct19) H fun H =>
 p.load true 25 t6 H fun r0 =>
 k r0 H
theorem AaQ : Bd3 Aga @f162 := fun p n a0 a1 a2 H k => by kernel_rfl
noncomputable def Ln (p : Pr β) (n : Nat)  (k : KO β) : Nat → AV → AV → KO β
 | 0, _, _, _, _ => none
 | m + 1, t0, t1, t5, H => p.len t0 fun t8 =>
   p.bin .lss t5 t8 fun t9 =>
   p.cond t9
   (p.iadr 1 t0 t5 fun t14 =>
   p.load false 1 t14 H fun t15 =>
   p.bin .eql t15 t1 fun t17 =>
   p.cond t17
   (k (.sc (.bool true)) H)
   (p.bin .add t5 (.sc (.int .i64 1)) fun t11 =>
   Ln p n  k m t0 t1 t11 H))
   (k (.sc (.bool false)) H)
noncomputable def f177 (p : Pr β) (n : Nat) (a0 a1 : AV) (H : Ac) (k : KO β) : Option β :=
 Ln p n  k n a0 a1 (.sc (.int .i64 0)) H
noncomputable def Z2 (p : Pr β) (n : Nat)  (k : KO β) (m : Nat) (tm : Tm) (H : Ac) : Option β :=
 Dz 18 (fun tm H k => An At p [] 18 n (cd Ahy [1, 0, 1, 0, 0]) tm H k) (E5 0 (Em (fun tm H => An At p [] 18 n (cd Ahy [1, 1]) tm H (C9 At p fi177.results k)) (C9 At p fi177.results k))) m tm H
theorem Zv (p : Pr β) (n : Nat)  (k : KO β) (m0 : Nat) : ∀ (t : Nat → AV) (H : Ac), Z2 p n  k m0 (tf 18 0 t) H = Ln p n  k m0 (t 0) (t 1) (t 5) H := by
 induction m0 with
 | zero => intros; rfl
 | succ m0 ih =>
  intro t H
  refine Eq.trans (Cd (nt := 18) (m := m0) (g := fun t H => Ln p n  k m0 (t 0) (t 1) (t 5) H) ih rfl) ?_
  kernel_rfl
theorem Adf (p : Pr β) (n : Nat) (a0 a1 : AV) (H : Ac) (k : KO β) : Ct At p n fi177 [a0, a1] H k =
 Z2 p n  k n (tf 18 0 (ud [(0, a0), (1, a1), (4, (.sc (.bool false))), (5, (.sc (.int .i64 0)))] ut)) H := by kernel_rfl
theorem AaV : T7 fi177 @f177 := fun p n a0 a1 H k => by
 rw [Adf]
 simp only [Zv]
 kernel_rfl
noncomputable def Kk (p : Pr β) (n : Nat)  (k : KO β) : Nat → AV → AV → KO β
 | 0, _, _, _, _ => none
 | m + 1, t1, t6, t7, H => p.len t1 fun t14 =>
   p.bin .leq t7 t14 fun t15 =>
   p.guard t15 true H (fun k' => k' t7 H) fun t17 H =>
   p.guard t15 true H (fun k' => p.bin .lss t17 (.sc (.int .i64 65535)) fun t' => k' t' H) fun t18 H =>
   p.pick t15 t18 (.sc (.bool false)) fun t19 =>
   p.cond t19
   (p.bin .add t6 (.sc (.int .i64 1)) fun t23 =>
   p.bin .gtr t23 (.sc (.int .i64 65535)) fun t25 =>
   M7 (fun (t1 t6 t7 : AV) (H : Ac) => p.call 4 (.fn 177 [] []) [t1, t6] H fun t28 H =>
   p.un .not t28 fun t29 =>
   p.cond t29
   (k (Cq [t6, (.sc (.bool true))]) H)
   (p.bin .add t7 (.sc (.int .i64 1)) fun t21 =>
   Kk p n  k m t1 t6 t21 H)) fun j1 =>
   p.cond t25
   (j1 t1 (.sc (.int .i64 1)) t7 H)
   (j1 t1 t23 t7 H))
   (k (Cq [(.sc (.int .i64 0)), (.sc (.bool false))]) H)
noncomputable def f163 (p : Pr β) (n : Nat) (a0 a1 : AV) (H : Ac) (k : KO β) : Option β :=
 p.call 4 (.fn 154 [] []) [a0, (.sc (.int .i64 0)), (.sc (.int .i64 65535))] H fun t9 H =>
 p.un .not t9 fun t10 =>
 p.cond t10
 (k (Cq [(.sc (.int .i64 0)), (.sc (.bool false))]) H)
 (Kk p n  k n a1 a0 (.sc (.int .i64 0)) H)
noncomputable def Aat (p : Pr β) (n : Nat)  (k : KO β) (m : Nat) (tm : Tm) (H : Ac) : Option β :=
 Dz 31 (fun tm H k => An At p [] 31 n (cd AgE [1, 1, 1, 0, 1, 0, 0]) tm H k) (E5 0 (Em (fun tm H => An At p [] 31 n (cd AgE [1, 1, 1, 1]) tm H (C9 At p fi163.results k)) (C9 At p fi163.results k))) m tm H
theorem Yd (p : Pr β) (n : Nat)  (k : KO β) (m0 : Nat) : ∀ (t : Nat → AV) (H : Ac), Aat p n  k m0 (tf 31 0 t) H = Kk p n  k m0 (t 1) (t 6) (t 7) H := by
 induction m0 with
 | zero => intros; rfl
 | succ m0 ih =>
  intro t H
  refine Eq.trans (Cd (nt := 31) (m := m0) (g := fun t H => Kk p n  k m0 (t 1) (t 6) (t 7) H) ih rfl) ?_
  kernel_rfl
theorem Add (p : Pr β) (n : Nat) (a0 a1 : AV) (H : Ac) (k : KO β) : Ct At p n fi163 [a0, a1] H k =
 p.call 4 (.fn 154 [] []) [a0, (.sc (.int .i64 0)), (.sc (.int .i64 65535))] H fun t9 H =>
 p.un .not t9 fun t10 =>
 p.cond t10
 (k (Cq [(.sc (.int .i64 0)), (.sc (.bool false))]) H)
 (Aat p n  k n (tf 31 0 (ud [(0, a0), (1, a1), (4, (.sc (.int .i64 0))), (5, (.sc (.bool false))), (6, a0), (7, (.sc (.int .i64 0))), (8, a0), (9, t9), (10, t10), (11, a0)] ut)) H) := by kernel_rfl
theorem Abi : T7 fi163 @f163 := fun p n a0 a1 H k => by
 rw [Add]
 simp only [Yd]
 kernel_rfl
noncomputable def L5 (p : Pr β) (n : Nat)  (k : KO β) : Nat → AV → AV → AV → AV → AV → AV → KO β
 | 0, _, _, _, _, _, _, _, _ => none
 | m + 1, t1, t2, t3, t5, t7, t9, t10, H => p.fadr 1 t1 fun t37 =>
   p.load false 1 t37 H fun t38 =>
   p.len t38 fun t39 =>
   p.bin .lss t10 t39 fun t40 =>
   p.cond t40
   (p.fadr 1 t1 fun t44 =>
   p.load false 1 t44 H fun t45 =>
   p.iadr 6 t45 t10 fun t47 =>
   p.fadr 0 t47 fun t48 =>
   p.load false 1 t48 H fun t49 =>
   p.fill [(.sc (.int .i64 0))] [(0, 1, t49)] fun ct50 => p.newSl 1 1 ct50 true H fun t50 H =>
   p.app 1 8 t9 t50 H fun t51 H =>
   p.bin .add t10 (.sc (.int .i64 1)) fun t42 =>
   L5 p n  k m t1 t2 t3 t5 t7 t51 t42 H)
   (p.fadr 0 t1 fun t53 =>
   p.load false 1 t53 H fun t54 =>
   p.call 210 (.fn 163 [] []) [t54, t9] H fun t56 H =>
   p.extr t56 0 fun t57 =>
   p.extr t56 1 fun t58 =>
   p.fadr 0 t5 fun t60 =>
   p.store 1 t60 t57 H fun H =>
   p.fadr 1 t5 fun t61 =>
   p.load false 1 t61 H fun t62 =>
   p.load true 4 t7 H fun t64 =>
   p.fadr 2 t7 fun t65 =>
   p.load false 1 t65 H fun t66 =>
   p.fill [(.sc (.int .i64 0)), (.sc (.string ⟨#[]⟩)), .nl, (.sc (.int .i64 0)), (.sc (.bool false)), (.sc (.int .i64 0))] [(0, 1, t57), (1, 4, t64), (5, 1, t66)] fun ct67 =>
   p.fill [(.sc (.int .i64 0)), (.sc (.string ⟨#[]⟩)), .nl, (.sc (.int .i64 0)), (.sc (.bool false)), (.sc (.int .i64 0))] [(0, 6, (.agg ct67))] fun ct68 => p.newSl 1 6 ct68 true H fun t68 H =>
   p.app 6 72 t62 t68 H fun t69 H =>
   p.fadr 1 t5 fun t70 =>
   p.store 1 t70 t69 H fun H =>
   p.load true 3 t5 H fun t71 =>
   p.load true 4 t7 H fun t72 =>
   p.call 78 (.fn 162 [] []) [t72, t57, (.sc (.bool false))] H fun t74 H =>
   p.store 3 t2 t71 H fun H =>
   p.store 25 t3 t74 H fun H =>
   p.load true 3 t2 H fun r0 =>
   p.load true 25 t3 H fun r1 =>
   k (Cq [r0, r1, (.sc (.bool true))]) H)
noncomputable def f142 (p : Pr β) (n : Nat) (a0 : AV) (H : Ac) (k : KO β) : Option β :=
 p.box a0 H fun t1 H =>
 p.new [(.sc (.int .i64 0)), .nl, .nl] H fun t2 H =>
 p.new [(.sc (.int .i64 0)), (.sc (.bool false)), (.sc (.int .i64 0)), (.sc (.bool false)), (.sc (.int .i64 0)), (.sc (.string ⟨#[]⟩)), .nl, (.sc (.string ⟨#[]⟩)), (.sc (.int .i64 0)), (.sc (.bool false)), (.sc (.int .i64 0)), (.sc (.bool false)), (.sc (.string ⟨#[]⟩)), .nl, (.sc (.int .i64 0)), (.sc (.bool false)), (.sc (.bool false)), (.sc (.string ⟨#[]⟩)), (.sc (.bool false)), .nl, (.sc (.int .i64 0)), (.sc (.bool false)), .nl, .nl, .nl] H fun t3 H =>
 p.load true 3 t1 H fun t13 =>
 p.call 115 (.fn 157 [] []) [t13] H fun t14 H =>
 p.new [(.sc (.int .i64 0)), .nl, .nl] H fun t5 H =>
 p.store 3 t5 t14 H fun H =>
 p.load true 3 t1 H fun t15 =>
 p.call 4 (.fn 160 [] []) [t15] H fun t16 H =>
 p.un .not t16 fun t17 =>
 p.cond t17
 (p.load true 3 t5 H fun t18 =>
 p.fill [(.sc (.int .i64 0)), (.sc (.bool false)), (.sc (.int .i64 0)), (.sc (.bool false)), (.sc (.int .i64 0)), (.sc (.string ⟨#[]⟩)), .nl, (.sc (.string ⟨#[]⟩)), (.sc (.int .i64 0)), (.sc (.bool false)), (.sc (.int .i64 0)), (.sc (.bool false)), (.sc (.string ⟨#[]⟩)), .nl, (.sc (.int .i64 0)), (.sc (.bool false)), (.sc (.bool false)), (.sc (.string ⟨#[]⟩)), (.sc (.bool false)), .nl, (.sc (.int .i64 0)), (.sc (.bool false)), .nl, .nl, .nl] [] fun ct19 =>
 p.store 3 t2 t18 H fun H =>
 p.store 25 t3 (.agg ct19) H fun H =>
 p.load true 3 t2 H fun r0 =>
 p.load true 25 t3 H fun r1 =>
 k (Cq [r0, r1, (.sc (.bool false))]) H)
 (p.fadr 2 t1 fun t21 =>
 p.load false 1 t21 H fun t22 =>
 p.call 207 (.fn 161 [] []) [t22] H fun t23 H =>
 p.extr t23 0 fun t24 =>
 p.extr t23 1 fun t25 =>
 p.extr t23 2 fun t26 =>
 p.new [(.sc (.string ⟨#[]⟩)), .nl, (.sc (.int .i64 0)), (.sc (.bool false))] H fun t7 H =>
 p.store 4 t7 t25 H fun H =>
 p.fadr 2 t5 fun t28 =>
 p.store 1 t28 t24 H fun H =>
 p.fadr 2 t7 fun t29 =>
 p.load false 1 t29 H fun t30 =>
 p.bin .eql t30 (.sc (.int .i64 0)) fun t31 =>
 p.cond t31
 (p.load true 3 t5 H fun t32 =>
 p.load true 4 t7 H fun t33 =>
 p.call 78 (.fn 162 [] []) [t33, (.sc (.int .i64 0)), (.sc (.bool false))] H fun t34 H =>
 p.store 3 t2 t32 H fun H =>
 p.store 25 t3 t34 H fun H =>
 p.load true 3 t2 H fun r0 =>
 p.load true 25 t3 H fun r1 =>
 k (Cq [r0, r1, (.sc (.bool true))]) H)
 (L5 p n  k n t1 t2 t3 t5 t7 .nl (.sc (.int .i64 0)) H))
noncomputable def Zy (p : Pr β) (n : Nat)  (k : KO β) (m : Nat) (tm : Tm) (H : Ac) : Option β :=
 Dz 75 (fun tm H k => An At p AgO 75 n (cd Ahk [1, 1, 1, 1, 1, 1, 1, 0, 1, 0, 0]) tm H k) (E5 0 (Em (fun tm H => An At p AgO 75 n (cd Ahk [1, 1, 1, 1, 1, 1, 1, 1]) tm H (C9 At p fi142.results k)) (C9 At p fi142.results k))) m tm H
theorem Y6 (p : Pr β) (n : Nat)  (k : KO β) (m0 : Nat) : ∀ (t : Nat → AV) (H : Ac), Zy p n  k m0 (tf 75 0 t) H = L5 p n  k m0 (t 1) (t 2) (t 3) (t 5) (t 7) (t 9) (t 10) H := by
 induction m0 with
 | zero => intros; rfl
 | succ m0 ih =>
  intro t H
  refine Eq.trans (Cd (nt := 75) (m := m0) (g := fun t H => L5 p n  k m0 (t 1) (t 2) (t 3) (t 5) (t 7) (t 9) (t 10) H) ih rfl) ?_
  kernel_rfl
theorem Ad4 (p : Pr β) (n : Nat) (a0 : AV) (H : Ac) (k : KO β) : Ct At p n fi142 [a0] H k =
 p.box a0 H fun t1 H =>
 p.new [(.sc (.int .i64 0)), .nl, .nl] H fun t2 H =>
 p.new [(.sc (.int .i64 0)), (.sc (.bool false)), (.sc (.int .i64 0)), (.sc (.bool false)), (.sc (.int .i64 0)), (.sc (.string ⟨#[]⟩)), .nl, (.sc (.string ⟨#[]⟩)), (.sc (.int .i64 0)), (.sc (.bool false)), (.sc (.int .i64 0)), (.sc (.bool false)), (.sc (.string ⟨#[]⟩)), .nl, (.sc (.int .i64 0)), (.sc (.bool false)), (.sc (.bool false)), (.sc (.string ⟨#[]⟩)), (.sc (.bool false)), .nl, (.sc (.int .i64 0)), (.sc (.bool false)), .nl, .nl, .nl] H fun t3 H =>
 p.load true 3 t1 H fun t13 =>
 p.call 115 (.fn 157 [] []) [t13] H fun t14 H =>
 p.new [(.sc (.int .i64 0)), .nl, .nl] H fun t5 H =>
 p.store 3 t5 t14 H fun H =>
 p.load true 3 t1 H fun t15 =>
 p.call 4 (.fn 160 [] []) [t15] H fun t16 H =>
 p.un .not t16 fun t17 =>
 p.cond t17
 (p.load true 3 t5 H fun t18 =>
 p.fill [(.sc (.int .i64 0)), (.sc (.bool false)), (.sc (.int .i64 0)), (.sc (.bool false)), (.sc (.int .i64 0)), (.sc (.string ⟨#[]⟩)), .nl, (.sc (.string ⟨#[]⟩)), (.sc (.int .i64 0)), (.sc (.bool false)), (.sc (.int .i64 0)), (.sc (.bool false)), (.sc (.string ⟨#[]⟩)), .nl, (.sc (.int .i64 0)), (.sc (.bool false)), (.sc (.bool false)), (.sc (.string ⟨#[]⟩)), (.sc (.bool false)), .nl, (.sc (.int .i64 0)), (.sc (.bool false)), .nl, .nl, .nl] [] fun ct19 =>
 p.store 3 t2 t18 H fun H =>
 p.store 25 t3 (.agg ct19) H fun H =>
 p.load true 3 t2 H fun r0 =>
 p.load true 25 t3 H fun r1 =>
 k (Cq [r0, r1, (.sc (.bool false))]) H)
 (p.fadr 2 t1 fun t21 =>
 p.load false 1 t21 H fun t22 =>
 p.call 207 (.fn 161 [] []) [t22] H fun t23 H =>
 p.extr t23 0 fun t24 =>
 p.extr t23 1 fun t25 =>
 p.extr t23 2 fun t26 =>
 p.new [(.sc (.string ⟨#[]⟩)), .nl, (.sc (.int .i64 0)), (.sc (.bool false))] H fun t7 H =>
 p.store 4 t7 t25 H fun H =>
 p.fadr 2 t5 fun t28 =>
 p.store 1 t28 t24 H fun H =>
 p.fadr 2 t7 fun t29 =>
 p.load false 1 t29 H fun t30 =>
 p.bin .eql t30 (.sc (.int .i64 0)) fun t31 =>
 p.cond t31
 (p.load true 3 t5 H fun t32 =>
 p.load true 4 t7 H fun t33 =>
 p.call 78 (.fn 162 [] []) [t33, (.sc (.int .i64 0)), (.sc (.bool false))] H fun t34 H =>
 p.store 3 t2 t32 H fun H =>
 p.store 25 t3 t34 H fun H =>
 p.load true 3 t2 H fun r0 =>
 p.load true 25 t3 H fun r1 =>
 k (Cq [r0, r1, (.sc (.bool true))]) H)
 (Zy p n  k n (tf 75 0 (ud [(0, a0), (1, t1), (2, t2), (3, t3), (4, (.sc (.bool false))), (5, t5), (6, t24), (7, t7), (8, t26), (9, .nl), (10, (.sc (.int .i64 0))), (13, t13), (14, t14), (15, t15), (16, t16), (17, t17), (20, t23), (21, t21), (22, t22), (23, t23), (24, t24), (25, t25), (26, t26), (27, t24), (28, t28), (29, t29), (30, t30), (31, t31), (35, .nl)] ut)) H)) := by kernel_rfl
theorem Ab2 : Jl fi142 @f142 := fun p n a0 H k => by
 rw [Ad4]
 simp only [Y6]
 kernel_rfl
noncomputable def f183 (p : Pr β) (n : Nat) (a0 : AV) (H : Ac) (k : KO β) : Option β :=
 p.box a0 H fun t1 H =>
 p.new [(.sc (.int .i64 0)), (.sc (.bool false)), (.sc (.int .i64 0)), (.sc (.bool false)), (.sc (.int .i64 0)), (.sc (.string ⟨#[]⟩)), .nl, (.sc (.string ⟨#[]⟩)), (.sc (.int .i64 0)), (.sc (.bool false)), (.sc (.int .i64 0)), (.sc (.bool false)), (.sc (.string ⟨#[]⟩)), .nl, (.sc (.int .i64 0)), (.sc (.bool false)), (.sc (.bool false)), (.sc (.string ⟨#[]⟩)), (.sc (.bool false)), .nl, (.sc (.int .i64 0)), (.sc (.bool false)), .nl, .nl, .nl] H fun t2 H =>
 p.fadr 0 t1 fun t4 =>
 p.load false 1 t4 H fun t5 =>
 p.fill [(.sc (.int .i64 0)), (.sc (.bool false)), (.sc (.int .i64 0)), (.sc (.bool false)), (.sc (.int .i64 0)), (.sc (.string ⟨#[]⟩)), .nl, (.sc (.string ⟨#[]⟩)), (.sc (.int .i64 0)), (.sc (.bool false)), (.sc (.int .i64 0)), (.sc (.bool false)), (.sc (.string ⟨#[]⟩)), .nl, (.sc (.int .i64 0)), (.sc (.bool false)), (.sc (.bool false)), (.sc (.string ⟨#[]⟩)), (.sc (.bool false)), .nl, (.sc (.int .i64 0)), (.sc (.bool false)), .nl, .nl, .nl] [(0, 1, t5)] fun ct6 =>
 p.new [(.sc (.int .i64 0)), (.sc (.bool false)), (.sc (.int .i64 0)), (.sc (.bool false)), (.sc (.int .i64 0)), (.sc (.string ⟨#[]⟩)), .nl, (.sc (.string ⟨#[]⟩)), (.sc (.int .i64 0)), (.sc (.bool false)), (.sc (.int .i64 0)), (.sc (.bool false)), (.sc (.string ⟨#[]⟩)), .nl, (.sc (.int .i64 0)), (.sc (.bool false)), (.sc (.bool false)), (.sc (.string ⟨#[]⟩)), (.sc (.bool false)), .nl, (.sc (.int .i64 0)), (.sc (.bool false)), .nl, .nl, .nl] H fun t3 H =>
 p.store 25 t3 (.agg ct6) H fun H =>
 p.fadr 0 t1 fun t7 =>
 p.load false 1 t7 H fun t8 =>
 p.bin .eql t8 (.sc (.int .i64 1)) fun t10 =>
 p.cond t10
 (p.fadr 8 t1 fun t11 =>
 p.load false 1 t11 H fun t12 =>
 p.fadr 8 t3 fun t13 =>
 p.store 1 t13 t12 H fun H =>
 p.fadr 7 t1 fun t14 =>
 p.load false 1 t14 H fun t15 =>
 p.fadr 7 t3 fun t16 =>
 p.store 1 t16 t15 H fun H =>
 p.fadr 9 t1 fun t17 =>
 p.load false 1 t17 H fun t18 =>
 p.fadr 9 t3 fun t19 =>
 p.store 1 t19 t18 H fun H =>
 p.fadr 10 t1 fun t20 =>
 p.load false 1 t20 H fun t21 =>
 p.fadr 10 t3 fun t22 =>
 p.store 1 t22 t21 H fun H =>
 p.fadr 11 t1 fun t23 =>
 p.load false 1 t23 H fun t24 =>
 M7 (fun (t1 t2 t3 : AV) (H : Ac) => p.fadr 16 t1 fun t38 =>
 p.load false 1 t38 H fun t39 =>
 p.cond t39
 (p.fadr 16 t3 fun t40 =>
 p.store 1 t40 (.sc (.bool true)) H fun H =>
 p.fadr 17 t1 fun t41 =>
 p.load false 1 t41 H fun t42 =>
 p.fadr 17 t3 fun t43 =>
 p.store 1 t43 t42 H fun H =>
 p.fadr 18 t1 fun t44 =>
 p.load false 1 t44 H fun t45 =>
 p.cond t45
 (p.fadr 18 t3 fun t46 =>
 p.store 1 t46 (.sc (.bool true)) H fun H =>
 p.fadr 19 t1 fun t47 =>
 p.load false 1 t47 H fun t48 =>
 p.fadr 19 t3 fun t49 =>
 p.store 1 t49 t48 H fun H =>
 p.load true 25 t3 H fun t119 =>
 p.store 25 t2 t119 H fun H =>
 p.load true 25 t2 H fun r0 =>
 k r0 H)
 (p.load true 25 t3 H fun t119 =>
 p.store 25 t2 t119 H fun H =>
 p.load true 25 t2 H fun r0 =>
 k r0 H))
 (p.load true 25 t3 H fun t119 =>
 p.store 25 t2 t119 H fun H =>
 p.load true 25 t2 H fun r0 =>
 k r0 H)) fun j1 =>
 p.cond t24
 (p.fadr 11 t3 fun t25 =>
 p.store 1 t25 (.sc (.bool true)) H fun H =>
 p.fadr 12 t1 fun t26 =>
 p.load false 1 t26 H fun t27 =>
 p.fadr 12 t3 fun t28 =>
 p.store 1 t28 t27 H fun H =>
 p.fadr 13 t1 fun t29 =>
 p.load false 1 t29 H fun t30 =>
 p.fadr 13 t3 fun t31 =>
 p.store 1 t31 t30 H fun H =>
 p.fadr 14 t1 fun t32 =>
 p.load false 1 t32 H fun t33 =>
 p.fadr 14 t3 fun t34 =>
 p.store 1 t34 t33 H fun H =>
 p.fadr 15 t1 fun t35 =>
 p.load false 1 t35 H fun t36 =>
 p.fadr 15 t3 fun t37 =>
 p.store 1 t37 t36 H fun H =>
 j1 t1 t2 t3 H)
 (j1 t1 t2 t3 H))
 (p.bin .eql t8 (.sc (.int .i64 2)) fun t51 =>
 p.cond t51
 (p.fadr 20 t1 fun t52 =>
 p.load false 1 t52 H fun t53 =>
 p.fadr 20 t3 fun t54 =>
 p.store 1 t54 t53 H fun H =>
 p.fadr 21 t1 fun t55 =>
 p.load false 1 t55 H fun t56 =>
 p.guard t56 true H (fun k' => p.fadr 20 t1 fun t' => k' t' H) fun t58 H =>
 p.guard t56 true H (fun k' => p.load false 1 t58 H fun t' => k' t' H) fun t59 H =>
 p.guard t56 true H (fun k' => p.bin .eql t59 (.sc (.int .i64 0)) fun t' => k' t' H) fun t60 H =>
 p.pick t56 t60 (.sc (.bool false)) fun t61 =>
 p.fadr 21 t3 fun t62 =>
 p.store 1 t62 t61 H fun H =>
 p.load true 25 t3 H fun t119 =>
 p.store 25 t2 t119 H fun H =>
 p.load true 25 t2 H fun r0 =>
 k r0 H)
 (p.bin .eql t8 (.sc (.int .i64 3)) fun t64 =>
 p.cond t64
 (p.fadr 2 t1 fun t65 =>
 p.load false 1 t65 H fun t66 =>
 p.fadr 2 t3 fun t67 =>
 p.store 1 t67 t66 H fun H =>
 p.fadr 3 t1 fun t68 =>
 p.load false 1 t68 H fun t69 =>
 p.fadr 3 t3 fun t70 =>
 p.store 1 t70 t69 H fun H =>
 p.fadr 5 t1 fun t71 =>
 p.load false 1 t71 H fun t72 =>
 p.fadr 5 t3 fun t73 =>
 p.store 1 t73 t72 H fun H =>
 p.fadr 6 t1 fun t74 =>
 p.load false 1 t74 H fun t75 =>
 p.fadr 6 t3 fun t76 =>
 p.store 1 t76 t75 H fun H =>
 p.fadr 2 t1 fun t77 =>
 p.load false 1 t77 H fun t78 =>
 p.bin .gtr t78 (.sc (.int .i64 0)) fun t79 =>
 p.cond t79
 (p.fadr 1 t1 fun t80 =>
 p.load false 1 t80 H fun t81 =>
 p.fadr 1 t3 fun t82 =>
 p.store 1 t82 t81 H fun H =>
 p.fadr 4 t1 fun t83 =>
 p.load false 1 t83 H fun t84 =>
 p.fadr 4 t3 fun t85 =>
 p.store 1 t85 t84 H fun H =>
 p.load true 25 t3 H fun t119 =>
 p.store 25 t2 t119 H fun H =>
 p.load true 25 t2 H fun r0 =>
 k r0 H)
 (p.load true 25 t3 H fun t119 =>
 p.store 25 t2 t119 H fun H =>
 p.load true 25 t2 H fun r0 =>
 k r0 H))
 (p.bin .eql t8 (.sc (.int .i64 4)) fun t87 =>
 M7 (fun (t1 t2 t3 t8 t86 : AV) (H : Ac) => p.cond t86
 (p.fadr 4 t1 fun t92 =>
 p.load false 1 t92 H fun t93 =>
 p.fadr 4 t3 fun t94 =>
 p.store 1 t94 t93 H fun H =>
 p.load true 25 t3 H fun t119 =>
 p.store 25 t2 t119 H fun H =>
 p.load true 25 t2 H fun r0 =>
 k r0 H)
 (p.bin .eql t8 (.sc (.int .i64 8)) fun t96 =>
 p.cond t96
 (p.fadr 4 t1 fun t97 =>
 p.load false 1 t97 H fun t98 =>
 p.fadr 4 t3 fun t99 =>
 p.store 1 t99 t98 H fun H =>
 p.fadr 22 t1 fun t100 =>
 p.load false 1 t100 H fun t101 =>
 p.fadr 22 t3 fun t102 =>
 p.store 1 t102 t101 H fun H =>
 p.load true 25 t3 H fun t119 =>
 p.store 25 t2 t119 H fun H =>
 p.load true 25 t2 H fun r0 =>
 k r0 H)
 (p.bin .eql t8 (.sc (.int .i64 9)) fun t104 =>
 p.cond t104
 (p.fadr 4 t1 fun t105 =>
 p.load false 1 t105 H fun t106 =>
 p.fadr 4 t3 fun t107 =>
 p.store 1 t107 t106 H fun H =>
 p.fadr 24 t1 fun t108 =>
 p.load false 1 t108 H fun t109 =>
 p.fadr 24 t3 fun t110 =>
 p.store 1 t110 t109 H fun H =>
 p.load true 25 t3 H fun t119 =>
 p.store 25 t2 t119 H fun H =>
 p.load true 25 t2 H fun r0 =>
 k r0 H)
 (p.bin .eql t8 (.sc (.int .i64 10)) fun t112 =>
 p.cond t112
 (p.fadr 4 t1 fun t113 =>
 p.load false 1 t113 H fun t114 =>
 p.fadr 4 t3 fun t115 =>
 p.store 1 t115 t114 H fun H =>
 p.fadr 23 t1 fun t116 =>
 p.load false 1 t116 H fun t117 =>
 p.fadr 23 t3 fun t118 =>
 p.store 1 t118 t117 H fun H =>
 p.load true 25 t3 H fun t119 =>
 p.store 25 t2 t119 H fun H =>
 p.load true 25 t2 H fun r0 =>
 k r0 H)
 (p.load true 25 t3 H fun t119 =>
 p.store 25 t2 t119 H fun H =>
 p.load true 25 t2 H fun r0 =>
 k r0 H))))) fun j2 =>
 p.cond t87
 (j2 t1 t2 t3 t8 t87 H)
 (p.bin .eql t8 (.sc (.int .i64 5)) fun t88 =>
 p.cond t88
 (j2 t1 t2 t3 t8 t88 H)
 (p.bin .eql t8 (.sc (.int .i64 6)) fun t89 =>
 p.cond t89
 (j2 t1 t2 t3 t8 t89 H)
 (p.bin .eql t8 (.sc (.int .i64 7)) fun t90 =>
 p.cond t90
 (j2 t1 t2 t3 t8 t90 H)
 (p.bin .eql t8 (.sc (.int .i64 11)) fun t91 =>
 j2 t1 t2 t3 t8 t91 H)))))))
theorem Acc : Jl Agd @f183 := fun p n a0 H k => by kernel_rfl
noncomputable def f188 (p : Pr β) (n : Nat) (a0 a1 : AV) (H : Ac) (k : KO β) : Option β :=
 p.cvBS a0 H fun t6 =>
 p.cvBS a1 H fun t8 =>
 p.bin .eql t6 t8 fun t9 =>
 k t9 H
theorem AbN : T7 Agh @f188 := fun p n a0 a1 H k => by kernel_rfl
noncomputable def Ka (p : Pr β) (n : Nat)  (k : KO β) : Nat → AV → AV → KO β
 | 0, _, _, _, _ => none
 | m + 1, t2, t3, t7, H => p.fadr 24 t2 fun t70 =>
   p.load false 1 t70 H fun t71 =>
   p.len t71 fun t72 =>
   p.bin .lss t7 t72 fun t73 =>
   p.cond t73
   (p.fadr 24 t2 fun t76 =>
   p.load false 1 t76 H fun t77 =>
   p.iadr 1 t77 t7 fun t79 =>
   p.load false 1 t79 H fun t80 =>
   p.fadr 24 t3 fun t81 =>
   p.load false 1 t81 H fun t82 =>
   p.iadr 1 t82 t7 fun t84 =>
   p.load false 1 t84 H fun t85 =>
   p.bin .neq t80 t85 fun t86 =>
   p.cond t86
   (k (.sc (.bool false)) H)
   (p.bin .add t7 (.sc (.int .i64 1)) fun t75 =>
   Ka p n  k m t2 t3 t75 H))
   (p.fadr 0 t2 fun t87 =>
   p.load false 1 t87 H fun t88 =>
   p.fadr 0 t3 fun t89 =>
   p.load false 1 t89 H fun t90 =>
   p.bin .eql t88 t90 fun t91 =>
   p.guard t91 true H (fun k' => p.fadr 1 t2 fun t' => k' t' H) fun t93 H =>
   p.guard t91 true H (fun k' => p.load false 1 t93 H fun t' => k' t' H) fun t94 H =>
   p.guard t91 true H (fun k' => p.fadr 1 t3 fun t' => k' t' H) fun t95 H =>
   p.guard t91 true H (fun k' => p.load false 1 t95 H fun t' => k' t' H) fun t96 H =>
   p.guard t91 true H (fun k' => p.binB .eql t94 t96 fun t' => k' t' H) fun t97 H =>
   p.pick t91 t97 (.sc (.bool false)) fun t98 =>
   p.guard t98 true H (fun k' => p.fadr 2 t2 fun t' => k' t' H) fun t100 H =>
   p.guard t98 true H (fun k' => p.load false 1 t100 H fun t' => k' t' H) fun t101 H =>
   p.guard t98 true H (fun k' => p.fadr 2 t3 fun t' => k' t' H) fun t102 H =>
   p.guard t98 true H (fun k' => p.load false 1 t102 H fun t' => k' t' H) fun t103 H =>
   p.guard t98 true H (fun k' => p.bin .eql t101 t103 fun t' => k' t' H) fun t104 H =>
   p.pick t98 t104 (.sc (.bool false)) fun t105 =>
   p.guard t105 true H (fun k' => p.fadr 3 t2 fun t' => k' t' H) fun t107 H =>
   p.guard t105 true H (fun k' => p.load false 1 t107 H fun t' => k' t' H) fun t108 H =>
   p.guard t105 true H (fun k' => p.fadr 3 t3 fun t' => k' t' H) fun t109 H =>
   p.guard t105 true H (fun k' => p.load false 1 t109 H fun t' => k' t' H) fun t110 H =>
   p.guard t105 true H (fun k' => p.binB .eql t108 t110 fun t' => k' t' H) fun t111 H =>
   p.pick t105 t111 (.sc (.bool false)) fun t112 =>
   p.guard t112 true H (fun k' => p.fadr 4 t2 fun t' => k' t' H) fun t114 H =>
   p.guard t112 true H (fun k' => p.load false 1 t114 H fun t' => k' t' H) fun t115 H =>
   p.guard t112 true H (fun k' => p.fadr 4 t3 fun t' => k' t' H) fun t116 H =>
   p.guard t112 true H (fun k' => p.load false 1 t116 H fun t' => k' t' H) fun t117 H =>
   p.guard t112 true H (fun k' => p.bin .eql t115 t117 fun t' => k' t' H) fun t118 H =>
   p.pick t112 t118 (.sc (.bool false)) fun t119 =>
   p.guard t119 true H (fun k' => p.fadr 5 t2 fun t' => k' t' H) fun t121 H =>
   p.guard t119 true H (fun k' => p.load false 1 t121 H fun t' => k' t' H) fun t122 H =>
   p.guard t119 true H (fun k' => p.fadr 5 t3 fun t' => k' t' H) fun t123 H =>
   p.guard t119 true H (fun k' => p.load false 1 t123 H fun t' => k' t' H) fun t124 H =>
   p.guard t119 true H (fun k' => p.bin .eql t122 t124 fun t' => k' t' H) fun t125 H =>
   p.pick t119 t125 (.sc (.bool false)) fun t126 =>
   p.guard t126 true H (fun k' => p.fadr 6 t2 fun t' => k' t' H) fun t128 H =>
   p.guard t126 true H (fun k' => p.load false 1 t128 H fun t' => k' t' H) fun t129 H =>
   p.guard t126 true H (fun k' => p.fadr 6 t3 fun t' => k' t' H) fun t130 H =>
   p.guard t126 true H (fun k' => p.load false 1 t130 H fun t' => k' t' H) fun t131 H =>
   p.guard t126 true H (fun k' => p.call 4 (.fn 188 [] []) [t129, t131] H fun t' H => k' t' H) fun t132 H =>
   p.pick t126 t132 (.sc (.bool false)) fun t133 =>
   p.guard t133 true H (fun k' => p.fadr 7 t2 fun t' => k' t' H) fun t135 H =>
   p.guard t133 true H (fun k' => p.load false 1 t135 H fun t' => k' t' H) fun t136 H =>
   p.guard t133 true H (fun k' => p.fadr 7 t3 fun t' => k' t' H) fun t137 H =>
   p.guard t133 true H (fun k' => p.load false 1 t137 H fun t' => k' t' H) fun t138 H =>
   p.guard t133 true H (fun k' => p.bin .eql t136 t138 fun t' => k' t' H) fun t139 H =>
   p.pick t133 t139 (.sc (.bool false)) fun t140 =>
   p.guard t140 true H (fun k' => p.fadr 8 t2 fun t' => k' t' H) fun t142 H =>
   p.guard t140 true H (fun k' => p.load false 1 t142 H fun t' => k' t' H) fun t143 H =>
   p.guard t140 true H (fun k' => p.fadr 8 t3 fun t' => k' t' H) fun t144 H =>
   p.guard t140 true H (fun k' => p.load false 1 t144 H fun t' => k' t' H) fun t145 H =>
   p.guard t140 true H (fun k' => p.bin .eql t143 t145 fun t' => k' t' H) fun t146 H =>
   p.pick t140 t146 (.sc (.bool false)) fun t147 =>
   p.guard t147 true H (fun k' => p.fadr 9 t2 fun t' => k' t' H) fun t149 H =>
   p.guard t147 true H (fun k' => p.load false 1 t149 H fun t' => k' t' H) fun t150 H =>
   p.guard t147 true H (fun k' => p.fadr 9 t3 fun t' => k' t' H) fun t151 H =>
   p.guard t147 true H (fun k' => p.load false 1 t151 H fun t' => k' t' H) fun t152 H =>
   p.guard t147 true H (fun k' => p.binB .eql t150 t152 fun t' => k' t' H) fun t153 H =>
   p.pick t147 t153 (.sc (.bool false)) fun t154 =>
   p.guard t154 true H (fun k' => p.fadr 10 t2 fun t' => k' t' H) fun t156 H =>
   p.guard t154 true H (fun k' => p.load false 1 t156 H fun t' => k' t' H) fun t157 H =>
   p.guard t154 true H (fun k' => p.fadr 10 t3 fun t' => k' t' H) fun t158 H =>
   p.guard t154 true H (fun k' => p.load false 1 t158 H fun t' => k' t' H) fun t159 H =>
   p.guard t154 true H (fun k' => p.bin .eql t157 t159 fun t' => k' t' H) fun t160 H =>
   p.pick t154 t160 (.sc (.bool false)) fun t161 =>
   p.guard t161 true H (fun k' => p.fadr 11 t2 fun t' => k' t' H) fun t163 H =>
   p.guard t161 true H (fun k' => p.load false 1 t163 H fun t' => k' t' H) fun t164 H =>
   p.guard t161 true H (fun k' => p.fadr 11 t3 fun t' => k' t' H) fun t165 H =>
   p.guard t161 true H (fun k' => p.load false 1 t165 H fun t' => k' t' H) fun t166 H =>
   p.guard t161 true H (fun k' => p.binB .eql t164 t166 fun t' => k' t' H) fun t167 H =>
   p.pick t161 t167 (.sc (.bool false)) fun t168 =>
   p.guard t168 true H (fun k' => p.fadr 12 t2 fun t' => k' t' H) fun t170 H =>
   p.guard t168 true H (fun k' => p.load false 1 t170 H fun t' => k' t' H) fun t171 H =>
   p.guard t168 true H (fun k' => p.fadr 12 t3 fun t' => k' t' H) fun t172 H =>
   p.guard t168 true H (fun k' => p.load false 1 t172 H fun t' => k' t' H) fun t173 H =>
   p.guard t168 true H (fun k' => p.bin .eql t171 t173 fun t' => k' t' H) fun t174 H =>
   p.pick t168 t174 (.sc (.bool false)) fun t175 =>
   p.guard t175 true H (fun k' => p.fadr 13 t2 fun t' => k' t' H) fun t177 H =>
   p.guard t175 true H (fun k' => p.load false 1 t177 H fun t' => k' t' H) fun t178 H =>
   p.guard t175 true H (fun k' => p.fadr 13 t3 fun t' => k' t' H) fun t179 H =>
   p.guard t175 true H (fun k' => p.load false 1 t179 H fun t' => k' t' H) fun t180 H =>
   p.guard t175 true H (fun k' => p.call 4 (.fn 188 [] []) [t178, t180] H fun t' H => k' t' H) fun t181 H =>
   p.pick t175 t181 (.sc (.bool false)) fun t182 =>
   p.guard t182 true H (fun k' => p.fadr 14 t2 fun t' => k' t' H) fun t184 H =>
   p.guard t182 true H (fun k' => p.load false 1 t184 H fun t' => k' t' H) fun t185 H =>
   p.guard t182 true H (fun k' => p.fadr 14 t3 fun t' => k' t' H) fun t186 H =>
   p.guard t182 true H (fun k' => p.load false 1 t186 H fun t' => k' t' H) fun t187 H =>
   p.guard t182 true H (fun k' => p.bin .eql t185 t187 fun t' => k' t' H) fun t188 H =>
   p.pick t182 t188 (.sc (.bool false)) fun t189 =>
   p.guard t189 true H (fun k' => p.fadr 15 t2 fun t' => k' t' H) fun t191 H =>
   p.guard t189 true H (fun k' => p.load false 1 t191 H fun t' => k' t' H) fun t192 H =>
   p.guard t189 true H (fun k' => p.fadr 15 t3 fun t' => k' t' H) fun t193 H =>
   p.guard t189 true H (fun k' => p.load false 1 t193 H fun t' => k' t' H) fun t194 H =>
   p.guard t189 true H (fun k' => p.binB .eql t192 t194 fun t' => k' t' H) fun t195 H =>
   p.pick t189 t195 (.sc (.bool false)) fun t196 =>
   p.guard t196 true H (fun k' => p.fadr 16 t2 fun t' => k' t' H) fun t198 H =>
   p.guard t196 true H (fun k' => p.load false 1 t198 H fun t' => k' t' H) fun t199 H =>
   p.guard t196 true H (fun k' => p.fadr 16 t3 fun t' => k' t' H) fun t200 H =>
   p.guard t196 true H (fun k' => p.load false 1 t200 H fun t' => k' t' H) fun t201 H =>
   p.guard t196 true H (fun k' => p.binB .eql t199 t201 fun t' => k' t' H) fun t202 H =>
   p.pick t196 t202 (.sc (.bool false)) fun t203 =>
   p.guard t203 true H (fun k' => p.fadr 17 t2 fun t' => k' t' H) fun t205 H =>
   p.guard t203 true H (fun k' => p.load false 1 t205 H fun t' => k' t' H) fun t206 H =>
   p.guard t203 true H (fun k' => p.fadr 17 t3 fun t' => k' t' H) fun t207 H =>
   p.guard t203 true H (fun k' => p.load false 1 t207 H fun t' => k' t' H) fun t208 H =>
   p.guard t203 true H (fun k' => p.bin .eql t206 t208 fun t' => k' t' H) fun t209 H =>
   p.pick t203 t209 (.sc (.bool false)) fun t210 =>
   p.guard t210 true H (fun k' => p.fadr 18 t2 fun t' => k' t' H) fun t212 H =>
   p.guard t210 true H (fun k' => p.load false 1 t212 H fun t' => k' t' H) fun t213 H =>
   p.guard t210 true H (fun k' => p.fadr 18 t3 fun t' => k' t' H) fun t214 H =>
   p.guard t210 true H (fun k' => p.load false 1 t214 H fun t' => k' t' H) fun t215 H =>
   p.guard t210 true H (fun k' => p.binB .eql t213 t215 fun t' => k' t' H) fun t216 H =>
   p.pick t210 t216 (.sc (.bool false)) fun t217 =>
   p.guard t217 true H (fun k' => p.fadr 19 t2 fun t' => k' t' H) fun t219 H =>
   p.guard t217 true H (fun k' => p.load false 1 t219 H fun t' => k' t' H) fun t220 H =>
   p.guard t217 true H (fun k' => p.fadr 19 t3 fun t' => k' t' H) fun t221 H =>
   p.guard t217 true H (fun k' => p.load false 1 t221 H fun t' => k' t' H) fun t222 H =>
   p.guard t217 true H (fun k' => p.call 4 (.fn 188 [] []) [t220, t222] H fun t' H => k' t' H) fun t223 H =>
   p.pick t217 t223 (.sc (.bool false)) fun t224 =>
   p.guard t224 true H (fun k' => p.fadr 20 t2 fun t' => k' t' H) fun t226 H =>
   p.guard t224 true H (fun k' => p.load false 1 t226 H fun t' => k' t' H) fun t227 H =>
   p.guard t224 true H (fun k' => p.fadr 20 t3 fun t' => k' t' H) fun t228 H =>
   p.guard t224 true H (fun k' => p.load false 1 t228 H fun t' => k' t' H) fun t229 H =>
   p.guard t224 true H (fun k' => p.bin .eql t227 t229 fun t' => k' t' H) fun t230 H =>
   p.pick t224 t230 (.sc (.bool false)) fun t231 =>
   p.guard t231 true H (fun k' => p.fadr 21 t2 fun t' => k' t' H) fun t233 H =>
   p.guard t231 true H (fun k' => p.load false 1 t233 H fun t' => k' t' H) fun t234 H =>
   p.guard t231 true H (fun k' => p.fadr 21 t3 fun t' => k' t' H) fun t235 H =>
   p.guard t231 true H (fun k' => p.load false 1 t235 H fun t' => k' t' H) fun t236 H =>
   p.guard t231 true H (fun k' => p.binB .eql t234 t236 fun t' => k' t' H) fun t237 H =>
   p.pick t231 t237 (.sc (.bool false)) fun t238 =>
   k t238 H)
noncomputable def It (p : Pr β) (n : Nat)  (k : KO β) : Nat → AV → AV → KO β
 | 0, _, _, _, _ => none
 | m + 1, t2, t3, t6, H => p.fadr 23 t2 fun t52 =>
   p.load false 1 t52 H fun t53 =>
   p.len t53 fun t54 =>
   p.bin .lss t6 t54 fun t55 =>
   p.cond t55
   (p.fadr 23 t2 fun t58 =>
   p.load false 1 t58 H fun t59 =>
   p.iadr 1 t59 t6 fun t61 =>
   p.load false 1 t61 H fun t62 =>
   p.fadr 23 t3 fun t63 =>
   p.load false 1 t63 H fun t64 =>
   p.iadr 1 t64 t6 fun t66 =>
   p.load false 1 t66 H fun t67 =>
   p.bin .neq t62 t67 fun t68 =>
   p.cond t68
   (k (.sc (.bool false)) H)
   (p.bin .add t6 (.sc (.int .i64 1)) fun t57 =>
   It p n  k m t2 t3 t57 H))
   (Ka p n  k n t2 t3 (.sc (.int .i64 0)) H)
noncomputable def Is (p : Pr β) (n : Nat)  (k : KO β) : Nat → AV → AV → KO β
 | 0, _, _, _, _ => none
 | m + 1, t2, t3, t5, H => p.fadr 22 t2 fun t34 =>
   p.load false 1 t34 H fun t35 =>
   p.len t35 fun t36 =>
   p.bin .lss t5 t36 fun t37 =>
   p.cond t37
   (p.fadr 22 t2 fun t40 =>
   p.load false 1 t40 H fun t41 =>
   p.iadr 2 t41 t5 fun t43 =>
   p.load true 2 t43 H fun t44 =>
   p.fadr 22 t3 fun t45 =>
   p.load false 1 t45 H fun t46 =>
   p.iadr 2 t46 t5 fun t48 =>
   p.load true 2 t48 H fun t49 =>
   p.binA .neq [1, 0] t44 t49 fun t50 =>
   p.cond t50
   (k (.sc (.bool false)) H)
   (p.bin .add t5 (.sc (.int .i64 1)) fun t39 =>
   Is p n  k m t2 t3 t39 H))
   (It p n  k n t2 t3 (.sc (.int .i64 0)) H)
noncomputable def f182 (p : Pr β) (n : Nat) (a0 a1 : AV) (H : Ac) (k : KO β) : Option β :=
 p.box a0 H fun t2 H =>
 p.box a1 H fun t3 H =>
 p.fadr 22 t2 fun t8 =>
 p.load false 1 t8 H fun t9 =>
 p.len t9 fun t10 =>
 p.fadr 22 t3 fun t11 =>
 p.load false 1 t11 H fun t12 =>
 p.len t12 fun t13 =>
 p.bin .neq t10 t13 fun t14 =>
 p.guard t14 false H (fun k' => p.fadr 23 t2 fun t' => k' t' H) fun t16 H =>
 p.guard t14 false H (fun k' => p.load false 1 t16 H fun t' => k' t' H) fun t17 H =>
 p.guard t14 false H (fun k' => p.len t17 fun t' => k' t' H) fun t18 H =>
 p.guard t14 false H (fun k' => p.fadr 23 t3 fun t' => k' t' H) fun t19 H =>
 p.guard t14 false H (fun k' => p.load false 1 t19 H fun t' => k' t' H) fun t20 H =>
 p.guard t14 false H (fun k' => p.len t20 fun t' => k' t' H) fun t21 H =>
 p.guard t14 false H (fun k' => p.bin .neq t18 t21 fun t' => k' t' H) fun t22 H =>
 p.pick t14 (.sc (.bool true)) t22 fun t23 =>
 p.guard t23 false H (fun k' => p.fadr 24 t2 fun t' => k' t' H) fun t25 H =>
 p.guard t23 false H (fun k' => p.load false 1 t25 H fun t' => k' t' H) fun t26 H =>
 p.guard t23 false H (fun k' => p.len t26 fun t' => k' t' H) fun t27 H =>
 p.guard t23 false H (fun k' => p.fadr 24 t3 fun t' => k' t' H) fun t28 H =>
 p.guard t23 false H (fun k' => p.load false 1 t28 H fun t' => k' t' H) fun t29 H =>
 p.guard t23 false H (fun k' => p.len t29 fun t' => k' t' H) fun t30 H =>
 p.guard t23 false H (fun k' => p.bin .neq t27 t30 fun t' => k' t' H) fun t31 H =>
 p.pick t23 (.sc (.bool true)) t31 fun t32 =>
 p.cond t32
 (k (.sc (.bool false)) H)
 (Is p n  k n t2 t3 (.sc (.int .i64 0)) H)
noncomputable def Aa5 (p : Pr β) (n : Nat)  (k : KO β) (m : Nat) (tm : Tm) (H : Ac) : Option β :=
 Dz 239 (fun tm H k => An At p Td 239 n (cd Tc [1, 1, 1, 1, 0, 1, 0, 0]) tm H k) (E5 4 (Em (fun tm H => An At p Td 239 n (cd Tc [1, 1, 1, 1, 1]) tm H (C9 At p fi182.results k)) (C9 At p fi182.results k))) m tm H
noncomputable def Z5 (p : Pr β) (n : Nat)  (k : KO β) (m : Nat) (tm : Tm) (H : Ac) : Option β :=
 Dz 239 (fun tm H k => An At p Td 239 n (cd Tc [1, 1, 1, 0, 1, 0, 0]) tm H k) (E5 2 (Em (fun tm H => An At p Td 239 n (cd Tc [1, 1, 1, 1]) tm H (C9 At p fi182.results k)) (C9 At p fi182.results k))) m tm H
noncomputable def Aaw (p : Pr β) (n : Nat)  (k : KO β) (m : Nat) (tm : Tm) (H : Ac) : Option β :=
 Dz 239 (fun tm H k => An At p Td 239 n (cd Tc [1, 1, 0, 1, 0, 0]) tm H k) (E5 0 (Em (fun tm H => An At p Td 239 n (cd Tc [1, 1, 1]) tm H (C9 At p fi182.results k)) (C9 At p fi182.results k))) m tm H
theorem S0 (p : Pr β) (n : Nat)  (k : KO β) (m2 : Nat) : ∀ (t : Nat → AV) (H : Ac), Aa5 p n  k m2 (tf 239 0 t) H = Ka p n  k m2 (t 2) (t 3) (t 7) H := by
 induction m2 with
 | zero => intros; rfl
 | succ m2 ih =>
  intro t H
  refine Eq.trans (Cd (nt := 239) (m := m2) (g := fun t H => Ka p n  k m2 (t 2) (t 3) (t 7) H) ih rfl) ?_
  kernel_rfl
theorem U5 (p : Pr β) (n : Nat)  (k : KO β) (m1 : Nat) (t : Nat → AV) (H : Ac) : An At p Td 239 n (cd Tc [1, 1, 1, 0, 1, 0, 0]) (tf 239 0 t) H (Em (fun tm H => It p n  k m1 (gt tm 2) (gt tm 3) (gt tm 6) H) (E5 2 (Em (fun tm H => An At p Td 239 n (cd Tc [1, 1, 1, 1]) tm H (C9 At p fi182.results k)) (C9 At p fi182.results k)))) =
 p.fadr 23 (t 2) fun t52 =>
 p.load false 1 t52 H fun t53 =>
 p.len t53 fun t54 =>
 p.bin .lss (t 6) t54 fun t55 =>
 p.cond t55
 (p.fadr 23 (t 2) fun t58 =>
 p.load false 1 t58 H fun t59 =>
 p.iadr 1 t59 (t 6) fun t61 =>
 p.load false 1 t61 H fun t62 =>
 p.fadr 23 (t 3) fun t63 =>
 p.load false 1 t63 H fun t64 =>
 p.iadr 1 t64 (t 6) fun t66 =>
 p.load false 1 t66 H fun t67 =>
 p.bin .neq t62 t67 fun t68 =>
 p.cond t68
 (k (.sc (.bool false)) H)
 (p.bin .add (t 6) (.sc (.int .i64 1)) fun t57 =>
 It p n  k m1 (t 2) (t 3) t57 H))
 (Aa5 p n  k n (tf 239 0 (ud [(7, (.sc (.int .i64 0))), (51, (t 6)), (52, t52), (53, t53), (54, t54), (55, t55)] t)) H) := by kernel_rfl
theorem Sw (p : Pr β) (n : Nat)  (k : KO β) (m1 : Nat) : ∀ (t : Nat → AV) (H : Ac), Z5 p n  k m1 (tf 239 0 t) H = It p n  k m1 (t 2) (t 3) (t 6) H := by
 induction m1 with
 | zero => intros; rfl
 | succ m1 ih =>
  intro t H
  refine Eq.trans (Cd (nt := 239) (m := m1) (g := fun t H => It p n  k m1 (t 2) (t 3) (t 6) H) ih rfl) ?_
  refine Eq.trans (U5 p n  k m1 t H) ?_
  simp only [S0]
  kernel_rfl
theorem U1 (p : Pr β) (n : Nat)  (k : KO β) (m0 : Nat) (t : Nat → AV) (H : Ac) : An At p Td 239 n (cd Tc [1, 1, 0, 1, 0, 0]) (tf 239 0 t) H (Em (fun tm H => Is p n  k m0 (gt tm 2) (gt tm 3) (gt tm 5) H) (E5 0 (Em (fun tm H => An At p Td 239 n (cd Tc [1, 1, 1]) tm H (C9 At p fi182.results k)) (C9 At p fi182.results k)))) =
 p.fadr 22 (t 2) fun t34 =>
 p.load false 1 t34 H fun t35 =>
 p.len t35 fun t36 =>
 p.bin .lss (t 5) t36 fun t37 =>
 p.cond t37
 (p.fadr 22 (t 2) fun t40 =>
 p.load false 1 t40 H fun t41 =>
 p.iadr 2 t41 (t 5) fun t43 =>
 p.load true 2 t43 H fun t44 =>
 p.fadr 22 (t 3) fun t45 =>
 p.load false 1 t45 H fun t46 =>
 p.iadr 2 t46 (t 5) fun t48 =>
 p.load true 2 t48 H fun t49 =>
 p.binA .neq [1, 0] t44 t49 fun t50 =>
 p.cond t50
 (k (.sc (.bool false)) H)
 (p.bin .add (t 5) (.sc (.int .i64 1)) fun t39 =>
 Is p n  k m0 (t 2) (t 3) t39 H))
 (Z5 p n  k n (tf 239 0 (ud [(6, (.sc (.int .i64 0))), (33, (t 5)), (34, t34), (35, t35), (36, t36), (37, t37)] t)) H) := by kernel_rfl
theorem Zn (p : Pr β) (n : Nat)  (k : KO β) (m0 : Nat) : ∀ (t : Nat → AV) (H : Ac), Aaw p n  k m0 (tf 239 0 t) H = Is p n  k m0 (t 2) (t 3) (t 5) H := by
 induction m0 with
 | zero => intros; rfl
 | succ m0 ih =>
  intro t H
  refine Eq.trans (Cd (nt := 239) (m := m0) (g := fun t H => Is p n  k m0 (t 2) (t 3) (t 5) H) ih rfl) ?_
  refine Eq.trans (U1 p n  k m0 t H) ?_
  simp only [Sw]
  kernel_rfl
theorem AdP (p : Pr β) (n : Nat) (a0 a1 : AV) (H : Ac) (k : KO β) : Ct At p n fi182 [a0, a1] H k =
 p.box a0 H fun t2 H =>
 p.box a1 H fun t3 H =>
 p.fadr 22 t2 fun t8 =>
 p.load false 1 t8 H fun t9 =>
 p.len t9 fun t10 =>
 p.fadr 22 t3 fun t11 =>
 p.load false 1 t11 H fun t12 =>
 p.len t12 fun t13 =>
 p.bin .neq t10 t13 fun t14 =>
 p.guard t14 false H (fun k' => p.fadr 23 t2 fun t' => k' t' H) fun t16 H =>
 p.guard t14 false H (fun k' => p.load false 1 t16 H fun t' => k' t' H) fun t17 H =>
 p.guard t14 false H (fun k' => p.len t17 fun t' => k' t' H) fun t18 H =>
 p.guard t14 false H (fun k' => p.fadr 23 t3 fun t' => k' t' H) fun t19 H =>
 p.guard t14 false H (fun k' => p.load false 1 t19 H fun t' => k' t' H) fun t20 H =>
 p.guard t14 false H (fun k' => p.len t20 fun t' => k' t' H) fun t21 H =>
 p.guard t14 false H (fun k' => p.bin .neq t18 t21 fun t' => k' t' H) fun t22 H =>
 p.pick t14 (.sc (.bool true)) t22 fun t23 =>
 p.guard t23 false H (fun k' => p.fadr 24 t2 fun t' => k' t' H) fun t25 H =>
 p.guard t23 false H (fun k' => p.load false 1 t25 H fun t' => k' t' H) fun t26 H =>
 p.guard t23 false H (fun k' => p.len t26 fun t' => k' t' H) fun t27 H =>
 p.guard t23 false H (fun k' => p.fadr 24 t3 fun t' => k' t' H) fun t28 H =>
 p.guard t23 false H (fun k' => p.load false 1 t28 H fun t' => k' t' H) fun t29 H =>
 p.guard t23 false H (fun k' => p.len t29 fun t' => k' t' H) fun t30 H =>
 p.guard t23 false H (fun k' => p.bin .neq t27 t30 fun t' => k' t' H) fun t31 H =>
 p.pick t23 (.sc (.bool true)) t31 fun t32 =>
 p.cond t32
 (k (.sc (.bool false)) H)
 (Aaw p n  k n (tf 239 0 (ud [(0, a0), (1, a1), (2, t2), (3, t3), (4, (.sc (.bool false))), (5, (.sc (.int .i64 0))), (8, t8), (9, t9), (10, t10), (11, t11), (12, t12), (13, t13), (14, t14), (15, t14), (16, t16), (17, t17), (18, t18), (19, t19), (20, t20), (21, t21), (22, t22), (23, t23), (24, t23), (25, t25), (26, t26), (27, t27), (28, t28), (29, t29), (30, t30), (31, t31), (32, t32)] ut)) H) := by kernel_rfl
theorem Aba : T7 fi182 @f182 := fun p n a0 a1 H k => by
 rw [AdP]
 simp only [S0, Sw, Zn]
 kernel_rfl
noncomputable def Aau (p : Pr β) (n : Nat)  (k : KO β) : Nat → AV → AV → KO β
 | 0, _, _, _, _ => none
 | m + 1, t0, t3, t4, H => p.len t3 fun t9 =>
   p.bin .lss t4 t9 fun t10 =>
   p.cond t10
   (p.iadr 1 t3 t4 fun t15 =>
   p.load false 1 t15 H fun t16 =>
   p.call 4 (.fn 186 [] []) [t16, (.sc (.int .u8 43))] H fun t17 H =>
   p.guard t17 true H (fun k' => k' t3 H) fun t19 H =>
   p.guard t17 true H (fun k' => k' t4 H) fun t20 H =>
   p.guard t17 true H (fun k' => p.iadr 1 t19 t20 fun t' => k' t' H) fun t21 H =>
   p.guard t17 true H (fun k' => p.load false 1 t21 H fun t' => k' t' H) fun t22 H =>
   p.guard t17 true H (fun k' => p.bin .neq t22 (.sc (.string ⟨#[43]⟩)) fun t' => k' t' H) fun t23 H =>
   p.pick t17 t23 (.sc (.bool false)) fun t24 =>
   p.guard t24 false H (fun k' => k' t3 H) fun t26 H =>
   p.guard t24 false H (fun k' => k' t4 H) fun t27 H =>
   p.guard t24 false H (fun k' => p.iadr 1 t26 t27 fun t' => k' t' H) fun t28 H =>
   p.guard t24 false H (fun k' => p.load false 1 t28 H fun t' => k' t' H) fun t29 H =>
   p.guard t24 false H (fun k' => p.call 4 (.fn 186 [] []) [t29, (.sc (.int .u8 35))] H fun t' H => k' t' H) fun t30 H =>
   p.guard t24 false H (fun k' => k' t30 H) fun t31 H =>
   p.guard t31 true H (fun k' => k' t3 H) fun t32 H =>
   p.guard t31 true H (fun k' => k' t4 H) fun t33 H =>
   p.guard t31 true H (fun k' => p.iadr 1 t32 t33 fun t' => k' t' H) fun t34 H =>
   p.guard t31 true H (fun k' => p.load false 1 t34 H fun t' => k' t' H) fun t35 H =>
   p.guard t31 true H (fun k' => p.bin .neq t35 (.sc (.string ⟨#[35]⟩)) fun t' => k' t' H) fun t36 H =>
   p.guard t31 true H (fun k' => k' t36 H) fun t37 H =>
   p.guard t37 false H (fun k' => k' t4 H) fun t38 H =>
   p.guard t37 false H (fun k' => k' t3 H) fun t39 H =>
   p.guard t37 false H (fun k' => p.len t39 fun t' => k' t' H) fun t40 H =>
   p.guard t37 false H (fun k' => p.bin .sub t40 (.sc (.int .i64 1)) fun t' => k' t' H) fun t41 H =>
   p.guard t37 false H (fun k' => p.bin .lss t38 t41 fun t' => k' t' H) fun t42 H =>
   p.guard t31 true H (fun k' => p.pick t37 (.sc (.bool true)) t42 fun t' => k' t' H) fun t43 H =>
   p.guard t24 false H (fun k' => p.pick t31 t43 (.sc (.bool false)) fun t' => k' t' H) fun t44 H =>
   p.pick t24 (.sc (.bool true)) t44 fun t45 =>
   p.cond t45
   (k (.sc (.bool false)) H)
   (p.bin .add t4 (.sc (.int .i64 1)) fun t12 =>
   Aau p n  k m t0 t3 t12 H))
   (p.call 4 (.fn 153 [] []) [t0] H fun t47 H =>
   p.guard t47 true H (fun k' => k' t0 H) fun t49 H =>
   p.guard t47 true H (fun k' => p.bin .neq t49 (.sc (.string ⟨#[]⟩)) fun t' => k' t' H) fun t50 H =>
   p.pick t47 t50 (.sc (.bool false)) fun t51 =>
   p.guard t51 true H (fun k' => k' t3 H) fun t53 H =>
   p.guard t51 true H (fun k' => p.len t53 fun t' => k' t' H) fun t54 H =>
   p.guard t51 true H (fun k' => p.bin .leq t54 (.sc (.int .i64 6)) fun t' => k' t' H) fun t55 H =>
   p.pick t51 t55 (.sc (.bool false)) fun t56 =>
   k t56 H)
noncomputable def f184 (p : Pr β) (n : Nat) (a0 : AV) (H : Ac) (k : KO β) : Option β :=
 p.call 32 (.fn 187 [] []) [a0] H fun t6 H =>
 Aau p n  k n a0 t6 (.sc (.int .i64 0)) H
noncomputable def Pi (p : Pr β) (n : Nat)  (k : KO β) : Nat → AV → AV → KO β
 | 0, _, _, _, _ => none
 | m + 1, t1, t3, t4, H => p.fadr 22 t1 fun t105 =>
   p.load false 1 t105 H fun t106 =>
   p.len t106 fun t107 =>
   p.bin .lss t4 t107 fun t108 =>
   p.cond t108
   (p.fadr 22 t1 fun t111 =>
   p.load false 1 t111 H fun t112 =>
   p.iadr 2 t112 t4 fun t114 =>
   p.fadr 0 t114 fun t115 =>
   p.load false 1 t115 H fun t116 =>
   p.call 4 (.fn 184 [] []) [t116] H fun t117 H =>
   p.un .not t117 fun t118 =>
   p.guard t118 false H (fun k' => p.fadr 22 t1 fun t' => k' t' H) fun t120 H =>
   p.guard t118 false H (fun k' => p.load false 1 t120 H fun t' => k' t' H) fun t121 H =>
   p.guard t118 false H (fun k' => k' t4 H) fun t122 H =>
   p.guard t118 false H (fun k' => p.iadr 2 t121 t122 fun t' => k' t' H) fun t123 H =>
   p.guard t118 false H (fun k' => p.fadr 1 t123 fun t' => k' t' H) fun t124 H =>
   p.guard t118 false H (fun k' => p.load false 1 t124 H fun t' => k' t' H) fun t125 H =>
   p.guard t118 false H (fun k' => p.call 4 (.fn 154 [] []) [t125, (.sc (.int .i64 0)), (.sc (.int .i64 2))] H fun t' H => k' t' H) fun t126 H =>
   p.guard t118 false H (fun k' => p.un .not t126 fun t' => k' t' H) fun t127 H =>
   p.pick t118 (.sc (.bool true)) t127 fun t128 =>
   p.cond t128
   (k (.sc (.bool false)) H)
   (p.bin .add t4 (.sc (.int .i64 1)) fun t110 =>
   Pi p n  k m t1 t3 t110 H))
   (p.guard t3 true H (fun k' => p.fadr 22 t1 fun t' => k' t' H) fun t131 H =>
   p.guard t3 true H (fun k' => p.load false 1 t131 H fun t' => k' t' H) fun t132 H =>
   p.guard t3 true H (fun k' => p.len t132 fun t' => k' t' H) fun t133 H =>
   p.guard t3 true H (fun k' => p.call 4 (.fn 154 [] []) [t133, (.sc (.int .i64 1)), (.sc (.int .i64 4))] H fun t' H => k' t' H) fun t134 H =>
   p.pick t3 t134 (.sc (.bool false)) fun t135 =>
   k t135 H)
noncomputable def Pn (p : Pr β) (n : Nat)  (k : KO β) : Nat → AV → AV → KO β
 | 0, _, _, _, _ => none
 | m + 1, t1, t3, t5, H => p.fadr 24 t1 fun t139 =>
   p.load false 1 t139 H fun t140 =>
   p.len t140 fun t141 =>
   p.bin .lss t5 t141 fun t142 =>
   p.cond t142
   (p.fadr 24 t1 fun t145 =>
   p.load false 1 t145 H fun t146 =>
   p.iadr 1 t146 t5 fun t148 =>
   p.load false 1 t148 H fun t149 =>
   p.call 4 (.fn 154 [] []) [t149, (.sc (.int .i64 0)), (.sc (.int .i64 2))] H fun t150 H =>
   p.un .not t150 fun t151 =>
   p.guard t151 true H (fun k' => p.fadr 24 t1 fun t' => k' t' H) fun t153 H =>
   p.guard t151 true H (fun k' => p.load false 1 t153 H fun t' => k' t' H) fun t154 H =>
   p.guard t151 true H (fun k' => k' t5 H) fun t155 H =>
   p.guard t151 true H (fun k' => p.iadr 1 t154 t155 fun t' => k' t' H) fun t156 H =>
   p.guard t151 true H (fun k' => p.load false 1 t156 H fun t' => k' t' H) fun t157 H =>
   p.guard t151 true H (fun k' => p.bin .neq t157 (.sc (.int .i64 128)) fun t' => k' t' H) fun t158 H =>
   p.pick t151 t158 (.sc (.bool false)) fun t159 =>
   p.cond t159
   (k (.sc (.bool false)) H)
   (p.bin .add t5 (.sc (.int .i64 1)) fun t144 =>
   Pn p n  k m t1 t3 t144 H))
   (p.guard t3 true H (fun k' => p.fadr 24 t1 fun t' => k' t' H) fun t162 H =>
   p.guard t3 true H (fun k' => p.load false 1 t162 H fun t' => k' t' H) fun t163 H =>
   p.guard t3 true H (fun k' => p.len t163 fun t' => k' t' H) fun t164 H =>
   p.guard t3 true H (fun k' => p.call 4 (.fn 154 [] []) [t164, (.sc (.int .i64 1)), (.sc (.int .i64 4))] H fun t' H => k' t' H) fun t165 H =>
   p.pick t3 t165 (.sc (.bool false)) fun t166 =>
   k t166 H)
noncomputable def O0 (p : Pr β) (n : Nat)  (k : KO β) : Nat → AV → AV → KO β
 | 0, _, _, _, _ => none
 | m + 1, t1, t3, t6, H => p.fadr 23 t1 fun t170 =>
   p.load false 1 t170 H fun t171 =>
   p.len t171 fun t172 =>
   p.bin .lss t6 t172 fun t173 =>
   p.cond t173
   (p.fadr 23 t1 fun t176 =>
   p.load false 1 t176 H fun t177 =>
   p.iadr 1 t177 t6 fun t179 =>
   p.load false 1 t179 H fun t180 =>
   p.call 4 (.fn 184 [] []) [t180] H fun t181 H =>
   p.un .not t181 fun t182 =>
   p.cond t182
   (k (.sc (.bool false)) H)
   (p.bin .add t6 (.sc (.int .i64 1)) fun t175 =>
   O0 p n  k m t1 t3 t175 H))
   (p.guard t3 true H (fun k' => p.fadr 23 t1 fun t' => k' t' H) fun t185 H =>
   p.guard t3 true H (fun k' => p.load false 1 t185 H fun t' => k' t' H) fun t186 H =>
   p.guard t3 true H (fun k' => p.len t186 fun t' => k' t' H) fun t187 H =>
   p.guard t3 true H (fun k' => p.call 4 (.fn 154 [] []) [t187, (.sc (.int .i64 1)), (.sc (.int .i64 4))] H fun t' H => k' t' H) fun t188 H =>
   p.pick t3 t188 (.sc (.bool false)) fun t189 =>
   k t189 H)
noncomputable def f178 (p : Pr β) (n : Nat) (a0 : AV) (H : Ac) (k : KO β) : Option β :=
 p.box a0 H fun t1 H =>
 p.fadr 0 t1 fun t7 =>
 p.load false 1 t7 H fun t8 =>
 p.call 4 (.fn 154 [] []) [t8, (.sc (.int .i64 1)), (.sc (.int .i64 14))] H fun t9 H =>
 p.un .not t9 fun t10 =>
 p.guard t10 false H (fun k' => p.load true 25 t1 H fun t' => k' t' H) fun t13 H =>
 p.both
 (p.guard t10 false H (fun k' => p.load true 25 t1 H fun t' => k' t' H) fun t12 H =>
 p.guard t10 false H (fun k' => p.call 78 (.fn 183 [] []) [t13] H fun t' H => k' t' H) fun t14 H =>
 p.guard t10 false H (fun k' => p.call 4 (.fn 182 [] []) [t12, t14] H fun t' H => k' t' H) fun t15 H =>
 p.guard t10 false H (fun k' => p.un .not t15 fun t' => k' t' H) fun t16 H =>
 p.pick t10 (.sc (.bool true)) t16 fun t17 =>
 p.cond t17
 (k (.sc (.bool false)) H)
 (p.fadr 4 t1 fun t18 =>
 p.load false 1 t18 H fun t19 =>
 p.call 4 (.fn 154 [] []) [t19, (.sc (.int .i64 1)), (.sc (.int .i64 65535))] H fun t20 H =>
 p.fadr 0 t1 fun t21 =>
 p.load false 1 t21 H fun t22 =>
 p.bin .eql t22 (.sc (.int .i64 1)) fun t24 =>
 p.cond t24
 (p.fadr 11 t1 fun t25 =>
 p.load false 1 t25 H fun t26 =>
 p.guard t26 true H (fun k' => p.fadr 12 t1 fun t' => k' t' H) fun t28 H =>
 p.guard t26 true H (fun k' => p.load false 1 t28 H fun t' => k' t' H) fun t29 H =>
 p.guard t26 true H (fun k' => p.call 4 (.fn 181 [] []) [t29] H fun t' H => k' t' H) fun t30 H =>
 p.guard t26 true H (fun k' => p.un .not t30 fun t' => k' t' H) fun t31 H =>
 p.guard t26 true H (fun k' => k' t31 H) fun t32 H =>
 p.guard t32 false H (fun k' => p.fadr 13 t1 fun t' => k' t' H) fun t33 H =>
 p.guard t32 false H (fun k' => p.load false 1 t33 H fun t' => k' t' H) fun t34 H =>
 p.guard t32 false H (fun k' => p.len t34 fun t' => k' t' H) fun t35 H =>
 p.guard t32 false H (fun k' => p.bin .gtr t35 (.sc (.int .i64 40)) fun t' => k' t' H) fun t36 H =>
 p.guard t26 true H (fun k' => p.pick t32 (.sc (.bool true)) t36 fun t' => k' t' H) fun t37 H =>
 p.guard t26 true H (fun k' => k' t37 H) fun t38 H =>
 p.guard t38 false H (fun k' => p.fadr 14 t1 fun t' => k' t' H) fun t39 H =>
 p.guard t38 false H (fun k' => p.load false 1 t39 H fun t' => k' t' H) fun t40 H =>
 p.guard t38 false H (fun k' => p.call 4 (.fn 154 [] []) [t40, (.sc (.int .i64 0)), (.sc (.int .i64 2))] H fun t' H => k' t' H) fun t41 H =>
 p.guard t38 false H (fun k' => p.un .not t41 fun t' => k' t' H) fun t42 H =>
 p.guard t26 true H (fun k' => p.pick t38 (.sc (.bool true)) t42 fun t' => k' t' H) fun t43 H =>
 p.pick t26 t43 (.sc (.bool false)) fun t44 =>
 p.cond t44
 (k (.sc (.bool false)) H)
 (p.fadr 8 t1 fun t45 =>
 p.load false 1 t45 H fun t46 =>
 p.call 4 (.fn 154 [] []) [t46, (.sc (.int .i64 0)), (.sc (.int .i64 255))] H fun t47 H =>
 p.guard t47 true H (fun k' => p.fadr 7 t1 fun t' => k' t' H) fun t49 H =>
 p.guard t47 true H (fun k' => p.load false 1 t49 H fun t' => k' t' H) fun t50 H =>
 p.guard t47 true H (fun k' => p.call 4 (.fn 153 [] []) [t50] H fun t' H => k' t' H) fun t51 H =>
 p.pick t47 t51 (.sc (.bool false)) fun t52 =>
 p.guard t52 true H (fun k' => p.fadr 10 t1 fun t' => k' t' H) fun t54 H =>
 p.guard t52 true H (fun k' => p.load false 1 t54 H fun t' => k' t' H) fun t55 H =>
 p.guard t52 true H (fun k' => p.call 4 (.fn 154 [] []) [t55, (.sc (.int .i64 0)), (.sc (.int .i64 65535))] H fun t' H => k' t' H) fun t56 H =>
 p.pick t52 t56 (.sc (.bool false)) fun t57 =>
 p.guard t57 true H (fun k' => p.fadr 17 t1 fun t' => k' t' H) fun t59 H =>
 p.guard t57 true H (fun k' => p.load false 1 t59 H fun t' => k' t' H) fun t60 H =>
 p.guard t57 true H (fun k' => p.call 4 (.fn 153 [] []) [t60] H fun t' H => k' t' H) fun t61 H =>
 p.pick t57 t61 (.sc (.bool false)) fun t62 =>
 p.guard t62 true H (fun k' => p.fadr 19 t1 fun t' => k' t' H) fun t64 H =>
 p.guard t62 true H (fun k' => p.load false 1 t64 H fun t' => k' t' H) fun t65 H =>
 p.guard t62 true H (fun k' => p.len t65 fun t' => k' t' H) fun t66 H =>
 p.guard t62 true H (fun k' => p.bin .leq t66 (.sc (.int .i64 60)) fun t' => k' t' H) fun t67 H =>
 p.pick t62 t67 (.sc (.bool false)) fun t68 =>
 k t68 H))
 (p.bin .eql t22 (.sc (.int .i64 2)) fun t70 =>
 p.cond t70
 (p.fadr 20 t1 fun t71 =>
 p.load false 1 t71 H fun t72 =>
 p.call 4 (.fn 154 [] []) [t72, (.sc (.int .i64 0)), (.sc (.int .i64 5))] H fun t73 H =>
 k t73 H)
 (p.bin .eql t22 (.sc (.int .i64 3)) fun t75 =>
 p.cond t75
 (p.fadr 2 t1 fun t76 =>
 p.load false 1 t76 H fun t77 =>
 p.call 4 (.fn 154 [] []) [t77, (.sc (.int .i64 0)), (.sc (.int .i64 2))] H fun t78 H =>
 p.guard t78 true H (fun k' => p.fadr 2 t1 fun t' => k' t' H) fun t80 H =>
 p.guard t78 true H (fun k' => p.load false 1 t80 H fun t' => k' t' H) fun t81 H =>
 p.guard t78 true H (fun k' => p.bin .eql t81 (.sc (.int .i64 0)) fun t' => k' t' H) fun t82 H =>
 p.guard t78 true H (fun k' => k' t82 H) fun t83 H =>
 p.guard t83 false H (fun k' => k' t20 H) fun t84 H =>
 p.guard t78 true H (fun k' => p.pick t83 (.sc (.bool true)) t84 fun t' => k' t' H) fun t85 H =>
 p.pick t78 t85 (.sc (.bool false)) fun t86 =>
 p.guard t86 true H (fun k' => p.fadr 5 t1 fun t' => k' t' H) fun t88 H =>
 p.guard t86 true H (fun k' => p.load false 1 t88 H fun t' => k' t' H) fun t89 H =>
 p.guard t86 true H (fun k' => p.call 4 (.fn 181 [] []) [t89] H fun t' H => k' t' H) fun t90 H =>
 p.pick t86 t90 (.sc (.bool false)) fun t91 =>
 p.guard t91 true H (fun k' => p.fadr 6 t1 fun t' => k' t' H) fun t93 H =>
 p.guard t91 true H (fun k' => p.load false 1 t93 H fun t' => k' t' H) fun t94 H =>
 p.guard t91 true H (fun k' => p.len t94 fun t' => k' t' H) fun t95 H =>
 p.guard t91 true H (fun k' => p.bin .leq t95 (.sc (.int .i64 40)) fun t' => k' t' H) fun t96 H =>
 p.pick t91 t96 (.sc (.bool false)) fun t97 =>
 k t97 H)
 (p.bin .eql t22 (.sc (.int .i64 12)) fun t99 =>
 M7 (fun (t1 t3 t22 t98 : AV) (H : Ac) => p.cond t98
 (k (.sc (.bool true)) H)
 (p.bin .eql t22 (.sc (.int .i64 8)) fun t103 =>
 p.cond t103
 (Pi p n  k n t1 t3 (.sc (.int .i64 0)) H)
 (p.bin .eql t22 (.sc (.int .i64 9)) fun t137 =>
 p.cond t137
 (Pn p n  k n t1 t3 (.sc (.int .i64 0)) H)
 (p.bin .eql t22 (.sc (.int .i64 10)) fun t168 =>
 p.cond t168
 (O0 p n  k n t1 t3 (.sc (.int .i64 0)) H)
 (k t3 H))))) fun j1 =>
 p.cond t99
 (j1 t1 t20 t22 t99 H)
 (p.bin .eql t22 (.sc (.int .i64 13)) fun t100 =>
 p.cond t100
 (j1 t1 t20 t22 t100 H)
 (p.bin .eql t22 (.sc (.int .i64 14)) fun t101 =>
 j1 t1 t20 t22 t101 H)))))))
 (p.guard t10 false H (fun k' => p.call 78 (.fn 183 [] []) [t13] H fun t' H => k' t' H) fun t14 H =>
 p.guard t10 false H (fun k' => p.load true 25 t1 H fun t' => k' t' H) fun t12 H =>
 p.guard t10 false H (fun k' => p.call 4 (.fn 182 [] []) [t12, t14] H fun t' H => k' t' H) fun t15 H =>
 p.guard t10 false H (fun k' => p.un .not t15 fun t' => k' t' H) fun t16 H =>
 p.pick t10 (.sc (.bool true)) t16 fun t17 =>
 p.cond t17
 (k (.sc (.bool false)) H)
 (p.fadr 4 t1 fun t18 =>
 p.load false 1 t18 H fun t19 =>
 p.call 4 (.fn 154 [] []) [t19, (.sc (.int .i64 1)), (.sc (.int .i64 65535))] H fun t20 H =>
 p.fadr 0 t1 fun t21 =>
 p.load false 1 t21 H fun t22 =>
 p.bin .eql t22 (.sc (.int .i64 1)) fun t24 =>
 p.cond t24
 (p.fadr 11 t1 fun t25 =>
 p.load false 1 t25 H fun t26 =>
 p.guard t26 true H (fun k' => p.fadr 12 t1 fun t' => k' t' H) fun t28 H =>
 p.guard t26 true H (fun k' => p.load false 1 t28 H fun t' => k' t' H) fun t29 H =>
 p.guard t26 true H (fun k' => p.call 4 (.fn 181 [] []) [t29] H fun t' H => k' t' H) fun t30 H =>
 p.guard t26 true H (fun k' => p.un .not t30 fun t' => k' t' H) fun t31 H =>
 p.guard t26 true H (fun k' => k' t31 H) fun t32 H =>
 p.guard t32 false H (fun k' => p.fadr 13 t1 fun t' => k' t' H) fun t33 H =>
 p.guard t32 false H (fun k' => p.load false 1 t33 H fun t' => k' t' H) fun t34 H =>
 p.guard t32 false H (fun k' => p.len t34 fun t' => k' t' H) fun t35 H =>
 p.guard t32 false H (fun k' => p.bin .gtr t35 (.sc (.int .i64 40)) fun t' => k' t' H) fun t36 H =>
 p.guard t26 true H (fun k' => p.pick t32 (.sc (.bool true)) t36 fun t' => k' t' H) fun t37 H =>
 p.guard t26 true H (fun k' => k' t37 H) fun t38 H =>
 p.guard t38 false H (fun k' => p.fadr 14 t1 fun t' => k' t' H) fun t39 H =>
 p.guard t38 false H (fun k' => p.load false 1 t39 H fun t' => k' t' H) fun t40 H =>
 p.guard t38 false H (fun k' => p.call 4 (.fn 154 [] []) [t40, (.sc (.int .i64 0)), (.sc (.int .i64 2))] H fun t' H => k' t' H) fun t41 H =>
 p.guard t38 false H (fun k' => p.un .not t41 fun t' => k' t' H) fun t42 H =>
 p.guard t26 true H (fun k' => p.pick t38 (.sc (.bool true)) t42 fun t' => k' t' H) fun t43 H =>
 p.pick t26 t43 (.sc (.bool false)) fun t44 =>
 p.cond t44
 (k (.sc (.bool false)) H)
 (p.fadr 8 t1 fun t45 =>
 p.load false 1 t45 H fun t46 =>
 p.call 4 (.fn 154 [] []) [t46, (.sc (.int .i64 0)), (.sc (.int .i64 255))] H fun t47 H =>
 p.guard t47 true H (fun k' => p.fadr 7 t1 fun t' => k' t' H) fun t49 H =>
 p.guard t47 true H (fun k' => p.load false 1 t49 H fun t' => k' t' H) fun t50 H =>
 p.guard t47 true H (fun k' => p.call 4 (.fn 153 [] []) [t50] H fun t' H => k' t' H) fun t51 H =>
 p.pick t47 t51 (.sc (.bool false)) fun t52 =>
 p.guard t52 true H (fun k' => p.fadr 10 t1 fun t' => k' t' H) fun t54 H =>
 p.guard t52 true H (fun k' => p.load false 1 t54 H fun t' => k' t' H) fun t55 H =>
 p.guard t52 true H (fun k' => p.call 4 (.fn 154 [] []) [t55, (.sc (.int .i64 0)), (.sc (.int .i64 65535))] H fun t' H => k' t' H) fun t56 H =>
 p.pick t52 t56 (.sc (.bool false)) fun t57 =>
 p.guard t57 true H (fun k' => p.fadr 17 t1 fun t' => k' t' H) fun t59 H =>
 p.guard t57 true H (fun k' => p.load false 1 t59 H fun t' => k' t' H) fun t60 H =>
 p.guard t57 true H (fun k' => p.call 4 (.fn 153 [] []) [t60] H fun t' H => k' t' H) fun t61 H =>
 p.pick t57 t61 (.sc (.bool false)) fun t62 =>
 p.guard t62 true H (fun k' => p.fadr 19 t1 fun t' => k' t' H) fun t64 H =>
 p.guard t62 true H (fun k' => p.load false 1 t64 H fun t' => k' t' H) fun t65 H =>
 p.guard t62 true H (fun k' => p.len t65 fun t' => k' t' H) fun t66 H =>
 p.guard t62 true H (fun k' => p.bin .leq t66 (.sc (.int .i64 60)) fun t' => k' t' H) fun t67 H =>
 p.pick t62 t67 (.sc (.bool false)) fun t68 =>
 k t68 H))
 (p.bin .eql t22 (.sc (.int .i64 2)) fun t70 =>
 p.cond t70
 (p.fadr 20 t1 fun t71 =>
 p.load false 1 t71 H fun t72 =>
 p.call 4 (.fn 154 [] []) [t72, (.sc (.int .i64 0)), (.sc (.int .i64 5))] H fun t73 H =>
 k t73 H)
 (p.bin .eql t22 (.sc (.int .i64 3)) fun t75 =>
 p.cond t75
 (p.fadr 2 t1 fun t76 =>
 p.load false 1 t76 H fun t77 =>
 p.call 4 (.fn 154 [] []) [t77, (.sc (.int .i64 0)), (.sc (.int .i64 2))] H fun t78 H =>
 p.guard t78 true H (fun k' => p.fadr 2 t1 fun t' => k' t' H) fun t80 H =>
 p.guard t78 true H (fun k' => p.load false 1 t80 H fun t' => k' t' H) fun t81 H =>
 p.guard t78 true H (fun k' => p.bin .eql t81 (.sc (.int .i64 0)) fun t' => k' t' H) fun t82 H =>
 p.guard t78 true H (fun k' => k' t82 H) fun t83 H =>
 p.guard t83 false H (fun k' => k' t20 H) fun t84 H =>
 p.guard t78 true H (fun k' => p.pick t83 (.sc (.bool true)) t84 fun t' => k' t' H) fun t85 H =>
 p.pick t78 t85 (.sc (.bool false)) fun t86 =>
 p.guard t86 true H (fun k' => p.fadr 5 t1 fun t' => k' t' H) fun t88 H =>
 p.guard t86 true H (fun k' => p.load false 1 t88 H fun t' => k' t' H) fun t89 H =>
 p.guard t86 true H (fun k' => p.call 4 (.fn 181 [] []) [t89] H fun t' H => k' t' H) fun t90 H =>
 p.pick t86 t90 (.sc (.bool false)) fun t91 =>
 p.guard t91 true H (fun k' => p.fadr 6 t1 fun t' => k' t' H) fun t93 H =>
 p.guard t91 true H (fun k' => p.load false 1 t93 H fun t' => k' t' H) fun t94 H =>
 p.guard t91 true H (fun k' => p.len t94 fun t' => k' t' H) fun t95 H =>
 p.guard t91 true H (fun k' => p.bin .leq t95 (.sc (.int .i64 40)) fun t' => k' t' H) fun t96 H =>
 p.pick t91 t96 (.sc (.bool false)) fun t97 =>
 k t97 H)
 (p.bin .eql t22 (.sc (.int .i64 12)) fun t99 =>
 M7 (fun (t1 t3 t22 t98 : AV) (H : Ac) => p.cond t98
 (k (.sc (.bool true)) H)
 (p.bin .eql t22 (.sc (.int .i64 8)) fun t103 =>
 p.cond t103
 (Pi p n  k n t1 t3 (.sc (.int .i64 0)) H)
 (p.bin .eql t22 (.sc (.int .i64 9)) fun t137 =>
 p.cond t137
 (Pn p n  k n t1 t3 (.sc (.int .i64 0)) H)
 (p.bin .eql t22 (.sc (.int .i64 10)) fun t168 =>
 p.cond t168
 (O0 p n  k n t1 t3 (.sc (.int .i64 0)) H)
 (k t3 H))))) fun j2 =>
 p.cond t99
 (j2 t1 t20 t22 t99 H)
 (p.bin .eql t22 (.sc (.int .i64 13)) fun t100 =>
 p.cond t100
 (j2 t1 t20 t22 t100 H)
 (p.bin .eql t22 (.sc (.int .i64 14)) fun t101 =>
 j2 t1 t20 t22 t101 H)))))))
noncomputable def Ve (p : Pr β) (n : Nat)  (k : KO β) (m : Nat) (tm : Tm) (H : Ac) : Option β :=
 Dz 191 (fun tm H k => An At p P0 191 n (cd P9 [1, 1, 1, 0, 1, 0, 1, 2, 1, 2, 1, 2, 1, 2, 1, 1, 0, 1, 0, 0]) tm H k) (E5 1 (Em (fun tm H => An At p P0 191 n (cd P9 [1, 1, 1, 0, 1, 0, 1, 2, 1, 2, 1, 2, 1, 2, 1, 1, 1]) tm H (E5 0 (Em (fun tm H => An At p P0 191 n (cd P9 [1, 1, 1, 1]) tm H (C9 At p fi178.results k)) (C9 At p fi178.results k)))) (E5 0 (Em (fun tm H => An At p P0 191 n (cd P9 [1, 1, 1, 1]) tm H (C9 At p fi178.results k)) (C9 At p fi178.results k))))) m tm H
noncomputable def Vd (p : Pr β) (n : Nat)  (k : KO β) (m : Nat) (tm : Tm) (H : Ac) : Option β :=
 Dz 191 (fun tm H k => An At p P0 191 n (cd P9 [1, 1, 1, 0, 1, 0, 1, 2, 1, 2, 1, 2, 1, 2, 1, 2, 1, 1, 0, 1, 0, 0]) tm H k) (E5 3 (Em (fun tm H => An At p P0 191 n (cd P9 [1, 1, 1, 0, 1, 0, 1, 2, 1, 2, 1, 2, 1, 2, 1, 2, 1, 1, 1]) tm H (E5 0 (Em (fun tm H => An At p P0 191 n (cd P9 [1, 1, 1, 1]) tm H (C9 At p fi178.results k)) (C9 At p fi178.results k)))) (E5 0 (Em (fun tm H => An At p P0 191 n (cd P9 [1, 1, 1, 1]) tm H (C9 At p fi178.results k)) (C9 At p fi178.results k))))) m tm H
noncomputable def U3 (p : Pr β) (n : Nat)  (k : KO β) (m : Nat) (tm : Tm) (H : Ac) : Option β :=
 Dz 191 (fun tm H k => An At p P0 191 n (cd P9 [1, 1, 1, 0, 1, 0, 1, 2, 1, 2, 1, 2, 1, 2, 1, 2, 1, 2, 1, 1, 0, 1, 0, 0]) tm H k) (E5 5 (Em (fun tm H => An At p P0 191 n (cd P9 [1, 1, 1, 0, 1, 0, 1, 2, 1, 2, 1, 2, 1, 2, 1, 2, 1, 2, 1, 1, 1]) tm H (E5 0 (Em (fun tm H => An At p P0 191 n (cd P9 [1, 1, 1, 1]) tm H (C9 At p fi178.results k)) (C9 At p fi178.results k)))) (E5 0 (Em (fun tm H => An At p P0 191 n (cd P9 [1, 1, 1, 1]) tm H (C9 At p fi178.results k)) (C9 At p fi178.results k))))) m tm H
theorem Yy (p : Pr β) (n : Nat)  (k : KO β) (m0 : Nat) : ∀ (t : Nat → AV) (H : Ac), Ve p n  k m0 (tf 191 0 t) H = Pi p n  k m0 (t 1) (t 3) (t 4) H := by
 induction m0 with
 | zero => intros; rfl
 | succ m0 ih =>
  intro t H
  refine Eq.trans (Cd (nt := 191) (m := m0) (g := fun t H => Pi p n  k m0 (t 1) (t 3) (t 4) H) ih rfl) ?_
  kernel_rfl
theorem X2 (p : Pr β) (n : Nat)  (k : KO β) (m1 : Nat) : ∀ (t : Nat → AV) (H : Ac), Vd p n  k m1 (tf 191 0 t) H = Pn p n  k m1 (t 1) (t 3) (t 5) H := by
 induction m1 with
 | zero => intros; rfl
 | succ m1 ih =>
  intro t H
  refine Eq.trans (Cd (nt := 191) (m := m1) (g := fun t H => Pn p n  k m1 (t 1) (t 3) (t 5) H) ih rfl) ?_
  kernel_rfl
theorem Zs (p : Pr β) (n : Nat)  (k : KO β) (m2 : Nat) : ∀ (t : Nat → AV) (H : Ac), U3 p n  k m2 (tf 191 0 t) H = O0 p n  k m2 (t 1) (t 3) (t 6) H := by
 induction m2 with
 | zero => intros; rfl
 | succ m2 ih =>
  intro t H
  refine Eq.trans (Cd (nt := 191) (m := m2) (g := fun t H => O0 p n  k m2 (t 1) (t 3) (t 6) H) ih rfl) ?_
  kernel_rfl
theorem AcN (p : Pr β) (n : Nat) (a0 : AV) (H : Ac) (k : KO β) : Ct At p n fi178 [a0] H k =
 p.box a0 H fun t1 H =>
 p.fadr 0 t1 fun t7 =>
 p.load false 1 t7 H fun t8 =>
 p.call 4 (.fn 154 [] []) [t8, (.sc (.int .i64 1)), (.sc (.int .i64 14))] H fun t9 H =>
 p.un .not t9 fun t10 =>
 p.guard t10 false H (fun k' => p.load true 25 t1 H fun t' => k' t' H) fun t13 H =>
 p.both
 (p.guard t10 false H (fun k' => p.load true 25 t1 H fun t' => k' t' H) fun t12 H =>
 p.guard t10 false H (fun k' => p.call 78 (.fn 183 [] []) [t13] H fun t' H => k' t' H) fun t14 H =>
 p.guard t10 false H (fun k' => p.call 4 (.fn 182 [] []) [t12, t14] H fun t' H => k' t' H) fun t15 H =>
 p.guard t10 false H (fun k' => p.un .not t15 fun t' => k' t' H) fun t16 H =>
 p.pick t10 (.sc (.bool true)) t16 fun t17 =>
 p.cond t17
 (k (.sc (.bool false)) H)
 (p.fadr 4 t1 fun t18 =>
 p.load false 1 t18 H fun t19 =>
 p.call 4 (.fn 154 [] []) [t19, (.sc (.int .i64 1)), (.sc (.int .i64 65535))] H fun t20 H =>
 p.fadr 0 t1 fun t21 =>
 p.load false 1 t21 H fun t22 =>
 p.bin .eql t22 (.sc (.int .i64 1)) fun t24 =>
 p.cond t24
 (p.fadr 11 t1 fun t25 =>
 p.load false 1 t25 H fun t26 =>
 p.guard t26 true H (fun k' => p.fadr 12 t1 fun t' => k' t' H) fun t28 H =>
 p.guard t26 true H (fun k' => p.load false 1 t28 H fun t' => k' t' H) fun t29 H =>
 p.guard t26 true H (fun k' => p.call 4 (.fn 181 [] []) [t29] H fun t' H => k' t' H) fun t30 H =>
 p.guard t26 true H (fun k' => p.un .not t30 fun t' => k' t' H) fun t31 H =>
 p.guard t26 true H (fun k' => k' t31 H) fun t32 H =>
 p.guard t32 false H (fun k' => p.fadr 13 t1 fun t' => k' t' H) fun t33 H =>
 p.guard t32 false H (fun k' => p.load false 1 t33 H fun t' => k' t' H) fun t34 H =>
 p.guard t32 false H (fun k' => p.len t34 fun t' => k' t' H) fun t35 H =>
 p.guard t32 false H (fun k' => p.bin .gtr t35 (.sc (.int .i64 40)) fun t' => k' t' H) fun t36 H =>
 p.guard t26 true H (fun k' => p.pick t32 (.sc (.bool true)) t36 fun t' => k' t' H) fun t37 H =>
 p.guard t26 true H (fun k' => k' t37 H) fun t38 H =>
 p.guard t38 false H (fun k' => p.fadr 14 t1 fun t' => k' t' H) fun t39 H =>
 p.guard t38 false H (fun k' => p.load false 1 t39 H fun t' => k' t' H) fun t40 H =>
 p.guard t38 false H (fun k' => p.call 4 (.fn 154 [] []) [t40, (.sc (.int .i64 0)), (.sc (.int .i64 2))] H fun t' H => k' t' H) fun t41 H =>
 p.guard t38 false H (fun k' => p.un .not t41 fun t' => k' t' H) fun t42 H =>
 p.guard t26 true H (fun k' => p.pick t38 (.sc (.bool true)) t42 fun t' => k' t' H) fun t43 H =>
 p.pick t26 t43 (.sc (.bool false)) fun t44 =>
 p.cond t44
 (k (.sc (.bool false)) H)
 (p.fadr 8 t1 fun t45 =>
 p.load false 1 t45 H fun t46 =>
 p.call 4 (.fn 154 [] []) [t46, (.sc (.int .i64 0)), (.sc (.int .i64 255))] H fun t47 H =>
 p.guard t47 true H (fun k' => p.fadr 7 t1 fun t' => k' t' H) fun t49 H =>
 p.guard t47 true H (fun k' => p.load false 1 t49 H fun t' => k' t' H) fun t50 H =>
 p.guard t47 true H (fun k' => p.call 4 (.fn 153 [] []) [t50] H fun t' H => k' t' H) fun t51 H =>
 p.pick t47 t51 (.sc (.bool false)) fun t52 =>
 p.guard t52 true H (fun k' => p.fadr 10 t1 fun t' => k' t' H) fun t54 H =>
 p.guard t52 true H (fun k' => p.load false 1 t54 H fun t' => k' t' H) fun t55 H =>
 p.guard t52 true H (fun k' => p.call 4 (.fn 154 [] []) [t55, (.sc (.int .i64 0)), (.sc (.int .i64 65535))] H fun t' H => k' t' H) fun t56 H =>
 p.pick t52 t56 (.sc (.bool false)) fun t57 =>
 p.guard t57 true H (fun k' => p.fadr 17 t1 fun t' => k' t' H) fun t59 H =>
 p.guard t57 true H (fun k' => p.load false 1 t59 H fun t' => k' t' H) fun t60 H =>
 p.guard t57 true H (fun k' => p.call 4 (.fn 153 [] []) [t60] H fun t' H => k' t' H) fun t61 H =>
 p.pick t57 t61 (.sc (.bool false)) fun t62 =>
 p.guard t62 true H (fun k' => p.fadr 19 t1 fun t' => k' t' H) fun t64 H =>
 p.guard t62 true H (fun k' => p.load false 1 t64 H fun t' => k' t' H) fun t65 H =>
 p.guard t62 true H (fun k' => p.len t65 fun t' => k' t' H) fun t66 H =>
 p.guard t62 true H (fun k' => p.bin .leq t66 (.sc (.int .i64 60)) fun t' => k' t' H) fun t67 H =>
 p.pick t62 t67 (.sc (.bool false)) fun t68 =>
 k t68 H))
 (p.bin .eql t22 (.sc (.int .i64 2)) fun t70 =>
 p.cond t70
 (p.fadr 20 t1 fun t71 =>
 p.load false 1 t71 H fun t72 =>
 p.call 4 (.fn 154 [] []) [t72, (.sc (.int .i64 0)), (.sc (.int .i64 5))] H fun t73 H =>
 k t73 H)
 (p.bin .eql t22 (.sc (.int .i64 3)) fun t75 =>
 p.cond t75
 (p.fadr 2 t1 fun t76 =>
 p.load false 1 t76 H fun t77 =>
 p.call 4 (.fn 154 [] []) [t77, (.sc (.int .i64 0)), (.sc (.int .i64 2))] H fun t78 H =>
 p.guard t78 true H (fun k' => p.fadr 2 t1 fun t' => k' t' H) fun t80 H =>
 p.guard t78 true H (fun k' => p.load false 1 t80 H fun t' => k' t' H) fun t81 H =>
 p.guard t78 true H (fun k' => p.bin .eql t81 (.sc (.int .i64 0)) fun t' => k' t' H) fun t82 H =>
 p.guard t78 true H (fun k' => k' t82 H) fun t83 H =>
 p.guard t83 false H (fun k' => k' t20 H) fun t84 H =>
 p.guard t78 true H (fun k' => p.pick t83 (.sc (.bool true)) t84 fun t' => k' t' H) fun t85 H =>
 p.pick t78 t85 (.sc (.bool false)) fun t86 =>
 p.guard t86 true H (fun k' => p.fadr 5 t1 fun t' => k' t' H) fun t88 H =>
 p.guard t86 true H (fun k' => p.load false 1 t88 H fun t' => k' t' H) fun t89 H =>
 p.guard t86 true H (fun k' => p.call 4 (.fn 181 [] []) [t89] H fun t' H => k' t' H) fun t90 H =>
 p.pick t86 t90 (.sc (.bool false)) fun t91 =>
 p.guard t91 true H (fun k' => p.fadr 6 t1 fun t' => k' t' H) fun t93 H =>
 p.guard t91 true H (fun k' => p.load false 1 t93 H fun t' => k' t' H) fun t94 H =>
 p.guard t91 true H (fun k' => p.len t94 fun t' => k' t' H) fun t95 H =>
 p.guard t91 true H (fun k' => p.bin .leq t95 (.sc (.int .i64 40)) fun t' => k' t' H) fun t96 H =>
 p.pick t91 t96 (.sc (.bool false)) fun t97 =>
 k t97 H)
 (p.bin .eql t22 (.sc (.int .i64 12)) fun t99 =>
 M7 (fun (t : Nat → AV) (H : Ac) => p.cond (t 98)
 (k (.sc (.bool true)) H)
 (p.bin .eql (t 22) (.sc (.int .i64 8)) fun t103 =>
 p.cond t103
 (Ve p n  k n (tf 191 0 (ud [(4, (.sc (.int .i64 0))), (102, t103), (103, t103)] t)) H)
 (p.bin .eql (t 22) (.sc (.int .i64 9)) fun t137 =>
 p.cond t137
 (Vd p n  k n (tf 191 0 (ud [(5, (.sc (.int .i64 0))), (102, t103), (103, t103), (136, t137), (137, t137)] t)) H)
 (p.bin .eql (t 22) (.sc (.int .i64 10)) fun t168 =>
 p.cond t168
 (U3 p n  k n (tf 191 0 (ud [(6, (.sc (.int .i64 0))), (102, t103), (103, t103), (136, t137), (137, t137), (167, t168), (168, t168)] t)) H)
 (k (t 3) H))))) fun j1 =>
 p.cond t99
 (j1 (ud [(0, a0), (1, t1), (2, (.sc (.bool false))), (3, t20), (7, t7), (8, t8), (9, t9), (10, t10), (11, t10), (12, t12), (13, t13), (14, t14), (15, t15), (16, t16), (17, t17), (18, t18), (19, t19), (20, t20), (21, t21), (22, t22), (23, t24), (24, t24), (69, t70), (70, t70), (74, t75), (75, t75), (98, t99), (99, t99)] ut) H)
 (p.bin .eql t22 (.sc (.int .i64 13)) fun t100 =>
 p.cond t100
 (j1 (ud [(0, a0), (1, t1), (2, (.sc (.bool false))), (3, t20), (7, t7), (8, t8), (9, t9), (10, t10), (11, t10), (12, t12), (13, t13), (14, t14), (15, t15), (16, t16), (17, t17), (18, t18), (19, t19), (20, t20), (21, t21), (22, t22), (23, t24), (24, t24), (69, t70), (70, t70), (74, t75), (75, t75), (98, t100), (99, t99), (100, t100)] ut) H)
 (p.bin .eql t22 (.sc (.int .i64 14)) fun t101 =>
 j1 (ud [(0, a0), (1, t1), (2, (.sc (.bool false))), (3, t20), (7, t7), (8, t8), (9, t9), (10, t10), (11, t10), (12, t12), (13, t13), (14, t14), (15, t15), (16, t16), (17, t17), (18, t18), (19, t19), (20, t20), (21, t21), (22, t22), (23, t24), (24, t24), (69, t70), (70, t70), (74, t75), (75, t75), (98, t101), (99, t99), (100, t100), (101, t101)] ut) H)))))))
 (p.guard t10 false H (fun k' => p.call 78 (.fn 183 [] []) [t13] H fun t' H => k' t' H) fun t14 H =>
 p.guard t10 false H (fun k' => p.load true 25 t1 H fun t' => k' t' H) fun t12 H =>
 p.guard t10 false H (fun k' => p.call 4 (.fn 182 [] []) [t12, t14] H fun t' H => k' t' H) fun t15 H =>
 p.guard t10 false H (fun k' => p.un .not t15 fun t' => k' t' H) fun t16 H =>
 p.pick t10 (.sc (.bool true)) t16 fun t17 =>
 p.cond t17
 (k (.sc (.bool false)) H)
 (p.fadr 4 t1 fun t18 =>
 p.load false 1 t18 H fun t19 =>
 p.call 4 (.fn 154 [] []) [t19, (.sc (.int .i64 1)), (.sc (.int .i64 65535))] H fun t20 H =>
 p.fadr 0 t1 fun t21 =>
 p.load false 1 t21 H fun t22 =>
 p.bin .eql t22 (.sc (.int .i64 1)) fun t24 =>
 p.cond t24
 (p.fadr 11 t1 fun t25 =>
 p.load false 1 t25 H fun t26 =>
 p.guard t26 true H (fun k' => p.fadr 12 t1 fun t' => k' t' H) fun t28 H =>
 p.guard t26 true H (fun k' => p.load false 1 t28 H fun t' => k' t' H) fun t29 H =>
 p.guard t26 true H (fun k' => p.call 4 (.fn 181 [] []) [t29] H fun t' H => k' t' H) fun t30 H =>
 p.guard t26 true H (fun k' => p.un .not t30 fun t' => k' t' H) fun t31 H =>
 p.guard t26 true H (fun k' => k' t31 H) fun t32 H =>
 p.guard t32 false H (fun k' => p.fadr 13 t1 fun t' => k' t' H) fun t33 H =>
 p.guard t32 false H (fun k' => p.load false 1 t33 H fun t' => k' t' H) fun t34 H =>
 p.guard t32 false H (fun k' => p.len t34 fun t' => k' t' H) fun t35 H =>
 p.guard t32 false H (fun k' => p.bin .gtr t35 (.sc (.int .i64 40)) fun t' => k' t' H) fun t36 H =>
 p.guard t26 true H (fun k' => p.pick t32 (.sc (.bool true)) t36 fun t' => k' t' H) fun t37 H =>
 p.guard t26 true H (fun k' => k' t37 H) fun t38 H =>
 p.guard t38 false H (fun k' => p.fadr 14 t1 fun t' => k' t' H) fun t39 H =>
 p.guard t38 false H (fun k' => p.load false 1 t39 H fun t' => k' t' H) fun t40 H =>
 p.guard t38 false H (fun k' => p.call 4 (.fn 154 [] []) [t40, (.sc (.int .i64 0)), (.sc (.int .i64 2))] H fun t' H => k' t' H) fun t41 H =>
 p.guard t38 false H (fun k' => p.un .not t41 fun t' => k' t' H) fun t42 H =>
 p.guard t26 true H (fun k' => p.pick t38 (.sc (.bool true)) t42 fun t' => k' t' H) fun t43 H =>
 p.pick t26 t43 (.sc (.bool false)) fun t44 =>
 p.cond t44
 (k (.sc (.bool false)) H)
 (p.fadr 8 t1 fun t45 =>
 p.load false 1 t45 H fun t46 =>
 p.call 4 (.fn 154 [] []) [t46, (.sc (.int .i64 0)), (.sc (.int .i64 255))] H fun t47 H =>
 p.guard t47 true H (fun k' => p.fadr 7 t1 fun t' => k' t' H) fun t49 H =>
 p.guard t47 true H (fun k' => p.load false 1 t49 H fun t' => k' t' H) fun t50 H =>
 p.guard t47 true H (fun k' => p.call 4 (.fn 153 [] []) [t50] H fun t' H => k' t' H) fun t51 H =>
 p.pick t47 t51 (.sc (.bool false)) fun t52 =>
 p.guard t52 true H (fun k' => p.fadr 10 t1 fun t' => k' t' H) fun t54 H =>
 p.guard t52 true H (fun k' => p.load false 1 t54 H fun t' => k' t' H) fun t55 H =>
 p.guard t52 true H (fun k' => p.call 4 (.fn 154 [] []) [t55, (.sc (.int .i64 0)), (.sc (.int .i64 65535))] H fun t' H => k' t' H) fun t56 H =>
 p.pick t52 t56 (.sc (.bool false)) fun t57 =>
 p.guard t57 true H (fun k' => p.fadr 17 t1 fun t' => k' t' H) fun t59 H =>
 p.guard t57 true H (fun k' => p.load false 1 t59 H fun t' => k' t' H) fun t60 H =>
 p.guard t57 true H (fun k' => p.call 4 (.fn 153 [] []) [t60] H fun t' H => k' t' H) fun t61 H =>
 p.pick t57 t61 (.sc (.bool false)) fun t62 =>
 p.guard t62 true H (fun k' => p.fadr 19 t1 fun t' => k' t' H) fun t64 H =>
 p.guard t62 true H (fun k' => p.load false 1 t64 H fun t' => k' t' H) fun t65 H =>
 p.guard t62 true H (fun k' => p.len t65 fun t' => k' t' H) fun t66 H =>
 p.guard t62 true H (fun k' => p.bin .leq t66 (.sc (.int .i64 60)) fun t' => k' t' H) fun t67 H =>
 p.pick t62 t67 (.sc (.bool false)) fun t68 =>
 k t68 H))
 (p.bin .eql t22 (.sc (.int .i64 2)) fun t70 =>
 p.cond t70
 (p.fadr 20 t1 fun t71 =>
 p.load false 1 t71 H fun t72 =>
 p.call 4 (.fn 154 [] []) [t72, (.sc (.int .i64 0)), (.sc (.int .i64 5))] H fun t73 H =>
 k t73 H)
 (p.bin .eql t22 (.sc (.int .i64 3)) fun t75 =>
 p.cond t75
 (p.fadr 2 t1 fun t76 =>
 p.load false 1 t76 H fun t77 =>
 p.call 4 (.fn 154 [] []) [t77, (.sc (.int .i64 0)), (.sc (.int .i64 2))] H fun t78 H =>
 p.guard t78 true H (fun k' => p.fadr 2 t1 fun t' => k' t' H) fun t80 H =>
 p.guard t78 true H (fun k' => p.load false 1 t80 H fun t' => k' t' H) fun t81 H =>
 p.guard t78 true H (fun k' => p.bin .eql t81 (.sc (.int .i64 0)) fun t' => k' t' H) fun t82 H =>
 p.guard t78 true H (fun k' => k' t82 H) fun t83 H =>
 p.guard t83 false H (fun k' => k' t20 H) fun t84 H =>
 p.guard t78 true H (fun k' => p.pick t83 (.sc (.bool true)) t84 fun t' => k' t' H) fun t85 H =>
 p.pick t78 t85 (.sc (.bool false)) fun t86 =>
 p.guard t86 true H (fun k' => p.fadr 5 t1 fun t' => k' t' H) fun t88 H =>
 p.guard t86 true H (fun k' => p.load false 1 t88 H fun t' => k' t' H) fun t89 H =>
 p.guard t86 true H (fun k' => p.call 4 (.fn 181 [] []) [t89] H fun t' H => k' t' H) fun t90 H =>
 p.pick t86 t90 (.sc (.bool false)) fun t91 =>
 p.guard t91 true H (fun k' => p.fadr 6 t1 fun t' => k' t' H) fun t93 H =>
 p.guard t91 true H (fun k' => p.load false 1 t93 H fun t' => k' t' H) fun t94 H =>
 p.guard t91 true H (fun k' => p.len t94 fun t' => k' t' H) fun t95 H =>
 p.guard t91 true H (fun k' => p.bin .leq t95 (.sc (.int .i64 40)) fun t' => k' t' H) fun t96 H =>
 p.pick t91 t96 (.sc (.bool false)) fun t97 =>
 k t97 H)
 (p.bin .eql t22 (.sc (.int .i64 12)) fun t99 =>
 M7 (fun (t : Nat → AV) (H : Ac) => p.cond (t 98)
 (k (.sc (.bool true)) H)
 (p.bin .eql (t 22) (.sc (.int .i64 8)) fun t103 =>
 p.cond t103
 (Ve p n  k n (tf 191 0 (ud [(4, (.sc (.int .i64 0))), (102, t103), (103, t103)] t)) H)
 (p.bin .eql (t 22) (.sc (.int .i64 9)) fun t137 =>
 p.cond t137
 (Vd p n  k n (tf 191 0 (ud [(5, (.sc (.int .i64 0))), (102, t103), (103, t103), (136, t137), (137, t137)] t)) H)
 (p.bin .eql (t 22) (.sc (.int .i64 10)) fun t168 =>
 p.cond t168
 (U3 p n  k n (tf 191 0 (ud [(6, (.sc (.int .i64 0))), (102, t103), (103, t103), (136, t137), (137, t137), (167, t168), (168, t168)] t)) H)
 (k (t 3) H))))) fun j2 =>
 p.cond t99
 (j2 (ud [(0, a0), (1, t1), (2, (.sc (.bool false))), (3, t20), (7, t7), (8, t8), (9, t9), (10, t10), (11, t10), (12, t12), (13, t13), (14, t14), (15, t15), (16, t16), (17, t17), (18, t18), (19, t19), (20, t20), (21, t21), (22, t22), (23, t24), (24, t24), (69, t70), (70, t70), (74, t75), (75, t75), (98, t99), (99, t99)] ut) H)
 (p.bin .eql t22 (.sc (.int .i64 13)) fun t100 =>
 p.cond t100
 (j2 (ud [(0, a0), (1, t1), (2, (.sc (.bool false))), (3, t20), (7, t7), (8, t8), (9, t9), (10, t10), (11, t10), (12, t12), (13, t13), (14, t14), (15, t15), (16, t16), (17, t17), (18, t18), (19, t19), (20, t20), (21, t21), (22, t22), (23, t24), (24, t24), (69, t70), (70, t70), (74, t75), (75, t75), (98, t100), (99, t99), (100, t100)] ut) H)
 (p.bin .eql t22 (.sc (.int .i64 14)) fun t101 =>
 j2 (ud [(0, a0), (1, t1), (2, (.sc (.bool false))), (3, t20), (7, t7), (8, t8), (9, t9), (10, t10), (11, t10), (12, t12), (13, t13), (14, t14), (15, t15), (16, t16), (17, t17), (18, t18), (19, t19), (20, t20), (21, t21), (22, t22), (23, t24), (24, t24), (69, t70), (70, t70), (74, t75), (75, t75), (98, t101), (99, t99), (100, t100), (101, t101)] ut) H))))))) := by kernel_rfl
theorem AaP : Jl fi178 @f178 := fun p n a0 H k => by
 rw [AcN]
 simp only [Yy, X2, Zs]
 kernel_rfl
noncomputable def f164 (p : Pr β) (n : Nat) (a0 a1 : AV) (H : Ac) (k : KO β) : Option β :=
 p.new [(.sc (.int .i64 0)), (.sc (.bool false)), (.sc (.int .i64 0)), (.sc (.bool false)), (.sc (.int .i64 0)), (.sc (.string ⟨#[]⟩)), .nl, (.sc (.string ⟨#[]⟩)), (.sc (.int .i64 0)), (.sc (.bool false)), (.sc (.int .i64 0)), (.sc (.bool false)), (.sc (.string ⟨#[]⟩)), .nl, (.sc (.int .i64 0)), (.sc (.bool false)), (.sc (.bool false)), (.sc (.string ⟨#[]⟩)), (.sc (.bool false)), .nl, (.sc (.int .i64 0)), (.sc (.bool false)), .nl, .nl, .nl] H fun t4 H =>
 p.fill [(.sc (.int .i64 0)), (.sc (.bool false)), (.sc (.int .i64 0)), (.sc (.bool false)), (.sc (.int .i64 0)), (.sc (.string ⟨#[]⟩)), .nl, (.sc (.string ⟨#[]⟩)), (.sc (.int .i64 0)), (.sc (.bool false)), (.sc (.int .i64 0)), (.sc (.bool false)), (.sc (.string ⟨#[]⟩)), .nl, (.sc (.int .i64 0)), (.sc (.bool false)), (.sc (.bool false)), (.sc (.string ⟨#[]⟩)), (.sc (.bool false)), .nl, (.sc (.int .i64 0)), (.sc (.bool false)), .nl, .nl, .nl] [(0, 1, a0), (4, 1, a1)] fun ct8 =>
 p.new [(.sc (.int .i64 0)), (.sc (.bool false)), (.sc (.int .i64 0)), (.sc (.bool false)), (.sc (.int .i64 0)), (.sc (.string ⟨#[]⟩)), .nl, (.sc (.string ⟨#[]⟩)), (.sc (.int .i64 0)), (.sc (.bool false)), (.sc (.int .i64 0)), (.sc (.bool false)), (.sc (.string ⟨#[]⟩)), .nl, (.sc (.int .i64 0)), (.sc (.bool false)), (.sc (.bool false)), (.sc (.string ⟨#[]⟩)), (.sc (.bool false)), .nl, (.sc (.int .i64 0)), (.sc (.bool false)), .nl, .nl, .nl] H fun t5 H =>
 p.store 25 t5 (.agg ct8) H fun H =>
 p.call 4 (.fn 154 [] []) [a0, (.sc (.int .i64 4)), (.sc (.int .i64 7))] H fun t10 H =>
 p.un .not t10 fun t11 =>
 p.guard t11 true H (fun k' => k' a0 H) fun t13 H =>
 p.guard t11 true H (fun k' => p.bin .neq t13 (.sc (.int .i64 11)) fun t' => k' t' H) fun t14 H =>
 p.pick t11 t14 (.sc (.bool false)) fun t15 =>
 p.guard t15 false H (fun k' => p.load true 25 t5 H fun t' => k' t' H) fun t17 H =>
 p.guard t15 false H (fun k' => p.call 4 (.fn 178 [] []) [t17] H fun t' H => k' t' H) fun t18 H =>
 p.guard t15 false H (fun k' => p.un .not t18 fun t' => k' t' H) fun t19 H =>
 p.pick t15 (.sc (.bool true)) t19 fun t20 =>
 p.cond t20
 (p.fill [(.sc (.int .i64 0)), (.sc (.bool false)), (.sc (.int .i64 0)), (.sc (.bool false)), (.sc (.int .i64 0)), (.sc (.string ⟨#[]⟩)), .nl, (.sc (.string ⟨#[]⟩)), (.sc (.int .i64 0)), (.sc (.bool false)), (.sc (.int .i64 0)), (.sc (.bool false)), (.sc (.string ⟨#[]⟩)), .nl, (.sc (.int .i64 0)), (.sc (.bool false)), (.sc (.bool false)), (.sc (.string ⟨#[]⟩)), (.sc (.bool false)), .nl, (.sc (.int .i64 0)), (.sc (.bool false)), .nl, .nl, .nl] [] fun ct21 =>
 p.store 25 t4 (.agg ct21) H fun H =>
 p.load true 25 t4 H fun r0 =>
 k r0 H)
 (p.load true 25 t5 H fun t22 =>
 p.store 25 t4 t22 H fun H =>
 p.load true 25 t4 H fun r0 =>
 k r0 H)
theorem AbC : T7 AfN @f164 := fun p n a0 a1 H k => by kernel_rfl
noncomputable def Kh (p : Pr β) (n : Nat)  (k : KO β) : Nat → AV → AV → AV → AV → AV → AV → KO β
 | 0, _, _, _, _, _, _, _, _ => none
 | m + 1, t1, t2, t3, t6, t7, t9, t10, H => p.fadr 1 t3 fun t20 =>
   p.load false 1 t20 H fun t21 =>
   p.len t21 fun t22 =>
   p.bin .lss t10 t22 fun t23 =>
   p.cond t23
   (p.fadr 1 t3 fun t26 =>
   p.load false 1 t26 H fun t27 =>
   p.iadr 6 t27 t10 fun t29 =>
   p.load true 6 t29 H fun t30 =>
   p.new [(.sc (.int .i64 0)), (.sc (.string ⟨#[]⟩)), .nl, (.sc (.int .i64 0)), (.sc (.bool false)), (.sc (.int .i64 0))] H fun t11 H =>
   p.store 6 t11 t30 H fun H =>
   p.fadr 0 t11 fun t31 =>
   p.load false 1 t31 H fun t32 =>
   p.bin .neq t32 t2 fun t34 =>
   p.cond t34
   (p.bin .add t10 (.sc (.int .i64 1)) fun t25 =>
   Kh p n  k m t1 t2 t3 t6 t7 t9 t25 H)
   (p.bin .eql t1 (.sc (.int .i64 4)) fun t36 =>
   p.guard t36 true H (fun k' => p.fadr 5 t11 fun t' => k' t' H) fun t38 H =>
   p.guard t36 true H (fun k' => p.load false 1 t38 H fun t' => k' t' H) fun t39 H =>
   p.guard t36 true H (fun k' => p.bin .eql t39 (.sc (.int .i64 1)) fun t' => k' t' H) fun t40 H =>
   p.pick t36 t40 (.sc (.bool false)) fun t41 =>
   p.guard t41 false H (fun k' => k' t1 H) fun t43 H =>
   p.guard t41 false H (fun k' => p.bin .eql t43 (.sc (.int .i64 7)) fun t' => k' t' H) fun t44 H =>
   p.guard t41 false H (fun k' => k' t44 H) fun t45 H =>
   p.guard t45 true H (fun k' => p.fadr 5 t11 fun t' => k' t' H) fun t46 H =>
   p.guard t45 true H (fun k' => p.load false 1 t46 H fun t' => k' t' H) fun t47 H =>
   p.guard t45 true H (fun k' => p.bin .eql t47 (.sc (.int .i64 3)) fun t' => k' t' H) fun t48 H =>
   p.guard t41 false H (fun k' => p.pick t45 t48 (.sc (.bool false)) fun t' => k' t' H) fun t49 H =>
   p.pick t41 (.sc (.bool true)) t49 fun t50 =>
   p.cond t50
   (p.fadr 1 t9 fun t51 =>
   p.load false 1 t51 H fun t52 =>
   p.slice 6 t52 none (some t10) fun t54 =>
   p.fadr 1 t9 fun t55 =>
   p.load false 1 t55 H fun t56 =>
   p.bin .add t10 (.sc (.int .i64 1)) fun t58 =>
   p.slice 6 t56 (some t58) none fun t59 =>
   p.app 6 72 t54 t59 H fun t60 H =>
   p.fadr 1 t9 fun t61 =>
   p.store 1 t61 t60 H fun H =>
   p.load true 3 t9 H fun t62 =>
   p.fill [(.sc (.int .i64 0)), (.sc (.bool false)), (.sc (.int .i64 0)), (.sc (.bool false)), (.sc (.int .i64 0)), (.sc (.string ⟨#[]⟩)), .nl, (.sc (.string ⟨#[]⟩)), (.sc (.int .i64 0)), (.sc (.bool false)), (.sc (.int .i64 0)), (.sc (.bool false)), (.sc (.string ⟨#[]⟩)), .nl, (.sc (.int .i64 0)), (.sc (.bool false)), (.sc (.bool false)), (.sc (.string ⟨#[]⟩)), (.sc (.bool false)), .nl, (.sc (.int .i64 0)), (.sc (.bool false)), .nl, .nl, .nl] [] fun ct63 =>
   p.store 3 t6 t62 H fun H =>
   p.store 25 t7 (.agg ct63) H fun H =>
   p.load true 3 t6 H fun r0 =>
   p.load true 25 t7 H fun r1 =>
   k (Cq [r0, r1, (.sc (.bool true))]) H)
   (p.bin .eql t1 (.sc (.int .i64 5)) fun t65 =>
   p.guard t65 true H (fun k' => p.fadr 5 t11 fun t' => k' t' H) fun t67 H =>
   p.guard t65 true H (fun k' => p.load false 1 t67 H fun t' => k' t' H) fun t68 H =>
   p.guard t65 true H (fun k' => p.bin .neq t68 (.sc (.int .i64 1)) fun t' => k' t' H) fun t69 H =>
   p.pick t65 t69 (.sc (.bool false)) fun t70 =>
   p.cond t70
   (p.fadr 1 t9 fun t71 =>
   p.load false 1 t71 H fun t72 =>
   p.iadr 6 t72 t10 fun t74 =>
   p.fadr 5 t74 fun t75 =>
   p.store 1 t75 (.sc (.int .i64 3)) H fun H =>
   p.load true 3 t9 H fun t76 =>
   p.call 78 (.fn 164 [] []) [(.sc (.int .i64 6)), t2] H fun t78 H =>
   p.store 3 t6 t76 H fun H =>
   p.store 25 t7 t78 H fun H =>
   p.load true 3 t6 H fun r0 =>
   p.load true 25 t7 H fun r1 =>
   k (Cq [r0, r1, (.sc (.bool true))]) H)
   (p.bin .add t10 (.sc (.int .i64 1)) fun t25 =>
   Kh p n  k m t1 t2 t3 t6 t7 t9 t25 H))))
   (p.load true 3 t9 H fun t79 =>
   p.fill [(.sc (.int .i64 0)), (.sc (.bool false)), (.sc (.int .i64 0)), (.sc (.bool false)), (.sc (.int .i64 0)), (.sc (.string ⟨#[]⟩)), .nl, (.sc (.string ⟨#[]⟩)), (.sc (.int .i64 0)), (.sc (.bool false)), (.sc (.int .i64 0)), (.sc (.bool false)), (.sc (.string ⟨#[]⟩)), .nl, (.sc (.int .i64 0)), (.sc (.bool false)), (.sc (.bool false)), (.sc (.string ⟨#[]⟩)), (.sc (.bool false)), .nl, (.sc (.int .i64 0)), (.sc (.bool false)), .nl, .nl, .nl] [] fun ct80 =>
   p.store 3 t6 t79 H fun H =>
   p.store 25 t7 (.agg ct80) H fun H =>
   p.load true 3 t6 H fun r0 =>
   p.load true 25 t7 H fun r1 =>
   k (Cq [r0, r1, (.sc (.bool false))]) H)
noncomputable def f143 (p : Pr β) (n : Nat) (a0 a1 a2 : AV) (H : Ac) (k : KO β) : Option β :=
 p.box a0 H fun t3 H =>
 p.new [(.sc (.int .i64 0)), .nl, .nl] H fun t6 H =>
 p.new [(.sc (.int .i64 0)), (.sc (.bool false)), (.sc (.int .i64 0)), (.sc (.bool false)), (.sc (.int .i64 0)), (.sc (.string ⟨#[]⟩)), .nl, (.sc (.string ⟨#[]⟩)), (.sc (.int .i64 0)), (.sc (.bool false)), (.sc (.int .i64 0)), (.sc (.bool false)), (.sc (.string ⟨#[]⟩)), .nl, (.sc (.int .i64 0)), (.sc (.bool false)), (.sc (.bool false)), (.sc (.string ⟨#[]⟩)), (.sc (.bool false)), .nl, (.sc (.int .i64 0)), (.sc (.bool false)), .nl, .nl, .nl] H fun t7 H =>
 p.load true 3 t3 H fun t12 =>
 p.call 115 (.fn 157 [] []) [t12] H fun t13 H =>
 p.new [(.sc (.int .i64 0)), .nl, .nl] H fun t9 H =>
 p.store 3 t9 t13 H fun H =>
 p.load true 3 t3 H fun t14 =>
 p.call 4 (.fn 155 [] []) [t14] H fun t15 H =>
 p.un .not t15 fun t16 =>
 p.cond t16
 (p.load true 3 t9 H fun t17 =>
 p.fill [(.sc (.int .i64 0)), (.sc (.bool false)), (.sc (.int .i64 0)), (.sc (.bool false)), (.sc (.int .i64 0)), (.sc (.string ⟨#[]⟩)), .nl, (.sc (.string ⟨#[]⟩)), (.sc (.int .i64 0)), (.sc (.bool false)), (.sc (.int .i64 0)), (.sc (.bool false)), (.sc (.string ⟨#[]⟩)), .nl, (.sc (.int .i64 0)), (.sc (.bool false)), (.sc (.bool false)), (.sc (.string ⟨#[]⟩)), (.sc (.bool false)), .nl, (.sc (.int .i64 0)), (.sc (.bool false)), .nl, .nl, .nl] [] fun ct18 =>
 p.store 3 t6 t17 H fun H =>
 p.store 25 t7 (.agg ct18) H fun H =>
 p.load true 3 t6 H fun r0 =>
 p.load true 25 t7 H fun r1 =>
 k (Cq [r0, r1, (.sc (.bool false))]) H)
 (Kh p n  k n a1 a2 t3 t6 t7 t9 (.sc (.int .i64 0)) H)
noncomputable def AaE (p : Pr β) (n : Nat)  (k : KO β) (m : Nat) (tm : Tm) (H : Ac) : Option β :=
 Dz 81 (fun tm H k => An At p Ag7 81 n (cd Ahh [1, 1, 1, 0, 1, 0, 0]) tm H k) (E5 0 (Em (fun tm H => An At p Ag7 81 n (cd Ahh [1, 1, 1, 1]) tm H (C9 At p fi143.results k)) (C9 At p fi143.results k))) m tm H
theorem Zr (p : Pr β) (n : Nat)  (k : KO β) (m0 : Nat) : ∀ (t : Nat → AV) (H : Ac), AaE p n  k m0 (tf 81 0 t) H = Kh p n  k m0 (t 1) (t 2) (t 3) (t 6) (t 7) (t 9) (t 10) H := by
 induction m0 with
 | zero => intros; rfl
 | succ m0 ih =>
  intro t H
  refine Eq.trans (Cd (nt := 81) (m := m0) (g := fun t H => Kh p n  k m0 (t 1) (t 2) (t 3) (t 6) (t 7) (t 9) (t 10) H) ih rfl) ?_
  kernel_rfl
theorem Acw (p : Pr β) (n : Nat) (a0 a1 a2 : AV) (H : Ac) (k : KO β) : Ct At p n fi143 [a0, a1, a2] H k =
 p.box a0 H fun t3 H =>
 p.new [(.sc (.int .i64 0)), .nl, .nl] H fun t6 H =>
 p.new [(.sc (.int .i64 0)), (.sc (.bool false)), (.sc (.int .i64 0)), (.sc (.bool false)), (.sc (.int .i64 0)), (.sc (.string ⟨#[]⟩)), .nl, (.sc (.string ⟨#[]⟩)), (.sc (.int .i64 0)), (.sc (.bool false)), (.sc (.int .i64 0)), (.sc (.bool false)), (.sc (.string ⟨#[]⟩)), .nl, (.sc (.int .i64 0)), (.sc (.bool false)), (.sc (.bool false)), (.sc (.string ⟨#[]⟩)), (.sc (.bool false)), .nl, (.sc (.int .i64 0)), (.sc (.bool false)), .nl, .nl, .nl] H fun t7 H =>
 p.load true 3 t3 H fun t12 =>
 p.call 115 (.fn 157 [] []) [t12] H fun t13 H =>
 p.new [(.sc (.int .i64 0)), .nl, .nl] H fun t9 H =>
 p.store 3 t9 t13 H fun H =>
 p.load true 3 t3 H fun t14 =>
 p.call 4 (.fn 155 [] []) [t14] H fun t15 H =>
 p.un .not t15 fun t16 =>
 p.cond t16
 (p.load true 3 t9 H fun t17 =>
 p.fill [(.sc (.int .i64 0)), (.sc (.bool false)), (.sc (.int .i64 0)), (.sc (.bool false)), (.sc (.int .i64 0)), (.sc (.string ⟨#[]⟩)), .nl, (.sc (.string ⟨#[]⟩)), (.sc (.int .i64 0)), (.sc (.bool false)), (.sc (.int .i64 0)), (.sc (.bool false)), (.sc (.string ⟨#[]⟩)), .nl, (.sc (.int .i64 0)), (.sc (.bool false)), (.sc (.bool false)), (.sc (.string ⟨#[]⟩)), (.sc (.bool false)), .nl, (.sc (.int .i64 0)), (.sc (.bool false)), .nl, .nl, .nl] [] fun ct18 =>
 p.store 3 t6 t17 H fun H =>
 p.store 25 t7 (.agg ct18) H fun H =>
 p.load true 3 t6 H fun r0 =>
 p.load true 25 t7 H fun r1 =>
 k (Cq [r0, r1, (.sc (.bool false))]) H)
 (AaE p n  k n (tf 81 0 (ud [(0, a0), (1, a1), (2, a2), (3, t3), (6, t6), (7, t7), (8, (.sc (.bool false))), (9, t9), (10, (.sc (.int .i64 0))), (12, t12), (13, t13), (14, t14), (15, t15), (16, t16)] ut)) H) := by kernel_rfl
theorem AaS : Bd3 fi143 @f143 := fun p n a0 a1 a2 H k => by
 rw [Acw]
 simp only [Zr]
 kernel_rfl
noncomputable def f165 (p : Pr β) (n : Nat) (a0 a1 : AV) (H : Ac) (k : KO β) : Option β :=
 p.box a1 H fun t3 H =>
 p.call 79 (.fn 174 [] []) [a0] H fun t8 H =>
 p.call 4 (.fn 173 [] []) [a0] H fun t10 H =>
 p.un .not t10 fun t11 =>
 p.guard t11 false H (fun k' => p.load true 4 t3 H fun t' => k' t' H) fun t13 H =>
 p.guard t11 false H (fun k' => p.call 4 (.fn 171 [] []) [t13] H fun t' H => k' t' H) fun t14 H =>
 p.guard t11 false H (fun k' => p.un .not t14 fun t' => k' t' H) fun t15 H =>
 p.pick t11 (.sc (.bool true)) t15 fun t16 =>
 p.cond t16
 (k (Cq [t8, (.sc (.int .i64 2))]) H)
 (p.len a0 fun t19 =>
 p.bin .eql t19 (.sc (.int .i64 6)) fun t20 =>
 p.cond t20
 (p.fadr 2 t3 fun t21 =>
 p.load false 1 t21 H fun t22 =>
 p.bin .eql t22 (.sc (.int .i64 0)) fun t23 =>
 p.cond t23
 (k (Cq [t8, (.sc (.int .i64 1))]) H)
 (k (Cq [t8, (.sc (.int .i64 2))]) H))
 (p.load true 4 t3 H fun t27 =>
 p.call 73 (.fn 175 [] []) [t27] H fun t28 H =>
 p.fill [(.sc (.string ⟨#[]⟩)), .nl, (.sc (.int .i64 0)), (.sc (.bool false))] [(0, 4, t28)] fun ct29 => p.newSl 1 4 ct29 true H fun t29 H =>
 p.app 4 56 t8 t29 H fun t30 H =>
 k (Cq [t30, (.sc (.int .i64 0))]) H))
theorem AaT : T7 Agj @f165 := fun p n a0 a1 H k => by kernel_rfl
noncomputable def f144 (p : Pr β) (n : Nat) (a0 a1 : AV) (H : Ac) (k : KO β) : Option β :=
 p.box a0 H fun t2 H =>
 p.box a1 H fun t3 H =>
 p.new [(.sc (.int .i64 0)), .nl, .nl] H fun t4 H =>
 p.load true 3 t2 H fun t9 =>
 p.call 115 (.fn 157 [] []) [t9] H fun t10 H =>
 p.new [(.sc (.int .i64 0)), .nl, .nl] H fun t6 H =>
 p.store 3 t6 t10 H fun H =>
 p.load true 3 t2 H fun t11 =>
 p.call 4 (.fn 155 [] []) [t11] H fun t12 H =>
 p.un .not t12 fun t13 =>
 p.cond t13
 (p.load true 3 t6 H fun t14 =>
 p.store 3 t4 t14 H fun H =>
 p.load true 3 t4 H fun r0 =>
 k (Cq [r0, (.sc (.int .i64 2))]) H)
 (p.fadr 2 t2 fun t16 =>
 p.load false 1 t16 H fun t17 =>
 p.load true 4 t3 H fun t18 =>
 p.call 213 (.fn 165 [] []) [t17, t18] H fun t19 H =>
 p.extr t19 0 fun t20 =>
 p.extr t19 1 fun t21 =>
 p.fadr 2 t6 fun t23 =>
 p.store 1 t23 t20 H fun H =>
 p.load true 3 t6 H fun t24 =>
 p.store 3 t4 t24 H fun H =>
 p.load true 3 t4 H fun r0 =>
 k (Cq [r0, t21]) H)
theorem AaN : T7 Agc @f144 := fun p n a0 a1 H k => by kernel_rfl
end
end Go.Proofs.Ytjiahcekpohehaa.Abs
