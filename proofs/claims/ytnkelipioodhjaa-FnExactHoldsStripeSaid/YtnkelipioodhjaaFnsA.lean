/- The program's functions as plain functions over abstract values, and that the evaluator comes to them (written by gen.py). -/
import Derived.Test.YtnkelipioodhjaaProg
import Derived.Test.YtnkelipioodhjaaAbs
import Derived.KernelRfl
set_option linter.unusedVariables false
set_option linter.unusedSimpArgs false
set_option maxRecDepth 100000
namespace Go.Proofs.Ytnkelipioodhjaa.Abs
open Go
variable {β : Type}
noncomputable def tis : List (Option TI) := [none,
  none,
  none,
  some ⟨false, false, 1, 8, [(.int .i64 0)], 0, [], some .i64, false, false, [3]⟩,
  some ⟨false, false, 1, 1, [(.bool false)], 0, [], none, false, true, [4]⟩,
  some ⟨false, false, 1, 1, [(.int .u8 0)], 0, [], some .u8, false, false, [5]⟩,
  none,
  none,
  none,
  some ⟨false, false, 1, 16, [(.string ⟨#[]⟩)], 0, [], none, true, false, [9]⟩,
  none,
  none,
  none,
  none,
  none,
  none,
  none,
  none,
  none,
  none,
  none,
  none,
  some ⟨false, true, 1, 24, [(.slice none 0 0)], 130, [], none, false, false, [22]⟩,
  none,
  some ⟨true, false, 2, 32, [(.int .i64 0), (.slice none 0 0)], 0, [(0, 3), (1, 22)], none, false, false, [3, 22]⟩,
  none,
  none,
  some ⟨false, true, 1, 24, [(.slice none 0 0)], 90, [], none, false, false, [27]⟩,
  none,
  some ⟨true, false, 2, 32, [(.int .i64 0), (.slice none 0 0)], 0, [(0, 3), (1, 27)], none, false, false, [3, 27]⟩,
  none,
  none,
  none,
  some ⟨false, true, 1, 24, [(.slice none 0 0)], 5, [], none, false, false, [33]⟩,
  none,
  some ⟨true, false, 2, 32, [(.slice none 0 0), (.bool false)], 0, [(0, 33), (1, 4)], none, false, false, [33, 4]⟩,
  some ⟨false, true, 1, 24, [(.slice none 0 0)], 55, [], none, false, false, [36]⟩,
  none,
  some ⟨true, false, 4, 56, [(.string ⟨#[]⟩), (.slice none 0 0), (.int .i64 0), (.bool false)], 0, [(0, 9), (1, 33), (2, 3), (3, 4)], none, false, false, [9, 33, 3, 4]⟩,
  none,
  some ⟨true, false, 16, 208, [(.bool false), (.int .i64 0), (.slice none 0 0), (.bool false), (.slice none 0 0), (.bool false), (.string ⟨#[]⟩), (.int .i64 0), (.int .i64 0), (.bool false), (.string ⟨#[]⟩), (.slice none 0 0), (.int .i64 0), (.bool false), (.bool false), (.slice none 0 0)], 0, [(0, 4), (1, 3), (2, 35), (4, 36), (5, 4), (6, 9), (7, 3), (8, 3), (9, 4), (10, 38), (14, 4), (15, 33)], none, false, false, [4, 3, 33, 4, 36, 4, 9, 3, 3, 4, 9, 33, 3, 4, 4, 33]⟩,
  none,
  none,
  some ⟨true, false, 2, 32, [(.slice none 0 0), (.bool false)], 0, [(0, 33), (1, 4)], none, false, false, [33, 4]⟩,
  some ⟨false, true, 1, 24, [(.slice none 0 0)], 64, [], none, false, false, [44]⟩,
  some ⟨true, false, 4, 56, [(.string ⟨#[]⟩), (.slice none 0 0), (.int .i64 0), (.bool false)], 0, [(0, 9), (1, 33), (2, 3), (3, 4)], none, false, false, [9, 33, 3, 4]⟩,
  none,
  some ⟨true, false, 16, 208, [(.bool false), (.int .i64 0), (.slice none 0 0), (.bool false), (.slice none 0 0), (.bool false), (.string ⟨#[]⟩), (.int .i64 0), (.int .i64 0), (.bool false), (.string ⟨#[]⟩), (.slice none 0 0), (.int .i64 0), (.bool false), (.bool false), (.slice none 0 0)], 0, [(0, 4), (1, 3), (2, 43), (4, 44), (5, 4), (6, 9), (7, 3), (8, 3), (9, 4), (10, 45), (14, 4), (15, 33)], none, false, false, [4, 3, 33, 4, 44, 4, 9, 3, 3, 4, 9, 33, 3, 4, 4, 33]⟩,
  none,
  none,
  none,
  some ⟨false, true, 1, 24, [(.slice none 0 0)], 154, [], none, false, false, [51]⟩,
  some ⟨false, true, 1, 24, [(.slice none 0 0)], 9, [], none, false, false, [52]⟩,
  some ⟨false, true, 1, 24, [(.slice none 0 0)], 3, [], none, false, false, [53]⟩,
  none,
  some ⟨true, false, 25, 320, [(.int .i64 0), (.bool false), (.int .i64 0), (.bool false), (.int .i64 0), (.string ⟨#[]⟩), (.slice none 0 0), (.string ⟨#[]⟩), (.int .i64 0), (.bool false), (.int .i64 0), (.bool false), (.string ⟨#[]⟩), (.slice none 0 0), (.int .i64 0), (.bool false), (.bool false), (.string ⟨#[]⟩), (.bool false), (.slice none 0 0), (.int .i64 0), (.bool false), (.slice none 0 0), (.slice none 0 0), (.slice none 0 0)], 0, [(0, 3), (1, 4), (2, 3), (3, 4), (4, 3), (5, 9), (6, 33), (7, 9), (8, 3), (9, 4), (10, 3), (11, 4), (12, 9), (13, 33), (14, 3), (15, 4), (16, 4), (17, 9), (18, 4), (19, 33), (20, 3), (21, 4), (22, 51), (23, 52), (24, 53)], none, false, false, [3, 4, 3, 4, 3, 9, 33, 9, 3, 4, 3, 4, 9, 33, 3, 4, 4, 9, 4, 33, 3, 4, 51, 52, 53]⟩,
  some ⟨false, true, 1, 24, [(.slice none 0 0)], 136, [], none, false, false, [56]⟩,
  some ⟨false, true, 1, 24, [(.slice none 0 0)], 38, [], none, false, false, [57]⟩,
  none,
  some ⟨true, false, 35, 464, [(.int .i64 0), (.int .i64 0), (.string ⟨#[]⟩), (.int .i64 0), (.bool false), (.int .i64 0), (.bool false), (.int .i64 0), (.string ⟨#[]⟩), (.slice none 0 0), (.string ⟨#[]⟩), (.int .i64 0), (.bool false), (.int .i64 0), (.bool false), (.string ⟨#[]⟩), (.slice none 0 0), (.int .i64 0), (.bool false), (.bool false), (.string ⟨#[]⟩), (.bool false), (.slice none 0 0), (.int .i64 0), (.bool false), (.slice none 0 0), (.slice none 0 0), (.slice none 0 0), (.slice none 0 0), (.string ⟨#[]⟩), (.slice none 0 0), (.int .i64 0), (.bool false), (.slice none 0 0), (.int .i64 0)], 0, [(0, 3), (1, 3), (2, 9), (3, 55), (28, 56), (29, 38), (33, 57), (34, 3)], none, false, false, [3, 3, 9, 3, 4, 3, 4, 3, 9, 33, 9, 3, 4, 3, 4, 9, 33, 3, 4, 4, 9, 4, 33, 3, 4, 51, 52, 53, 56, 9, 33, 3, 4, 57, 3]⟩,
  none,
  none,
  some ⟨false, true, 1, 24, [(.slice none 0 0)], 148, [], none, false, false, [62]⟩,
  none,
  some ⟨true, false, 25, 320, [(.int .i64 0), (.bool false), (.int .i64 0), (.bool false), (.int .i64 0), (.string ⟨#[]⟩), (.slice none 0 0), (.string ⟨#[]⟩), (.int .i64 0), (.bool false), (.int .i64 0), (.bool false), (.string ⟨#[]⟩), (.slice none 0 0), (.int .i64 0), (.bool false), (.bool false), (.string ⟨#[]⟩), (.bool false), (.slice none 0 0), (.int .i64 0), (.bool false), (.slice none 0 0), (.slice none 0 0), (.slice none 0 0)], 0, [(0, 3), (1, 4), (2, 3), (3, 4), (4, 3), (5, 9), (6, 33), (7, 9), (8, 3), (9, 4), (10, 3), (11, 4), (12, 9), (13, 33), (14, 3), (15, 4), (16, 4), (17, 9), (18, 4), (19, 33), (20, 3), (21, 4), (22, 62), (23, 52), (24, 53)], none, false, false, [3, 4, 3, 4, 3, 9, 33, 9, 3, 4, 3, 4, 9, 33, 3, 4, 4, 9, 4, 33, 3, 4, 62, 52, 53]⟩,
  some ⟨false, true, 1, 24, [(.slice none 0 0)], 122, [], none, false, false, [65]⟩,
  some ⟨false, true, 1, 24, [(.slice none 0 0)], 45, [], none, false, false, [66]⟩,
  none,
  some ⟨true, false, 35, 464, [(.int .i64 0), (.int .i64 0), (.string ⟨#[]⟩), (.int .i64 0), (.bool false), (.int .i64 0), (.bool false), (.int .i64 0), (.string ⟨#[]⟩), (.slice none 0 0), (.string ⟨#[]⟩), (.int .i64 0), (.bool false), (.int .i64 0), (.bool false), (.string ⟨#[]⟩), (.slice none 0 0), (.int .i64 0), (.bool false), (.bool false), (.string ⟨#[]⟩), (.bool false), (.slice none 0 0), (.int .i64 0), (.bool false), (.slice none 0 0), (.slice none 0 0), (.slice none 0 0), (.slice none 0 0), (.string ⟨#[]⟩), (.slice none 0 0), (.int .i64 0), (.bool false), (.slice none 0 0), (.int .i64 0)], 0, [(0, 3), (1, 3), (2, 9), (3, 64), (28, 65), (29, 45), (33, 66), (34, 3)], none, false, false, [3, 3, 9, 3, 4, 3, 4, 3, 9, 33, 9, 3, 4, 3, 4, 9, 33, 3, 4, 4, 9, 4, 33, 3, 4, 62, 52, 53, 65, 9, 33, 3, 4, 66, 3]⟩,
  none,
  none,
  none,
  none,
  some ⟨true, false, 40, 488, [(.int .i64 0), (.int .i64 0), (.int .i64 0), (.string ⟨#[]⟩), (.int .i64 0), (.bool false), (.int .i64 0), (.bool false), (.int .i64 0), (.string ⟨#[]⟩), (.slice none 0 0), (.string ⟨#[]⟩), (.int .i64 0), (.bool false), (.int .i64 0), (.bool false), (.string ⟨#[]⟩), (.slice none 0 0), (.int .i64 0), (.bool false), (.bool false), (.string ⟨#[]⟩), (.bool false), (.slice none 0 0), (.int .i64 0), (.bool false), (.slice none 0 0), (.slice none 0 0), (.slice none 0 0), (.int .i64 0), (.int .i64 0), (.int .i64 0), (.bool false), (.int .i64 0), (.int .i64 0), (.bool false), (.bool false), (.slice none 0 0), (.slice none 0 0), (.slice none 0 0)], 0, [(0, 3), (1, 3), (2, 3), (3, 9), (4, 55), (29, 3), (30, 3), (31, 3), (32, 4), (33, 3), (34, 3), (35, 4), (36, 4), (37, 56), (38, 53), (39, 57)], none, false, false, [3, 3, 3, 9, 3, 4, 3, 4, 3, 9, 33, 9, 3, 4, 3, 4, 9, 33, 3, 4, 4, 9, 4, 33, 3, 4, 51, 52, 53, 3, 3, 3, 4, 3, 3, 4, 4, 56, 53, 57]⟩,
  none,
  none,
  none,
  some ⟨true, false, 40, 488, [(.int .i64 0), (.int .i64 0), (.int .i64 0), (.string ⟨#[]⟩), (.int .i64 0), (.bool false), (.int .i64 0), (.bool false), (.int .i64 0), (.string ⟨#[]⟩), (.slice none 0 0), (.string ⟨#[]⟩), (.int .i64 0), (.bool false), (.int .i64 0), (.bool false), (.string ⟨#[]⟩), (.slice none 0 0), (.int .i64 0), (.bool false), (.bool false), (.string ⟨#[]⟩), (.bool false), (.slice none 0 0), (.int .i64 0), (.bool false), (.slice none 0 0), (.slice none 0 0), (.slice none 0 0), (.int .i64 0), (.int .i64 0), (.int .i64 0), (.bool false), (.int .i64 0), (.int .i64 0), (.bool false), (.bool false), (.slice none 0 0), (.slice none 0 0), (.slice none 0 0)], 0, [(0, 3), (1, 3), (2, 3), (3, 9), (4, 64), (29, 3), (30, 3), (31, 3), (32, 4), (33, 3), (34, 3), (35, 4), (36, 4), (37, 65), (38, 53), (39, 66)], none, false, false, [3, 3, 3, 9, 3, 4, 3, 4, 3, 9, 33, 9, 3, 4, 3, 4, 9, 33, 3, 4, 4, 9, 4, 33, 3, 4, 62, 52, 53, 3, 3, 3, 4, 3, 3, 4, 4, 65, 53, 66]⟩,
  none,
  none,
  none,
  none,
  none,
  none,
  none,
  none,
  some ⟨false, true, 1, 24, [(.slice none 0 0)], 159, [], none, false, false, [86]⟩,
  none,
  some ⟨true, false, 3, 56, [(.int .i64 0), (.slice none 0 0), (.slice none 0 0)], 0, [(0, 3), (1, 86), (2, 66)], none, false, false, [3, 86, 66]⟩,
  none,
  some ⟨true, false, 9, 128, [(.string ⟨#[]⟩), (.int .i64 0), (.bool false), (.int .i64 0), (.int .i64 0), (.int .i64 0), (.slice none 0 0), (.slice none 0 0), (.slice none 0 0)], 0, [(0, 9), (1, 3), (2, 4), (3, 3), (4, 3), (5, 88), (8, 53)], none, false, false, [9, 3, 4, 3, 3, 3, 86, 66, 53]⟩,
  none,
  none,
  none,
  none,
  none,
  none,
  none,
  none,
  none,
  none,
  none,
  none,
  none,
  none,
  none,
  none,
  none,
  none,
  none,
  none,
  none,
  none,
  none,
  none,
  none,
  none,
  none,
  none,
  none,
  none,
  none,
  some ⟨true, false, 3, 32, [(.string ⟨#[]⟩), (.int .i64 0), (.int .i64 0)], 0, [(0, 9), (1, 3), (2, 3)], none, false, false, [9, 3, 3]⟩,
  none,
  none,
  none,
  some ⟨false, true, 1, 24, [(.slice none 0 0)], 167, [], none, false, false, [126]⟩,
  none,
  some ⟨true, false, 3, 56, [(.int .i64 0), (.slice none 0 0), (.slice none 0 0)], 0, [(0, 3), (1, 126), (2, 57)], none, false, false, [3, 126, 57]⟩,
  none,
  some ⟨true, false, 9, 128, [(.string ⟨#[]⟩), (.int .i64 0), (.bool false), (.int .i64 0), (.int .i64 0), (.int .i64 0), (.slice none 0 0), (.slice none 0 0), (.slice none 0 0)], 0, [(0, 9), (1, 3), (2, 4), (3, 3), (4, 3), (5, 128), (8, 53)], none, false, false, [9, 3, 4, 3, 3, 3, 126, 57, 53]⟩,
  none,
  none,
  none,
  none,
  none,
  some ⟨true, false, 3, 32, [(.string ⟨#[]⟩), (.int .i64 0), (.int .i64 0)], 0, [(0, 9), (1, 3), (2, 3)], none, false, false, [9, 3, 3]⟩,
  none,
  none,
  none,
  none,
  none,
  none,
  none,
  none,
  none,
  none,
  none,
  some ⟨true, false, 2, 24, [(.string ⟨#[]⟩), (.int .i64 0)], 0, [(0, 9), (1, 3)], none, false, false, [9, 3]⟩,
  none,
  none,
  none,
  none,
  none,
  some ⟨true, false, 2, 24, [(.string ⟨#[]⟩), (.int .i64 0)], 0, [(0, 9), (1, 3)], none, false, false, [9, 3]⟩,
  none,
  none,
  none,
  none,
  some ⟨true, false, 6, 72, [(.int .i64 0), (.string ⟨#[]⟩), (.slice none 0 0), (.int .i64 0), (.bool false), (.int .i64 0)], 0, [(0, 3), (1, 45), (5, 3)], none, false, false, [3, 9, 33, 3, 4, 3]⟩,
  none,
  none,
  none,
  none,
  none,
  none,
  none,
  some ⟨true, false, 6, 72, [(.int .i64 0), (.string ⟨#[]⟩), (.slice none 0 0), (.int .i64 0), (.bool false), (.int .i64 0)], 0, [(0, 3), (1, 38), (5, 3)], none, false, false, [3, 9, 33, 3, 4, 3]⟩]
noncomputable def bodyOf (f : Func) : Code := match f.body with | some c => c | none => .skip
noncomputable def c49 : Code := bodyOf Go.Proofs.Try.f49
noncomputable def c48 : Code := bodyOf Go.Proofs.Try.f48
noncomputable def c133 : Code := bodyOf Go.Proofs.Try.f133
noncomputable def c126 : Code := bodyOf Go.Proofs.Try.f126
noncomputable def c60 : Code := bodyOf Go.Proofs.Try.f60
noncomputable def c114 : Code := bodyOf Go.Proofs.Try.f114
noncomputable def c68 : Code := bodyOf Go.Proofs.Try.f68
noncomputable def c86 : Code := bodyOf Go.Proofs.Try.f86
noncomputable def c41 : Code := bodyOf Go.Proofs.Try.f41
noncomputable def c11 : Code := bodyOf Go.Proofs.Try.f11
noncomputable def c53 : Code := bodyOf Go.Proofs.Try.f53
noncomputable def c52 : Code := bodyOf Go.Proofs.Try.f52
noncomputable def c134 : Code := bodyOf Go.Proofs.Try.f134
noncomputable def c127 : Code := bodyOf Go.Proofs.Try.f127
noncomputable def c64 : Code := bodyOf Go.Proofs.Try.f64
noncomputable def c115 : Code := bodyOf Go.Proofs.Try.f115
noncomputable def c69 : Code := bodyOf Go.Proofs.Try.f69
noncomputable def c87 : Code := bodyOf Go.Proofs.Try.f87
noncomputable def c42 : Code := bodyOf Go.Proofs.Try.f42
noncomputable def c13 : Code := bodyOf Go.Proofs.Try.f13
noncomputable def c12 : Code := bodyOf Go.Proofs.Try.f12
noncomputable def c44 : Code := bodyOf Go.Proofs.Try.f44
noncomputable def c43 : Code := bodyOf Go.Proofs.Try.f43
noncomputable def c14 : Code := bodyOf Go.Proofs.Try.f14
noncomputable def c57 : Code := bodyOf Go.Proofs.Try.f57
noncomputable def c56 : Code := bodyOf Go.Proofs.Try.f56
noncomputable def c135 : Code := bodyOf Go.Proofs.Try.f135
noncomputable def c128 : Code := bodyOf Go.Proofs.Try.f128
noncomputable def c67 : Code := bodyOf Go.Proofs.Try.f67
noncomputable def c116 : Code := bodyOf Go.Proofs.Try.f116
noncomputable def c70 : Code := bodyOf Go.Proofs.Try.f70
noncomputable def c88 : Code := bodyOf Go.Proofs.Try.f88
noncomputable def c45 : Code := bodyOf Go.Proofs.Try.f45
noncomputable def c15 : Code := bodyOf Go.Proofs.Try.f15
noncomputable def c3 : Code := bodyOf Go.Proofs.Try.f3
noncomputable def c46 : Code := bodyOf Go.Proofs.Try.f46
noncomputable def c117 : Code := bodyOf Go.Proofs.Try.f117
noncomputable def c89 : Code := bodyOf Go.Proofs.Try.f89
noncomputable def c90 : Code := bodyOf Go.Proofs.Try.f90
noncomputable def c58 : Code := bodyOf Go.Proofs.Try.f58
noncomputable def c47 : Code := bodyOf Go.Proofs.Try.f47
noncomputable def c16 : Code := bodyOf Go.Proofs.Try.f16
noncomputable def c50 : Code := bodyOf Go.Proofs.Try.f50
noncomputable def c118 : Code := bodyOf Go.Proofs.Try.f118
noncomputable def c92 : Code := bodyOf Go.Proofs.Try.f92
noncomputable def c93 : Code := bodyOf Go.Proofs.Try.f93
noncomputable def c62 : Code := bodyOf Go.Proofs.Try.f62
noncomputable def c51 : Code := bodyOf Go.Proofs.Try.f51
noncomputable def c18 : Code := bodyOf Go.Proofs.Try.f18
noncomputable def c17 : Code := bodyOf Go.Proofs.Try.f17
noncomputable def c19 : Code := bodyOf Go.Proofs.Try.f19
noncomputable def c54 : Code := bodyOf Go.Proofs.Try.f54
noncomputable def c119 : Code := bodyOf Go.Proofs.Try.f119
noncomputable def c95 : Code := bodyOf Go.Proofs.Try.f95
noncomputable def c96 : Code := bodyOf Go.Proofs.Try.f96
noncomputable def c65 : Code := bodyOf Go.Proofs.Try.f65
noncomputable def c55 : Code := bodyOf Go.Proofs.Try.f55
noncomputable def c20 : Code := bodyOf Go.Proofs.Try.f20
noncomputable def c4 : Code := bodyOf Go.Proofs.Try.f4
noncomputable def c91 : Code := bodyOf Go.Proofs.Try.f91
noncomputable def c59 : Code := bodyOf Go.Proofs.Try.f59
noncomputable def c21 : Code := bodyOf Go.Proofs.Try.f21
noncomputable def c94 : Code := bodyOf Go.Proofs.Try.f94
noncomputable def c63 : Code := bodyOf Go.Proofs.Try.f63
noncomputable def c23 : Code := bodyOf Go.Proofs.Try.f23
noncomputable def c61 : Code := bodyOf Go.Proofs.Try.f61
noncomputable def c22 : Code := bodyOf Go.Proofs.Try.f22
noncomputable def c24 : Code := bodyOf Go.Proofs.Try.f24
noncomputable def c97 : Code := bodyOf Go.Proofs.Try.f97
noncomputable def c66 : Code := bodyOf Go.Proofs.Try.f66
noncomputable def c25 : Code := bodyOf Go.Proofs.Try.f25
noncomputable def c5 : Code := bodyOf Go.Proofs.Try.f5
noncomputable def c26 : Code := bodyOf Go.Proofs.Try.f26
noncomputable def c28 : Code := bodyOf Go.Proofs.Try.f28
noncomputable def c27 : Code := bodyOf Go.Proofs.Try.f27
noncomputable def c29 : Code := bodyOf Go.Proofs.Try.f29
noncomputable def c30 : Code := bodyOf Go.Proofs.Try.f30
noncomputable def c6 : Code := bodyOf Go.Proofs.Try.f6
noncomputable def c71 : Code := bodyOf Go.Proofs.Try.f71
noncomputable def c31 : Code := bodyOf Go.Proofs.Try.f31
noncomputable def c72 : Code := bodyOf Go.Proofs.Try.f72
noncomputable def c73 : Code := bodyOf Go.Proofs.Try.f73
noncomputable def c32 : Code := bodyOf Go.Proofs.Try.f32
noncomputable def c7 : Code := bodyOf Go.Proofs.Try.f7
noncomputable def c107 : Code := bodyOf Go.Proofs.Try.f107
noncomputable def c78 : Code := bodyOf Go.Proofs.Try.f78
noncomputable def c79 : Code := bodyOf Go.Proofs.Try.f79
noncomputable def c80 : Code := bodyOf Go.Proofs.Try.f80
noncomputable def c125 : Code := bodyOf Go.Proofs.Try.f125
noncomputable def c108 : Code := bodyOf Go.Proofs.Try.f108
noncomputable def c81 : Code := bodyOf Go.Proofs.Try.f81
noncomputable def c39 : Code := bodyOf Go.Proofs.Try.f39
noncomputable def c109 : Code := bodyOf Go.Proofs.Try.f109
noncomputable def c110 : Code := bodyOf Go.Proofs.Try.f110
noncomputable def c111 : Code := bodyOf Go.Proofs.Try.f111
noncomputable def c84 : Code := bodyOf Go.Proofs.Try.f84
noncomputable def c82 : Code := bodyOf Go.Proofs.Try.f82
noncomputable def c83 : Code := bodyOf Go.Proofs.Try.f83
noncomputable def c112 : Code := bodyOf Go.Proofs.Try.f112
noncomputable def c113 : Code := bodyOf Go.Proofs.Try.f113
noncomputable def c85 : Code := bodyOf Go.Proofs.Try.f85
noncomputable def c40 : Code := bodyOf Go.Proofs.Try.f40
noncomputable def c10 : Code := bodyOf Go.Proofs.Try.f10
noncomputable def o49 : List (Nat × List Nat) := []
noncomputable def o48 : List (Nat × List Nat) := []
noncomputable def o133 : List (Nat × List Nat) := []
noncomputable def o126 : List (Nat × List Nat) := []
noncomputable def o60 : List (Nat × List Nat) := []
noncomputable def o114 : List (Nat × List Nat) := []
noncomputable def o68 : List (Nat × List Nat) := []
noncomputable def o86 : List (Nat × List Nat) := []
noncomputable def o41 : List (Nat × List Nat) := []
noncomputable def o11 : List (Nat × List Nat) := []
noncomputable def o53 : List (Nat × List Nat) := []
noncomputable def o52 : List (Nat × List Nat) := []
noncomputable def o134 : List (Nat × List Nat) := []
noncomputable def o127 : List (Nat × List Nat) := []
noncomputable def o64 : List (Nat × List Nat) := []
noncomputable def o115 : List (Nat × List Nat) := []
noncomputable def o69 : List (Nat × List Nat) := []
noncomputable def o87 : List (Nat × List Nat) := []
noncomputable def o42 : List (Nat × List Nat) := []
noncomputable def o13 : List (Nat × List Nat) := []
noncomputable def o12 : List (Nat × List Nat) := []
noncomputable def o44 : List (Nat × List Nat) := []
noncomputable def o43 : List (Nat × List Nat) := []
noncomputable def o14 : List (Nat × List Nat) := []
noncomputable def o57 : List (Nat × List Nat) := [(6, [0, 1, 2, 3, 4, 5, 6, 7, 8])]
noncomputable def o56 : List (Nat × List Nat) := []
noncomputable def o135 : List (Nat × List Nat) := []
noncomputable def o128 : List (Nat × List Nat) := [(6, [0, 1, 2, 3, 4, 5, 6, 7, 8, 9])]
noncomputable def o67 : List (Nat × List Nat) := [(6, [0, 1, 2, 3, 4, 5, 6, 7, 8, 9])]
noncomputable def o116 : List (Nat × List Nat) := []
noncomputable def o70 : List (Nat × List Nat) := [(6, [0, 1, 2, 3, 4, 5, 6, 7, 8])]
noncomputable def o88 : List (Nat × List Nat) := []
noncomputable def o45 : List (Nat × List Nat) := [(6, [0, 1, 2, 3, 4, 5, 6, 7, 8, 9])]
noncomputable def o15 : List (Nat × List Nat) := []
noncomputable def o3 : List (Nat × List Nat) := [(12, [0, 1, 2, 3, 4])]
noncomputable def o46 : List (Nat × List Nat) := []
noncomputable def o117 : List (Nat × List Nat) := []
noncomputable def o89 : List (Nat × List Nat) := []
noncomputable def o90 : List (Nat × List Nat) := []
noncomputable def o58 : List (Nat × List Nat) := []
noncomputable def o47 : List (Nat × List Nat) := []
noncomputable def o16 : List (Nat × List Nat) := []
noncomputable def o50 : List (Nat × List Nat) := []
noncomputable def o118 : List (Nat × List Nat) := []
noncomputable def o92 : List (Nat × List Nat) := []
noncomputable def o93 : List (Nat × List Nat) := []
noncomputable def o62 : List (Nat × List Nat) := []
noncomputable def o51 : List (Nat × List Nat) := []
noncomputable def o18 : List (Nat × List Nat) := []
noncomputable def o17 : List (Nat × List Nat) := []
noncomputable def o19 : List (Nat × List Nat) := []
noncomputable def o54 : List (Nat × List Nat) := []
noncomputable def o119 : List (Nat × List Nat) := []
noncomputable def o95 : List (Nat × List Nat) := [(6, [0, 1, 2, 3, 4, 5, 6, 7, 8, 9])]
noncomputable def o96 : List (Nat × List Nat) := [(6, [0, 1, 2, 3, 4, 5, 6, 7, 8])]
noncomputable def o65 : List (Nat × List Nat) := []
noncomputable def o55 : List (Nat × List Nat) := [(6, [0, 1, 2, 3, 4, 5, 6, 7, 8, 9])]
noncomputable def o20 : List (Nat × List Nat) := []
noncomputable def o4 : List (Nat × List Nat) := [(10, [0, 1, 2, 3, 4])]
noncomputable def o91 : List (Nat × List Nat) := []
noncomputable def o59 : List (Nat × List Nat) := []
noncomputable def o21 : List (Nat × List Nat) := []
noncomputable def o94 : List (Nat × List Nat) := []
noncomputable def o63 : List (Nat × List Nat) := []
noncomputable def o23 : List (Nat × List Nat) := []
noncomputable def o61 : List (Nat × List Nat) := []
noncomputable def o22 : List (Nat × List Nat) := []
noncomputable def o24 : List (Nat × List Nat) := []
noncomputable def o97 : List (Nat × List Nat) := []
noncomputable def o66 : List (Nat × List Nat) := [(6, [0, 1, 2, 3, 4, 5, 6, 7, 8, 9])]
noncomputable def o25 : List (Nat × List Nat) := []
noncomputable def o5 : List (Nat × List Nat) := [(10, [0, 1, 2, 3, 4])]
noncomputable def o26 : List (Nat × List Nat) := []
noncomputable def o28 : List (Nat × List Nat) := []
noncomputable def o27 : List (Nat × List Nat) := []
noncomputable def o29 : List (Nat × List Nat) := []
noncomputable def o30 : List (Nat × List Nat) := []
noncomputable def o6 : List (Nat × List Nat) := [(8, [0, 2, 1, 3, 4, 5]), (14, [0, 1, 2, 3, 4]), (16, [0, 1, 2, 3, 4])]
noncomputable def o71 : List (Nat × List Nat) := []
noncomputable def o31 : List (Nat × List Nat) := [(4, [0, 1, 2, 3, 4, 5, 6, 7])]
noncomputable def o72 : List (Nat × List Nat) := []
noncomputable def o73 : List (Nat × List Nat) := []
noncomputable def o32 : List (Nat × List Nat) := []
noncomputable def o7 : List (Nat × List Nat) := [(10, [0, 1, 2, 3, 4])]
noncomputable def o107 : List (Nat × List Nat) := []
noncomputable def o78 : List (Nat × List Nat) := [(6, [0, 1, 2, 3, 4, 5, 6, 7, 8, 9, 10]), (11, [0, 1, 2, 3, 4, 5, 6, 7, 8, 9, 10]), (16, [0, 1, 2, 3, 4, 5, 6, 7, 8, 9, 10])]
noncomputable def o79 : List (Nat × List Nat) := [(6, [0, 1, 2, 3, 4, 5, 6, 7, 8])]
noncomputable def o80 : List (Nat × List Nat) := [(6, [0, 1, 2, 3, 4, 5, 6, 7, 8])]
noncomputable def o125 : List (Nat × List Nat) := []
noncomputable def o108 : List (Nat × List Nat) := [(6, [0, 1, 2, 3, 4, 5, 6, 7, 8, 9, 10, 11, 12, 13, 14, 15])]
noncomputable def o81 : List (Nat × List Nat) := []
noncomputable def o39 : List (Nat × List Nat) := []
noncomputable def o109 : List (Nat × List Nat) := []
noncomputable def o110 : List (Nat × List Nat) := [(6, [0, 1, 2, 3, 4, 5, 6, 7, 8])]
noncomputable def o111 : List (Nat × List Nat) := [(6, [0, 1, 2, 3, 4, 5, 6, 7, 8])]
noncomputable def o84 : List (Nat × List Nat) := [(6, [0, 1, 2, 3, 4, 5, 6, 7, 8])]
noncomputable def o82 : List (Nat × List Nat) := []
noncomputable def o83 : List (Nat × List Nat) := [(6, [0, 1, 2, 3, 4, 5, 6, 7, 8])]
noncomputable def o112 : List (Nat × List Nat) := []
noncomputable def o113 : List (Nat × List Nat) := []
noncomputable def o85 : List (Nat × List Nat) := []
noncomputable def o40 : List (Nat × List Nat) := []
noncomputable def o10 : List (Nat × List Nat) := [(8, [0, 2, 1, 3, 4, 5]), (14, [0, 1, 2, 3, 4]), (16, [0, 1, 2, 3, 4])]
noncomputable def ti0 (t : Nat) : Option TI := (tis[t]?).getD none
noncomputable def cd : Code → List Nat → Code
  | c, [] => c
  | .seq a b, i :: p => cd (if i = 0 then a else b) p
  | .cond _ a b, i :: p => cd (if i = 1 then a else b) p
  | .block _ a, _ :: p => cd a p
  | .loop a, _ :: p => cd a p
  | c, _ => c

/-! 49 loop.example/g00480/laws.szByteS -/
noncomputable def f49 (p : Pr β) (n : Nat) (a0 a1 : AV) (H : Heap) (k : AV → Heap → Option β) : Option β :=
  p.len a0 fun t7 =>
  p.bin .sub a1 t7 fun t8 =>
  p.bin .lss t8 (.sc (.int .i64 0)) fun t10 =>
  p.cond t10
  (k (.sc (.int .i64 (-1))) H)
  (k t8 H)
theorem f49_body (p : Pr β) (n : Nat) (a0 a1 : AV) (H : Heap) (k : AV → Heap → Option β) : evalBody ti0 p n ⟨c49, 12, Go.Proofs.Try.f49.results.toList, o49⟩ [a0, a1] H k = f49 p n a0 a1 H k := by kernel_rfl

/-! 48 loop.example/g00480/laws.szMsg -/
noncomputable def f48 (p : Pr β) (n : Nat) (a0 a1 : AV) (H : Heap) (k : AV → Heap → Option β) : Option β :=
  p.box a0 H fun t2 H =>
  p.fadr 0 t2 fun t6 =>
  p.load false 1 t6 H fun t7 =>
  p.lenS t7 fun t8 =>
  p.bin .sub a1 t8 fun t9 =>
  p.bin .lss t9 (.sc (.int .i64 0)) fun t11 =>
  p.cond t11
  (k (.sc (.int .i64 (-1))) H)
  (p.fadr 1 t2 fun t12 =>
  p.load false 1 t12 H fun t13 =>
  p.call 3 (.fn 49 [] []) [t13, t9] H fun t15 H =>
  p.bin .lss t15 (.sc (.int .i64 0)) fun t17 =>
  p.cond t17
  (k (.sc (.int .i64 (-1))) H)
  (k t15 H))
theorem f48_body (p : Pr β) (n : Nat) (a0 a1 : AV) (H : Heap) (k : AV → Heap → Option β) : evalBody ti0 p n ⟨c48, 19, Go.Proofs.Try.f48.results.toList, o48⟩ [a0, a1] H k = f48 p n a0 a1 H k := by kernel_rfl

/-! 133 loop.example/g00480/laws.szFlight -/
noncomputable def f133 (p : Pr β) (n : Nat) (a0 a1 : AV) (H : Heap) (k : AV → Heap → Option β) : Option β :=
  p.box a0 H fun t2 H =>
  p.fadr 1 t2 fun t5 =>
  p.load true 4 t5 H fun t6 =>
  p.call 3 (.fn 48 [] []) [t6, a1] H fun t8 H =>
  p.bin .lss t8 (.sc (.int .i64 0)) fun t10 =>
  p.cond t10
  (k (.sc (.int .i64 (-1))) H)
  (k t8 H)
theorem f133_body (p : Pr β) (n : Nat) (a0 a1 : AV) (H : Heap) (k : AV → Heap → Option β) : evalBody ti0 p n ⟨c133, 12, Go.Proofs.Try.f133.results.toList, o133⟩ [a0, a1] H k = f133 p n a0 a1 H k := by kernel_rfl

/-! 126 loop.example/g00480/laws.szFlightS -/
noncomputable def f126_l0 (p : Pr β) (n : Nat)  (k : AV → Heap → Option β) : Nat → AV → AV → AV → Heap → Option β
  | 0, _, _, _, _ => none
  | m + 1, t0, t1, t5, H => p.len t0 fun t14 =>
      p.bin .lss t5 t14 fun t15 =>
      p.cond t15
      (p.iadr 6 t0 t5 fun t20 =>
      p.load true 6 t20 H fun t21 =>
      p.call 3 (.fn 133 [] []) [t21, t1] H fun t23 H =>
      p.bin .lss t23 (.sc (.int .i64 0)) fun t25 =>
      p.cond t25
      (k (.sc (.int .i64 (-1))) H)
      (p.bin .add t5 (.sc (.int .i64 1)) fun t17 =>
      f126_l0 p n  k m t0 t23 t17 H))
      (k t1 H)
noncomputable def f126 (p : Pr β) (n : Nat) (a0 a1 : AV) (H : Heap) (k : AV → Heap → Option β) : Option β :=
  p.len a0 fun t8 =>
  p.bin .sub a1 t8 fun t9 =>
  p.bin .lss t9 (.sc (.int .i64 0)) fun t11 =>
  p.cond t11
  (k (.sc (.int .i64 (-1))) H)
  (f126_l0 p n  k n a0 t9 (.sc (.int .i64 0)) H)
noncomputable def f126_L0 (p : Pr β) (n : Nat)  (k : AV → Heap → Option β) (m : Nat) (tm : Tm) (H : Heap) : Option β :=
  iterC 27 (fun tm H k => evalCode ti0 p o126 27 n (cd c126 [1, 1, 1, 0, 1, 0, 0]) tm H k) (blkK 0 (seqK (fun tm H => evalCode ti0 p o126 27 n (cd c126 [1, 1, 1, 1]) tm H (endK ti0 p Go.Proofs.Try.f126.results.toList k)) (endK ti0 p Go.Proofs.Try.f126.results.toList k))) m tm H
theorem f126_L0_step (p : Pr β) (n : Nat)  (k : AV → Heap → Option β) (m0 : Nat) (t0 t1 t2 t3 t4 t5 t6 t7 t8 t9 t10 t11 t12 t13 t14 t15 t16 t17 t18 t19 t20 t21 t22 t23 t24 t25 t26 : AV) (H : Heap) : f126_L0 p n  k (m0 + 1) [(0, t0), (1, t1), (2, t2), (3, t3), (4, t4), (5, t5), (6, t6), (7, t7), (8, t8), (9, t9), (10, t10), (11, t11), (12, t12), (13, t13), (14, t14), (15, t15), (16, t16), (17, t17), (18, t18), (19, t19), (20, t20), (21, t21), (22, t22), (23, t23), (24, t24), (25, t25), (26, t26)] H =
  p.len t0 fun t14 =>
  p.bin .lss t5 t14 fun t15 =>
  p.cond t15
  (p.iadr 6 t0 t5 fun t20 =>
  p.load true 6 t20 H fun t21 =>
  p.call 3 (.fn 133 [] []) [t21, t1] H fun t23 H =>
  p.bin .lss t23 (.sc (.int .i64 0)) fun t25 =>
  p.cond t25
  (k (.sc (.int .i64 (-1))) H)
  (p.bin .add t5 (.sc (.int .i64 1)) fun t17 =>
  f126_L0 p n  k m0 [(0, t0), (1, t23), (2, t2), (3, t3), (4, t4), (5, t17), (6, t6), (7, t7), (8, t8), (9, t9), (10, t10), (11, t11), (12, t5), (13, t0), (14, t14), (15, t15), (16, t5), (17, t17), (18, t0), (19, t5), (20, t20), (21, t21), (22, t1), (23, t23), (24, t23), (25, t25), (26, t26)] H))
  (k t1 H) := by kernel_rfl
theorem f126_l0_eq (p : Pr β) (n : Nat)  (k : AV → Heap → Option β)   (m0 : Nat) : ∀ (t0 t1 t2 t3 t4 t5 t6 t7 t8 t9 t10 t11 t12 t13 t14 t15 t16 t17 t18 t19 t20 t21 t22 t23 t24 t25 t26 : AV) (H : Heap), f126_L0 p n  k m0 [(0, t0), (1, t1), (2, t2), (3, t3), (4, t4), (5, t5), (6, t6), (7, t7), (8, t8), (9, t9), (10, t10), (11, t11), (12, t12), (13, t13), (14, t14), (15, t15), (16, t16), (17, t17), (18, t18), (19, t19), (20, t20), (21, t21), (22, t22), (23, t23), (24, t24), (25, t25), (26, t26)] H = f126_l0 p n  k m0 t0 t1 t5 H := by
  induction m0 with
  | zero => intros; rfl
  | succ m0 ih =>
    intro t0 t1 t2 t3 t4 t5 t6 t7 t8 t9 t10 t11 t12 t13 t14 t15 t16 t17 t18 t19 t20 t21 t22 t23 t24 t25 t26 H
    rw [f126_L0_step]
    simp only [ih]
    rfl
theorem f126_raw (p : Pr β) (n : Nat) (a0 a1 : AV) (H : Heap) (k : AV → Heap → Option β) : evalBody ti0 p n ⟨c126, 27, Go.Proofs.Try.f126.results.toList, o126⟩ [a0, a1] H k =
  p.len a0 fun t8 =>
  p.bin .sub a1 t8 fun t9 =>
  p.bin .lss t9 (.sc (.int .i64 0)) fun t11 =>
  p.cond t11
  (k (.sc (.int .i64 (-1))) H)
  (f126_L0 p n  k n [(0, a0), (1, t9), (2, (.sc undef)), (3, (.sc undef)), (4, (.sc (.int .i64 0))), (5, (.sc (.int .i64 0))), (6, a1), (7, a0), (8, t8), (9, t9), (10, t9), (11, t11), (12, (.sc undef)), (13, (.sc undef)), (14, (.sc undef)), (15, (.sc undef)), (16, (.sc undef)), (17, (.sc undef)), (18, (.sc undef)), (19, (.sc undef)), (20, (.sc undef)), (21, (.sc undef)), (22, (.sc undef)), (23, (.sc undef)), (24, (.sc undef)), (25, (.sc undef)), (26, (.sc undef))] H) := by kernel_rfl
theorem f126_body (p : Pr β) (n : Nat) (a0 a1 : AV) (H : Heap) (k : AV → Heap → Option β) : evalBody ti0 p n ⟨c126, 27, Go.Proofs.Try.f126.results.toList, o126⟩ [a0, a1] H k = f126 p n a0 a1 H k := by
  rw [f126_raw]
  simp only [f126_l0_eq]
  rfl

/-! 60 loop.example/g00480/laws.szMsgS -/
noncomputable def f60_l0 (p : Pr β) (n : Nat)  (k : AV → Heap → Option β) : Nat → AV → AV → AV → Heap → Option β
  | 0, _, _, _, _ => none
  | m + 1, t0, t1, t5, H => p.len t0 fun t14 =>
      p.bin .lss t5 t14 fun t15 =>
      p.cond t15
      (p.iadr 4 t0 t5 fun t20 =>
      p.load true 4 t20 H fun t21 =>
      p.call 3 (.fn 48 [] []) [t21, t1] H fun t23 H =>
      p.bin .lss t23 (.sc (.int .i64 0)) fun t25 =>
      p.cond t25
      (k (.sc (.int .i64 (-1))) H)
      (p.bin .add t5 (.sc (.int .i64 1)) fun t17 =>
      f60_l0 p n  k m t0 t23 t17 H))
      (k t1 H)
noncomputable def f60 (p : Pr β) (n : Nat) (a0 a1 : AV) (H : Heap) (k : AV → Heap → Option β) : Option β :=
  p.len a0 fun t8 =>
  p.bin .sub a1 t8 fun t9 =>
  p.bin .lss t9 (.sc (.int .i64 0)) fun t11 =>
  p.cond t11
  (k (.sc (.int .i64 (-1))) H)
  (f60_l0 p n  k n a0 t9 (.sc (.int .i64 0)) H)
noncomputable def f60_L0 (p : Pr β) (n : Nat)  (k : AV → Heap → Option β) (m : Nat) (tm : Tm) (H : Heap) : Option β :=
  iterC 27 (fun tm H k => evalCode ti0 p o60 27 n (cd c60 [1, 1, 1, 0, 1, 0, 0]) tm H k) (blkK 0 (seqK (fun tm H => evalCode ti0 p o60 27 n (cd c60 [1, 1, 1, 1]) tm H (endK ti0 p Go.Proofs.Try.f60.results.toList k)) (endK ti0 p Go.Proofs.Try.f60.results.toList k))) m tm H
theorem f60_L0_step (p : Pr β) (n : Nat)  (k : AV → Heap → Option β) (m0 : Nat) (t0 t1 t2 t3 t4 t5 t6 t7 t8 t9 t10 t11 t12 t13 t14 t15 t16 t17 t18 t19 t20 t21 t22 t23 t24 t25 t26 : AV) (H : Heap) : f60_L0 p n  k (m0 + 1) [(0, t0), (1, t1), (2, t2), (3, t3), (4, t4), (5, t5), (6, t6), (7, t7), (8, t8), (9, t9), (10, t10), (11, t11), (12, t12), (13, t13), (14, t14), (15, t15), (16, t16), (17, t17), (18, t18), (19, t19), (20, t20), (21, t21), (22, t22), (23, t23), (24, t24), (25, t25), (26, t26)] H =
  p.len t0 fun t14 =>
  p.bin .lss t5 t14 fun t15 =>
  p.cond t15
  (p.iadr 4 t0 t5 fun t20 =>
  p.load true 4 t20 H fun t21 =>
  p.call 3 (.fn 48 [] []) [t21, t1] H fun t23 H =>
  p.bin .lss t23 (.sc (.int .i64 0)) fun t25 =>
  p.cond t25
  (k (.sc (.int .i64 (-1))) H)
  (p.bin .add t5 (.sc (.int .i64 1)) fun t17 =>
  f60_L0 p n  k m0 [(0, t0), (1, t23), (2, t2), (3, t3), (4, t4), (5, t17), (6, t6), (7, t7), (8, t8), (9, t9), (10, t10), (11, t11), (12, t5), (13, t0), (14, t14), (15, t15), (16, t5), (17, t17), (18, t0), (19, t5), (20, t20), (21, t21), (22, t1), (23, t23), (24, t23), (25, t25), (26, t26)] H))
  (k t1 H) := by kernel_rfl
theorem f60_l0_eq (p : Pr β) (n : Nat)  (k : AV → Heap → Option β)   (m0 : Nat) : ∀ (t0 t1 t2 t3 t4 t5 t6 t7 t8 t9 t10 t11 t12 t13 t14 t15 t16 t17 t18 t19 t20 t21 t22 t23 t24 t25 t26 : AV) (H : Heap), f60_L0 p n  k m0 [(0, t0), (1, t1), (2, t2), (3, t3), (4, t4), (5, t5), (6, t6), (7, t7), (8, t8), (9, t9), (10, t10), (11, t11), (12, t12), (13, t13), (14, t14), (15, t15), (16, t16), (17, t17), (18, t18), (19, t19), (20, t20), (21, t21), (22, t22), (23, t23), (24, t24), (25, t25), (26, t26)] H = f60_l0 p n  k m0 t0 t1 t5 H := by
  induction m0 with
  | zero => intros; rfl
  | succ m0 ih =>
    intro t0 t1 t2 t3 t4 t5 t6 t7 t8 t9 t10 t11 t12 t13 t14 t15 t16 t17 t18 t19 t20 t21 t22 t23 t24 t25 t26 H
    rw [f60_L0_step]
    simp only [ih]
    rfl
theorem f60_raw (p : Pr β) (n : Nat) (a0 a1 : AV) (H : Heap) (k : AV → Heap → Option β) : evalBody ti0 p n ⟨c60, 27, Go.Proofs.Try.f60.results.toList, o60⟩ [a0, a1] H k =
  p.len a0 fun t8 =>
  p.bin .sub a1 t8 fun t9 =>
  p.bin .lss t9 (.sc (.int .i64 0)) fun t11 =>
  p.cond t11
  (k (.sc (.int .i64 (-1))) H)
  (f60_L0 p n  k n [(0, a0), (1, t9), (2, (.sc undef)), (3, (.sc undef)), (4, (.sc (.int .i64 0))), (5, (.sc (.int .i64 0))), (6, a1), (7, a0), (8, t8), (9, t9), (10, t9), (11, t11), (12, (.sc undef)), (13, (.sc undef)), (14, (.sc undef)), (15, (.sc undef)), (16, (.sc undef)), (17, (.sc undef)), (18, (.sc undef)), (19, (.sc undef)), (20, (.sc undef)), (21, (.sc undef)), (22, (.sc undef)), (23, (.sc undef)), (24, (.sc undef)), (25, (.sc undef)), (26, (.sc undef))] H) := by kernel_rfl
theorem f60_body (p : Pr β) (n : Nat) (a0 a1 : AV) (H : Heap) (k : AV → Heap → Option β) : evalBody ti0 p n ⟨c60, 27, Go.Proofs.Try.f60.results.toList, o60⟩ [a0, a1] H k = f60 p n a0 a1 H k := by
  rw [f60_raw]
  simp only [f60_l0_eq]
  rfl

/-! 114 loop.example/g00480/laws.szOut -/
noncomputable def f114 (p : Pr β) (n : Nat) (a0 a1 : AV) (H : Heap) (k : AV → Heap → Option β) : Option β :=
  p.box a0 H fun t2 H =>
  p.fadr 1 t2 fun t5 =>
  p.load false 1 t5 H fun t6 =>
  p.call 3 (.fn 126 [] []) [t6, a1] H fun t8 H =>
  p.bin .lss t8 (.sc (.int .i64 0)) fun t10 =>
  p.cond t10
  (k (.sc (.int .i64 (-1))) H)
  (p.fadr 2 t2 fun t11 =>
  p.load false 1 t11 H fun t12 =>
  p.call 3 (.fn 60 [] []) [t12, t8] H fun t14 H =>
  p.bin .lss t14 (.sc (.int .i64 0)) fun t16 =>
  p.cond t16
  (k (.sc (.int .i64 (-1))) H)
  (k t14 H))
theorem f114_body (p : Pr β) (n : Nat) (a0 a1 : AV) (H : Heap) (k : AV → Heap → Option β) : evalBody ti0 p n ⟨c114, 18, Go.Proofs.Try.f114.results.toList, o114⟩ [a0, a1] H k = f114 p n a0 a1 H k := by kernel_rfl

/-! 68 loop.example/g00480/laws.szIntS -/
noncomputable def f68 (p : Pr β) (n : Nat) (a0 a1 : AV) (H : Heap) (k : AV → Heap → Option β) : Option β :=
  p.len a0 fun t7 =>
  p.bin .sub a1 t7 fun t8 =>
  p.bin .lss t8 (.sc (.int .i64 0)) fun t10 =>
  p.cond t10
  (k (.sc (.int .i64 (-1))) H)
  (k t8 H)
theorem f68_body (p : Pr β) (n : Nat) (a0 a1 : AV) (H : Heap) (k : AV → Heap → Option β) : evalBody ti0 p n ⟨c68, 12, Go.Proofs.Try.f68.results.toList, o68⟩ [a0, a1] H k = f68 p n a0 a1 H k := by kernel_rfl

/-! 86 loop.example/g00480/laws.szSess -/
noncomputable def f86 (p : Pr β) (n : Nat) (a0 a1 : AV) (H : Heap) (k : AV → Heap → Option β) : Option β :=
  p.box a0 H fun t2 H =>
  p.fadr 0 t2 fun t6 =>
  p.load false 1 t6 H fun t7 =>
  p.lenS t7 fun t8 =>
  p.bin .sub a1 t8 fun t9 =>
  p.bin .lss t9 (.sc (.int .i64 0)) fun t11 =>
  p.cond t11
  (k (.sc (.int .i64 (-1))) H)
  (p.fadr 5 t2 fun t12 =>
  p.load true 3 t12 H fun t13 =>
  p.call 3 (.fn 114 [] []) [t13, t9] H fun t15 H =>
  p.bin .lss t15 (.sc (.int .i64 0)) fun t17 =>
  p.cond t17
  (k (.sc (.int .i64 (-1))) H)
  (p.fadr 8 t2 fun t18 =>
  p.load false 1 t18 H fun t19 =>
  p.call 3 (.fn 68 [] []) [t19, t15] H fun t21 H =>
  p.bin .lss t21 (.sc (.int .i64 0)) fun t23 =>
  p.cond t23
  (k (.sc (.int .i64 (-1))) H)
  (k t21 H)))
theorem f86_body (p : Pr β) (n : Nat) (a0 a1 : AV) (H : Heap) (k : AV → Heap → Option β) : evalBody ti0 p n ⟨c86, 25, Go.Proofs.Try.f86.results.toList, o86⟩ [a0, a1] H k = f86 p n a0 a1 H k := by kernel_rfl

/-! 41 loop.example/g00480/laws.szSessS -/
noncomputable def f41_l0 (p : Pr β) (n : Nat)  (k : AV → Heap → Option β) : Nat → AV → AV → AV → Heap → Option β
  | 0, _, _, _, _ => none
  | m + 1, t0, t1, t5, H => p.len t0 fun t14 =>
      p.bin .lss t5 t14 fun t15 =>
      p.cond t15
      (p.iadr 9 t0 t5 fun t20 =>
      p.load true 9 t20 H fun t21 =>
      p.call 3 (.fn 86 [] []) [t21, t1] H fun t23 H =>
      p.bin .lss t23 (.sc (.int .i64 0)) fun t25 =>
      p.cond t25
      (k (.sc (.int .i64 (-1))) H)
      (p.bin .add t5 (.sc (.int .i64 1)) fun t17 =>
      f41_l0 p n  k m t0 t23 t17 H))
      (k t1 H)
noncomputable def f41 (p : Pr β) (n : Nat) (a0 a1 : AV) (H : Heap) (k : AV → Heap → Option β) : Option β :=
  p.len a0 fun t8 =>
  p.bin .sub a1 t8 fun t9 =>
  p.bin .lss t9 (.sc (.int .i64 0)) fun t11 =>
  p.cond t11
  (k (.sc (.int .i64 (-1))) H)
  (f41_l0 p n  k n a0 t9 (.sc (.int .i64 0)) H)
noncomputable def f41_L0 (p : Pr β) (n : Nat)  (k : AV → Heap → Option β) (m : Nat) (tm : Tm) (H : Heap) : Option β :=
  iterC 27 (fun tm H k => evalCode ti0 p o41 27 n (cd c41 [1, 1, 1, 0, 1, 0, 0]) tm H k) (blkK 0 (seqK (fun tm H => evalCode ti0 p o41 27 n (cd c41 [1, 1, 1, 1]) tm H (endK ti0 p Go.Proofs.Try.f41.results.toList k)) (endK ti0 p Go.Proofs.Try.f41.results.toList k))) m tm H
theorem f41_L0_step (p : Pr β) (n : Nat)  (k : AV → Heap → Option β) (m0 : Nat) (t0 t1 t2 t3 t4 t5 t6 t7 t8 t9 t10 t11 t12 t13 t14 t15 t16 t17 t18 t19 t20 t21 t22 t23 t24 t25 t26 : AV) (H : Heap) : f41_L0 p n  k (m0 + 1) [(0, t0), (1, t1), (2, t2), (3, t3), (4, t4), (5, t5), (6, t6), (7, t7), (8, t8), (9, t9), (10, t10), (11, t11), (12, t12), (13, t13), (14, t14), (15, t15), (16, t16), (17, t17), (18, t18), (19, t19), (20, t20), (21, t21), (22, t22), (23, t23), (24, t24), (25, t25), (26, t26)] H =
  p.len t0 fun t14 =>
  p.bin .lss t5 t14 fun t15 =>
  p.cond t15
  (p.iadr 9 t0 t5 fun t20 =>
  p.load true 9 t20 H fun t21 =>
  p.call 3 (.fn 86 [] []) [t21, t1] H fun t23 H =>
  p.bin .lss t23 (.sc (.int .i64 0)) fun t25 =>
  p.cond t25
  (k (.sc (.int .i64 (-1))) H)
  (p.bin .add t5 (.sc (.int .i64 1)) fun t17 =>
  f41_L0 p n  k m0 [(0, t0), (1, t23), (2, t2), (3, t3), (4, t4), (5, t17), (6, t6), (7, t7), (8, t8), (9, t9), (10, t10), (11, t11), (12, t5), (13, t0), (14, t14), (15, t15), (16, t5), (17, t17), (18, t0), (19, t5), (20, t20), (21, t21), (22, t1), (23, t23), (24, t23), (25, t25), (26, t26)] H))
  (k t1 H) := by kernel_rfl
theorem f41_l0_eq (p : Pr β) (n : Nat)  (k : AV → Heap → Option β)   (m0 : Nat) : ∀ (t0 t1 t2 t3 t4 t5 t6 t7 t8 t9 t10 t11 t12 t13 t14 t15 t16 t17 t18 t19 t20 t21 t22 t23 t24 t25 t26 : AV) (H : Heap), f41_L0 p n  k m0 [(0, t0), (1, t1), (2, t2), (3, t3), (4, t4), (5, t5), (6, t6), (7, t7), (8, t8), (9, t9), (10, t10), (11, t11), (12, t12), (13, t13), (14, t14), (15, t15), (16, t16), (17, t17), (18, t18), (19, t19), (20, t20), (21, t21), (22, t22), (23, t23), (24, t24), (25, t25), (26, t26)] H = f41_l0 p n  k m0 t0 t1 t5 H := by
  induction m0 with
  | zero => intros; rfl
  | succ m0 ih =>
    intro t0 t1 t2 t3 t4 t5 t6 t7 t8 t9 t10 t11 t12 t13 t14 t15 t16 t17 t18 t19 t20 t21 t22 t23 t24 t25 t26 H
    rw [f41_L0_step]
    simp only [ih]
    rfl
theorem f41_raw (p : Pr β) (n : Nat) (a0 a1 : AV) (H : Heap) (k : AV → Heap → Option β) : evalBody ti0 p n ⟨c41, 27, Go.Proofs.Try.f41.results.toList, o41⟩ [a0, a1] H k =
  p.len a0 fun t8 =>
  p.bin .sub a1 t8 fun t9 =>
  p.bin .lss t9 (.sc (.int .i64 0)) fun t11 =>
  p.cond t11
  (k (.sc (.int .i64 (-1))) H)
  (f41_L0 p n  k n [(0, a0), (1, t9), (2, (.sc undef)), (3, (.sc undef)), (4, (.sc (.int .i64 0))), (5, (.sc (.int .i64 0))), (6, a1), (7, a0), (8, t8), (9, t9), (10, t9), (11, t11), (12, (.sc undef)), (13, (.sc undef)), (14, (.sc undef)), (15, (.sc undef)), (16, (.sc undef)), (17, (.sc undef)), (18, (.sc undef)), (19, (.sc undef)), (20, (.sc undef)), (21, (.sc undef)), (22, (.sc undef)), (23, (.sc undef)), (24, (.sc undef)), (25, (.sc undef)), (26, (.sc undef))] H) := by kernel_rfl
theorem f41_body (p : Pr β) (n : Nat) (a0 a1 : AV) (H : Heap) (k : AV → Heap → Option β) : evalBody ti0 p n ⟨c41, 27, Go.Proofs.Try.f41.results.toList, o41⟩ [a0, a1] H k = f41 p n a0 a1 H k := by
  rw [f41_raw]
  simp only [f41_l0_eq]
  rfl

/-! 11 loop.example/g00480/laws.szStripe -/
noncomputable def f11 (p : Pr β) (n : Nat) (a0 a1 : AV) (H : Heap) (k : AV → Heap → Option β) : Option β :=
  p.box a0 H fun t2 H =>
  p.fadr 1 t2 fun t5 =>
  p.load false 1 t5 H fun t6 =>
  p.call 3 (.fn 41 [] []) [t6, a1] H fun t8 H =>
  p.bin .lss t8 (.sc (.int .i64 0)) fun t10 =>
  p.cond t10
  (k (.sc (.int .i64 (-1))) H)
  (k t8 H)
theorem f11_body (p : Pr β) (n : Nat) (a0 a1 : AV) (H : Heap) (k : AV → Heap → Option β) : evalBody ti0 p n ⟨c11, 12, Go.Proofs.Try.f11.results.toList, o11⟩ [a0, a1] H k = f11 p n a0 a1 H k := by kernel_rfl

/-! 53 loop.example/g00480/laws.toByteS -/
noncomputable def f53_l0 (p : Pr β) (n : Nat)  (k : AV → Heap → Option β) : Nat → AV → AV → AV → Heap → Option β
  | 0, _, _, _, _ => none
  | m + 1, t0, t3, t4, H => p.len t0 fun t10 =>
      p.bin .lss t4 t10 fun t11 =>
      p.cond t11
      (p.iadr 1 t0 t4 fun t18 =>
      p.load false 1 t18 H fun t19 =>
      p.iadr 1 t3 t4 fun t20 =>
      p.store 1 t20 t19 H fun H =>
      p.bin .add t4 (.sc (.int .i64 1)) fun t13 =>
      f53_l0 p n  k m t0 t3 t13 H)
      (k t3 H)
noncomputable def f53 (p : Pr β) (n : Nat) (a0 : AV) (H : Heap) (k : AV → Heap → Option β) : Option β :=
  p.len a0 fun t6 =>
  p.make 1 1 [(.sc (.int .u8 0))] t6 t6 H fun t7 H =>
  f53_l0 p n  k n a0 t7 (.sc (.int .i64 0)) H
noncomputable def f53_L0 (p : Pr β) (n : Nat)  (k : AV → Heap → Option β) (m : Nat) (tm : Tm) (H : Heap) : Option β :=
  iterC 22 (fun tm H k => evalCode ti0 p o53 22 n (cd c53 [1, 1, 0, 1, 0, 0]) tm H k) (blkK 0 (seqK (fun tm H => evalCode ti0 p o53 22 n (cd c53 [1, 1, 1]) tm H (endK ti0 p Go.Proofs.Try.f53.results.toList k)) (endK ti0 p Go.Proofs.Try.f53.results.toList k))) m tm H
theorem f53_L0_step (p : Pr β) (n : Nat)  (k : AV → Heap → Option β) (m0 : Nat) (t0 t1 t2 t3 t4 t5 t6 t7 t8 t9 t10 t11 t12 t13 t14 t15 t16 t17 t18 t19 t20 t21 : AV) (H : Heap) : f53_L0 p n  k (m0 + 1) [(0, t0), (1, t1), (2, t2), (3, t3), (4, t4), (5, t5), (6, t6), (7, t7), (8, t8), (9, t9), (10, t10), (11, t11), (12, t12), (13, t13), (14, t14), (15, t15), (16, t16), (17, t17), (18, t18), (19, t19), (20, t20), (21, t21)] H =
  p.len t0 fun t10 =>
  p.bin .lss t4 t10 fun t11 =>
  p.cond t11
  (p.iadr 1 t0 t4 fun t18 =>
  p.load false 1 t18 H fun t19 =>
  p.iadr 1 t3 t4 fun t20 =>
  p.store 1 t20 t19 H fun H =>
  p.bin .add t4 (.sc (.int .i64 1)) fun t13 =>
  f53_L0 p n  k m0 [(0, t0), (1, t1), (2, t2), (3, t3), (4, t13), (5, t5), (6, t6), (7, t7), (8, t4), (9, t0), (10, t10), (11, t11), (12, t4), (13, t13), (14, t3), (15, t4), (16, t0), (17, t4), (18, t18), (19, t19), (20, t20), (21, t21)] H)
  (k t3 H) := by kernel_rfl
theorem f53_l0_eq (p : Pr β) (n : Nat)  (k : AV → Heap → Option β)   (m0 : Nat) : ∀ (t0 t1 t2 t3 t4 t5 t6 t7 t8 t9 t10 t11 t12 t13 t14 t15 t16 t17 t18 t19 t20 t21 : AV) (H : Heap), f53_L0 p n  k m0 [(0, t0), (1, t1), (2, t2), (3, t3), (4, t4), (5, t5), (6, t6), (7, t7), (8, t8), (9, t9), (10, t10), (11, t11), (12, t12), (13, t13), (14, t14), (15, t15), (16, t16), (17, t17), (18, t18), (19, t19), (20, t20), (21, t21)] H = f53_l0 p n  k m0 t0 t3 t4 H := by
  induction m0 with
  | zero => intros; rfl
  | succ m0 ih =>
    intro t0 t1 t2 t3 t4 t5 t6 t7 t8 t9 t10 t11 t12 t13 t14 t15 t16 t17 t18 t19 t20 t21 H
    rw [f53_L0_step]
    simp only [ih]
    rfl
theorem f53_raw (p : Pr β) (n : Nat) (a0 : AV) (H : Heap) (k : AV → Heap → Option β) : evalBody ti0 p n ⟨c53, 22, Go.Proofs.Try.f53.results.toList, o53⟩ [a0] H k =
  p.len a0 fun t6 =>
  p.make 1 1 [(.sc (.int .u8 0))] t6 t6 H fun t7 H =>
  f53_L0 p n  k n [(0, a0), (1, (.sc undef)), (2, .nl), (3, t7), (4, (.sc (.int .i64 0))), (5, a0), (6, t6), (7, t7), (8, (.sc undef)), (9, (.sc undef)), (10, (.sc undef)), (11, (.sc undef)), (12, (.sc undef)), (13, (.sc undef)), (14, (.sc undef)), (15, (.sc undef)), (16, (.sc undef)), (17, (.sc undef)), (18, (.sc undef)), (19, (.sc undef)), (20, (.sc undef)), (21, (.sc undef))] H := by kernel_rfl
theorem f53_body (p : Pr β) (n : Nat) (a0 : AV) (H : Heap) (k : AV → Heap → Option β) : evalBody ti0 p n ⟨c53, 22, Go.Proofs.Try.f53.results.toList, o53⟩ [a0] H k = f53 p n a0 H k := by
  rw [f53_raw]
  simp only [f53_l0_eq]
  rfl

/-! 52 loop.example/g00480/laws.toMsg -/
noncomputable def f52 (p : Pr β) (n : Nat) (a0 : AV) (H : Heap) (k : AV → Heap → Option β) : Option β :=
  p.box a0 H fun t1 H =>
  p.new [(.sc (.string ⟨#[]⟩)), .nl, (.sc (.int .i64 0)), (.sc (.bool false))] H fun t2 H =>
  p.new [(.sc (.string ⟨#[]⟩)), .nl, (.sc (.int .i64 0)), (.sc (.bool false))] H fun t3 H =>
  p.fadr 0 t1 fun t4 =>
  p.load false 1 t4 H fun t5 =>
  p.fadr 0 t3 fun t6 =>
  p.store 1 t6 t5 H fun H =>
  p.fadr 1 t1 fun t7 =>
  p.load false 1 t7 H fun t8 =>
  p.call 33 (.fn 53 [] []) [t8] H fun t9 H =>
  p.fadr 1 t3 fun t10 =>
  p.store 1 t10 t9 H fun H =>
  p.fadr 2 t1 fun t11 =>
  p.load false 1 t11 H fun t12 =>
  p.fadr 2 t3 fun t13 =>
  p.store 1 t13 t12 H fun H =>
  p.fadr 3 t1 fun t14 =>
  p.load false 1 t14 H fun t15 =>
  p.fadr 3 t3 fun t16 =>
  p.store 1 t16 t15 H fun H =>
  p.load true 4 t3 H fun t17 =>
  p.store 4 t2 t17 H fun H =>
  p.load true 4 t2 H fun r0 =>
  k r0 H
theorem f52_body (p : Pr β) (n : Nat) (a0 : AV) (H : Heap) (k : AV → Heap → Option β) : evalBody ti0 p n ⟨c52, 18, Go.Proofs.Try.f52.results.toList, o52⟩ [a0] H k = f52 p n a0 H k := by kernel_rfl

/-! 134 loop.example/g00480/laws.toFlight -/
noncomputable def f134 (p : Pr β) (n : Nat) (a0 : AV) (H : Heap) (k : AV → Heap → Option β) : Option β :=
  p.box a0 H fun t1 H =>
  p.new [(.sc (.int .i64 0)), (.sc (.string ⟨#[]⟩)), .nl, (.sc (.int .i64 0)), (.sc (.bool false)), (.sc (.int .i64 0))] H fun t2 H =>
  p.new [(.sc (.int .i64 0)), (.sc (.string ⟨#[]⟩)), .nl, (.sc (.int .i64 0)), (.sc (.bool false)), (.sc (.int .i64 0))] H fun t3 H =>
  p.fadr 0 t1 fun t4 =>
  p.load false 1 t4 H fun t5 =>
  p.fadr 0 t3 fun t6 =>
  p.store 1 t6 t5 H fun H =>
  p.fadr 1 t1 fun t7 =>
  p.load true 4 t7 H fun t8 =>
  p.call 45 (.fn 52 [] []) [t8] H fun t9 H =>
  p.fadr 1 t3 fun t10 =>
  p.store 4 t10 t9 H fun H =>
  p.fadr 5 t1 fun t11 =>
  p.load false 1 t11 H fun t12 =>
  p.fadr 5 t3 fun t13 =>
  p.store 1 t13 t12 H fun H =>
  p.load true 6 t3 H fun t14 =>
  p.store 6 t2 t14 H fun H =>
  p.load true 6 t2 H fun r0 =>
  k r0 H
theorem f134_body (p : Pr β) (n : Nat) (a0 : AV) (H : Heap) (k : AV → Heap → Option β) : evalBody ti0 p n ⟨c134, 15, Go.Proofs.Try.f134.results.toList, o134⟩ [a0] H k = f134 p n a0 H k := by kernel_rfl

/-! 127 loop.example/g00480/laws.toFlightS -/
noncomputable def f127_l0 (p : Pr β) (n : Nat)  (k : AV → Heap → Option β) : Nat → AV → AV → AV → Heap → Option β
  | 0, _, _, _, _ => none
  | m + 1, t0, t3, t4, H => p.len t0 fun t10 =>
      p.bin .lss t4 t10 fun t11 =>
      p.cond t11
      (p.iadr 6 t0 t4 fun t18 =>
      p.load true 6 t18 H fun t19 =>
      p.call 159 (.fn 134 [] []) [t19] H fun t20 H =>
      p.iadr 6 t3 t4 fun t21 =>
      p.store 6 t21 t20 H fun H =>
      p.bin .add t4 (.sc (.int .i64 1)) fun t13 =>
      f127_l0 p n  k m t0 t3 t13 H)
      (k t3 H)
noncomputable def f127 (p : Pr β) (n : Nat) (a0 : AV) (H : Heap) (k : AV → Heap → Option β) : Option β :=
  p.len a0 fun t6 =>
  p.make 6 72 [(.sc (.int .i64 0)), (.sc (.string ⟨#[]⟩)), .nl, (.sc (.int .i64 0)), (.sc (.bool false)), (.sc (.int .i64 0))] t6 t6 H fun t7 H =>
  f127_l0 p n  k n a0 t7 (.sc (.int .i64 0)) H
noncomputable def f127_L0 (p : Pr β) (n : Nat)  (k : AV → Heap → Option β) (m : Nat) (tm : Tm) (H : Heap) : Option β :=
  iterC 23 (fun tm H k => evalCode ti0 p o127 23 n (cd c127 [1, 1, 0, 1, 0, 0]) tm H k) (blkK 0 (seqK (fun tm H => evalCode ti0 p o127 23 n (cd c127 [1, 1, 1]) tm H (endK ti0 p Go.Proofs.Try.f127.results.toList k)) (endK ti0 p Go.Proofs.Try.f127.results.toList k))) m tm H
theorem f127_L0_step (p : Pr β) (n : Nat)  (k : AV → Heap → Option β) (m0 : Nat) (t0 t1 t2 t3 t4 t5 t6 t7 t8 t9 t10 t11 t12 t13 t14 t15 t16 t17 t18 t19 t20 t21 t22 : AV) (H : Heap) : f127_L0 p n  k (m0 + 1) [(0, t0), (1, t1), (2, t2), (3, t3), (4, t4), (5, t5), (6, t6), (7, t7), (8, t8), (9, t9), (10, t10), (11, t11), (12, t12), (13, t13), (14, t14), (15, t15), (16, t16), (17, t17), (18, t18), (19, t19), (20, t20), (21, t21), (22, t22)] H =
  p.len t0 fun t10 =>
  p.bin .lss t4 t10 fun t11 =>
  p.cond t11
  (p.iadr 6 t0 t4 fun t18 =>
  p.load true 6 t18 H fun t19 =>
  p.call 159 (.fn 134 [] []) [t19] H fun t20 H =>
  p.iadr 6 t3 t4 fun t21 =>
  p.store 6 t21 t20 H fun H =>
  p.bin .add t4 (.sc (.int .i64 1)) fun t13 =>
  f127_L0 p n  k m0 [(0, t0), (1, t1), (2, t2), (3, t3), (4, t13), (5, t5), (6, t6), (7, t7), (8, t4), (9, t0), (10, t10), (11, t11), (12, t4), (13, t13), (14, t3), (15, t4), (16, t0), (17, t4), (18, t18), (19, t19), (20, t20), (21, t21), (22, t22)] H)
  (k t3 H) := by kernel_rfl
theorem f127_l0_eq (p : Pr β) (n : Nat)  (k : AV → Heap → Option β)   (m0 : Nat) : ∀ (t0 t1 t2 t3 t4 t5 t6 t7 t8 t9 t10 t11 t12 t13 t14 t15 t16 t17 t18 t19 t20 t21 t22 : AV) (H : Heap), f127_L0 p n  k m0 [(0, t0), (1, t1), (2, t2), (3, t3), (4, t4), (5, t5), (6, t6), (7, t7), (8, t8), (9, t9), (10, t10), (11, t11), (12, t12), (13, t13), (14, t14), (15, t15), (16, t16), (17, t17), (18, t18), (19, t19), (20, t20), (21, t21), (22, t22)] H = f127_l0 p n  k m0 t0 t3 t4 H := by
  induction m0 with
  | zero => intros; rfl
  | succ m0 ih =>
    intro t0 t1 t2 t3 t4 t5 t6 t7 t8 t9 t10 t11 t12 t13 t14 t15 t16 t17 t18 t19 t20 t21 t22 H
    rw [f127_L0_step]
    simp only [ih]
    rfl
theorem f127_raw (p : Pr β) (n : Nat) (a0 : AV) (H : Heap) (k : AV → Heap → Option β) : evalBody ti0 p n ⟨c127, 23, Go.Proofs.Try.f127.results.toList, o127⟩ [a0] H k =
  p.len a0 fun t6 =>
  p.make 6 72 [(.sc (.int .i64 0)), (.sc (.string ⟨#[]⟩)), .nl, (.sc (.int .i64 0)), (.sc (.bool false)), (.sc (.int .i64 0))] t6 t6 H fun t7 H =>
  f127_L0 p n  k n [(0, a0), (1, (.sc undef)), (2, .nl), (3, t7), (4, (.sc (.int .i64 0))), (5, a0), (6, t6), (7, t7), (8, (.sc undef)), (9, (.sc undef)), (10, (.sc undef)), (11, (.sc undef)), (12, (.sc undef)), (13, (.sc undef)), (14, (.sc undef)), (15, (.sc undef)), (16, (.sc undef)), (17, (.sc undef)), (18, (.sc undef)), (19, (.sc undef)), (20, (.sc undef)), (21, (.sc undef)), (22, (.sc undef))] H := by kernel_rfl
theorem f127_body (p : Pr β) (n : Nat) (a0 : AV) (H : Heap) (k : AV → Heap → Option β) : evalBody ti0 p n ⟨c127, 23, Go.Proofs.Try.f127.results.toList, o127⟩ [a0] H k = f127 p n a0 H k := by
  rw [f127_raw]
  simp only [f127_l0_eq]
  rfl

/-! 64 loop.example/g00480/laws.toMsgS -/
noncomputable def f64_l0 (p : Pr β) (n : Nat)  (k : AV → Heap → Option β) : Nat → AV → AV → AV → Heap → Option β
  | 0, _, _, _, _ => none
  | m + 1, t0, t3, t4, H => p.len t0 fun t10 =>
      p.bin .lss t4 t10 fun t11 =>
      p.cond t11
      (p.iadr 4 t0 t4 fun t18 =>
      p.load true 4 t18 H fun t19 =>
      p.call 45 (.fn 52 [] []) [t19] H fun t20 H =>
      p.iadr 4 t3 t4 fun t21 =>
      p.store 4 t21 t20 H fun H =>
      p.bin .add t4 (.sc (.int .i64 1)) fun t13 =>
      f64_l0 p n  k m t0 t3 t13 H)
      (k t3 H)
noncomputable def f64 (p : Pr β) (n : Nat) (a0 : AV) (H : Heap) (k : AV → Heap → Option β) : Option β :=
  p.len a0 fun t6 =>
  p.make 4 56 [(.sc (.string ⟨#[]⟩)), .nl, (.sc (.int .i64 0)), (.sc (.bool false))] t6 t6 H fun t7 H =>
  f64_l0 p n  k n a0 t7 (.sc (.int .i64 0)) H
noncomputable def f64_L0 (p : Pr β) (n : Nat)  (k : AV → Heap → Option β) (m : Nat) (tm : Tm) (H : Heap) : Option β :=
  iterC 23 (fun tm H k => evalCode ti0 p o64 23 n (cd c64 [1, 1, 0, 1, 0, 0]) tm H k) (blkK 0 (seqK (fun tm H => evalCode ti0 p o64 23 n (cd c64 [1, 1, 1]) tm H (endK ti0 p Go.Proofs.Try.f64.results.toList k)) (endK ti0 p Go.Proofs.Try.f64.results.toList k))) m tm H
theorem f64_L0_step (p : Pr β) (n : Nat)  (k : AV → Heap → Option β) (m0 : Nat) (t0 t1 t2 t3 t4 t5 t6 t7 t8 t9 t10 t11 t12 t13 t14 t15 t16 t17 t18 t19 t20 t21 t22 : AV) (H : Heap) : f64_L0 p n  k (m0 + 1) [(0, t0), (1, t1), (2, t2), (3, t3), (4, t4), (5, t5), (6, t6), (7, t7), (8, t8), (9, t9), (10, t10), (11, t11), (12, t12), (13, t13), (14, t14), (15, t15), (16, t16), (17, t17), (18, t18), (19, t19), (20, t20), (21, t21), (22, t22)] H =
  p.len t0 fun t10 =>
  p.bin .lss t4 t10 fun t11 =>
  p.cond t11
  (p.iadr 4 t0 t4 fun t18 =>
  p.load true 4 t18 H fun t19 =>
  p.call 45 (.fn 52 [] []) [t19] H fun t20 H =>
  p.iadr 4 t3 t4 fun t21 =>
  p.store 4 t21 t20 H fun H =>
  p.bin .add t4 (.sc (.int .i64 1)) fun t13 =>
  f64_L0 p n  k m0 [(0, t0), (1, t1), (2, t2), (3, t3), (4, t13), (5, t5), (6, t6), (7, t7), (8, t4), (9, t0), (10, t10), (11, t11), (12, t4), (13, t13), (14, t3), (15, t4), (16, t0), (17, t4), (18, t18), (19, t19), (20, t20), (21, t21), (22, t22)] H)
  (k t3 H) := by kernel_rfl
theorem f64_l0_eq (p : Pr β) (n : Nat)  (k : AV → Heap → Option β)   (m0 : Nat) : ∀ (t0 t1 t2 t3 t4 t5 t6 t7 t8 t9 t10 t11 t12 t13 t14 t15 t16 t17 t18 t19 t20 t21 t22 : AV) (H : Heap), f64_L0 p n  k m0 [(0, t0), (1, t1), (2, t2), (3, t3), (4, t4), (5, t5), (6, t6), (7, t7), (8, t8), (9, t9), (10, t10), (11, t11), (12, t12), (13, t13), (14, t14), (15, t15), (16, t16), (17, t17), (18, t18), (19, t19), (20, t20), (21, t21), (22, t22)] H = f64_l0 p n  k m0 t0 t3 t4 H := by
  induction m0 with
  | zero => intros; rfl
  | succ m0 ih =>
    intro t0 t1 t2 t3 t4 t5 t6 t7 t8 t9 t10 t11 t12 t13 t14 t15 t16 t17 t18 t19 t20 t21 t22 H
    rw [f64_L0_step]
    simp only [ih]
    rfl
theorem f64_raw (p : Pr β) (n : Nat) (a0 : AV) (H : Heap) (k : AV → Heap → Option β) : evalBody ti0 p n ⟨c64, 23, Go.Proofs.Try.f64.results.toList, o64⟩ [a0] H k =
  p.len a0 fun t6 =>
  p.make 4 56 [(.sc (.string ⟨#[]⟩)), .nl, (.sc (.int .i64 0)), (.sc (.bool false))] t6 t6 H fun t7 H =>
  f64_L0 p n  k n [(0, a0), (1, (.sc undef)), (2, .nl), (3, t7), (4, (.sc (.int .i64 0))), (5, a0), (6, t6), (7, t7), (8, (.sc undef)), (9, (.sc undef)), (10, (.sc undef)), (11, (.sc undef)), (12, (.sc undef)), (13, (.sc undef)), (14, (.sc undef)), (15, (.sc undef)), (16, (.sc undef)), (17, (.sc undef)), (18, (.sc undef)), (19, (.sc undef)), (20, (.sc undef)), (21, (.sc undef)), (22, (.sc undef))] H := by kernel_rfl
theorem f64_body (p : Pr β) (n : Nat) (a0 : AV) (H : Heap) (k : AV → Heap → Option β) : evalBody ti0 p n ⟨c64, 23, Go.Proofs.Try.f64.results.toList, o64⟩ [a0] H k = f64 p n a0 H k := by
  rw [f64_raw]
  simp only [f64_l0_eq]
  rfl

/-! 115 loop.example/g00480/laws.toOut -/
noncomputable def f115 (p : Pr β) (n : Nat) (a0 : AV) (H : Heap) (k : AV → Heap → Option β) : Option β :=
  p.box a0 H fun t1 H =>
  p.new [(.sc (.int .i64 0)), .nl, .nl] H fun t2 H =>
  p.new [(.sc (.int .i64 0)), .nl, .nl] H fun t3 H =>
  p.fadr 0 t1 fun t4 =>
  p.load false 1 t4 H fun t5 =>
  p.fadr 0 t3 fun t6 =>
  p.store 1 t6 t5 H fun H =>
  p.fadr 1 t1 fun t7 =>
  p.load false 1 t7 H fun t8 =>
  p.call 86 (.fn 127 [] []) [t8] H fun t9 H =>
  p.fadr 1 t3 fun t10 =>
  p.store 1 t10 t9 H fun H =>
  p.fadr 2 t1 fun t11 =>
  p.load false 1 t11 H fun t12 =>
  p.call 66 (.fn 64 [] []) [t12] H fun t13 H =>
  p.fadr 2 t3 fun t14 =>
  p.store 1 t14 t13 H fun H =>
  p.load true 3 t3 H fun t15 =>
  p.store 3 t2 t15 H fun H =>
  p.load true 3 t2 H fun r0 =>
  k r0 H
theorem f115_body (p : Pr β) (n : Nat) (a0 : AV) (H : Heap) (k : AV → Heap → Option β) : evalBody ti0 p n ⟨c115, 16, Go.Proofs.Try.f115.results.toList, o115⟩ [a0] H k = f115 p n a0 H k := by kernel_rfl

/-! 69 loop.example/g00480/laws.toIntS -/
noncomputable def f69_l0 (p : Pr β) (n : Nat)  (k : AV → Heap → Option β) : Nat → AV → AV → AV → Heap → Option β
  | 0, _, _, _, _ => none
  | m + 1, t0, t3, t4, H => p.len t0 fun t10 =>
      p.bin .lss t4 t10 fun t11 =>
      p.cond t11
      (p.iadr 1 t0 t4 fun t18 =>
      p.load false 1 t18 H fun t19 =>
      p.iadr 1 t3 t4 fun t20 =>
      p.store 1 t20 t19 H fun H =>
      p.bin .add t4 (.sc (.int .i64 1)) fun t13 =>
      f69_l0 p n  k m t0 t3 t13 H)
      (k t3 H)
noncomputable def f69 (p : Pr β) (n : Nat) (a0 : AV) (H : Heap) (k : AV → Heap → Option β) : Option β :=
  p.len a0 fun t6 =>
  p.make 1 8 [(.sc (.int .i64 0))] t6 t6 H fun t7 H =>
  f69_l0 p n  k n a0 t7 (.sc (.int .i64 0)) H
noncomputable def f69_L0 (p : Pr β) (n : Nat)  (k : AV → Heap → Option β) (m : Nat) (tm : Tm) (H : Heap) : Option β :=
  iterC 22 (fun tm H k => evalCode ti0 p o69 22 n (cd c69 [1, 1, 0, 1, 0, 0]) tm H k) (blkK 0 (seqK (fun tm H => evalCode ti0 p o69 22 n (cd c69 [1, 1, 1]) tm H (endK ti0 p Go.Proofs.Try.f69.results.toList k)) (endK ti0 p Go.Proofs.Try.f69.results.toList k))) m tm H
theorem f69_L0_step (p : Pr β) (n : Nat)  (k : AV → Heap → Option β) (m0 : Nat) (t0 t1 t2 t3 t4 t5 t6 t7 t8 t9 t10 t11 t12 t13 t14 t15 t16 t17 t18 t19 t20 t21 : AV) (H : Heap) : f69_L0 p n  k (m0 + 1) [(0, t0), (1, t1), (2, t2), (3, t3), (4, t4), (5, t5), (6, t6), (7, t7), (8, t8), (9, t9), (10, t10), (11, t11), (12, t12), (13, t13), (14, t14), (15, t15), (16, t16), (17, t17), (18, t18), (19, t19), (20, t20), (21, t21)] H =
  p.len t0 fun t10 =>
  p.bin .lss t4 t10 fun t11 =>
  p.cond t11
  (p.iadr 1 t0 t4 fun t18 =>
  p.load false 1 t18 H fun t19 =>
  p.iadr 1 t3 t4 fun t20 =>
  p.store 1 t20 t19 H fun H =>
  p.bin .add t4 (.sc (.int .i64 1)) fun t13 =>
  f69_L0 p n  k m0 [(0, t0), (1, t1), (2, t2), (3, t3), (4, t13), (5, t5), (6, t6), (7, t7), (8, t4), (9, t0), (10, t10), (11, t11), (12, t4), (13, t13), (14, t3), (15, t4), (16, t0), (17, t4), (18, t18), (19, t19), (20, t20), (21, t21)] H)
  (k t3 H) := by kernel_rfl
theorem f69_l0_eq (p : Pr β) (n : Nat)  (k : AV → Heap → Option β)   (m0 : Nat) : ∀ (t0 t1 t2 t3 t4 t5 t6 t7 t8 t9 t10 t11 t12 t13 t14 t15 t16 t17 t18 t19 t20 t21 : AV) (H : Heap), f69_L0 p n  k m0 [(0, t0), (1, t1), (2, t2), (3, t3), (4, t4), (5, t5), (6, t6), (7, t7), (8, t8), (9, t9), (10, t10), (11, t11), (12, t12), (13, t13), (14, t14), (15, t15), (16, t16), (17, t17), (18, t18), (19, t19), (20, t20), (21, t21)] H = f69_l0 p n  k m0 t0 t3 t4 H := by
  induction m0 with
  | zero => intros; rfl
  | succ m0 ih =>
    intro t0 t1 t2 t3 t4 t5 t6 t7 t8 t9 t10 t11 t12 t13 t14 t15 t16 t17 t18 t19 t20 t21 H
    rw [f69_L0_step]
    simp only [ih]
    rfl
theorem f69_raw (p : Pr β) (n : Nat) (a0 : AV) (H : Heap) (k : AV → Heap → Option β) : evalBody ti0 p n ⟨c69, 22, Go.Proofs.Try.f69.results.toList, o69⟩ [a0] H k =
  p.len a0 fun t6 =>
  p.make 1 8 [(.sc (.int .i64 0))] t6 t6 H fun t7 H =>
  f69_L0 p n  k n [(0, a0), (1, (.sc undef)), (2, .nl), (3, t7), (4, (.sc (.int .i64 0))), (5, a0), (6, t6), (7, t7), (8, (.sc undef)), (9, (.sc undef)), (10, (.sc undef)), (11, (.sc undef)), (12, (.sc undef)), (13, (.sc undef)), (14, (.sc undef)), (15, (.sc undef)), (16, (.sc undef)), (17, (.sc undef)), (18, (.sc undef)), (19, (.sc undef)), (20, (.sc undef)), (21, (.sc undef))] H := by kernel_rfl
theorem f69_body (p : Pr β) (n : Nat) (a0 : AV) (H : Heap) (k : AV → Heap → Option β) : evalBody ti0 p n ⟨c69, 22, Go.Proofs.Try.f69.results.toList, o69⟩ [a0] H k = f69 p n a0 H k := by
  rw [f69_raw]
  simp only [f69_l0_eq]
  rfl

/-! 87 loop.example/g00480/laws.toSess -/
noncomputable def f87 (p : Pr β) (n : Nat) (a0 : AV) (H : Heap) (k : AV → Heap → Option β) : Option β :=
  p.box a0 H fun t1 H =>
  p.new [(.sc (.string ⟨#[]⟩)), (.sc (.int .i64 0)), (.sc (.bool false)), (.sc (.int .i64 0)), (.sc (.int .i64 0)), (.sc (.int .i64 0)), .nl, .nl, .nl] H fun t2 H =>
  p.new [(.sc (.string ⟨#[]⟩)), (.sc (.int .i64 0)), (.sc (.bool false)), (.sc (.int .i64 0)), (.sc (.int .i64 0)), (.sc (.int .i64 0)), .nl, .nl, .nl] H fun t3 H =>
  p.fadr 0 t1 fun t4 =>
  p.load false 1 t4 H fun t5 =>
  p.fadr 0 t3 fun t6 =>
  p.store 1 t6 t5 H fun H =>
  p.fadr 1 t1 fun t7 =>
  p.load false 1 t7 H fun t8 =>
  p.fadr 1 t3 fun t9 =>
  p.store 1 t9 t8 H fun H =>
  p.fadr 2 t1 fun t10 =>
  p.load false 1 t10 H fun t11 =>
  p.fadr 2 t3 fun t12 =>
  p.store 1 t12 t11 H fun H =>
  p.fadr 3 t1 fun t13 =>
  p.load false 1 t13 H fun t14 =>
  p.fadr 3 t3 fun t15 =>
  p.store 1 t15 t14 H fun H =>
  p.fadr 4 t1 fun t16 =>
  p.load false 1 t16 H fun t17 =>
  p.fadr 4 t3 fun t18 =>
  p.store 1 t18 t17 H fun H =>
  p.fadr 5 t1 fun t19 =>
  p.load true 3 t19 H fun t20 =>
  p.call 88 (.fn 115 [] []) [t20] H fun t21 H =>
  p.fadr 5 t3 fun t22 =>
  p.store 3 t22 t21 H fun H =>
  p.fadr 8 t1 fun t23 =>
  p.load false 1 t23 H fun t24 =>
  p.call 53 (.fn 69 [] []) [t24] H fun t25 H =>
  p.fadr 8 t3 fun t26 =>
  p.store 1 t26 t25 H fun H =>
  p.load true 9 t3 H fun t27 =>
  p.store 9 t2 t27 H fun H =>
  p.load true 9 t2 H fun r0 =>
  k r0 H
theorem f87_body (p : Pr β) (n : Nat) (a0 : AV) (H : Heap) (k : AV → Heap → Option β) : evalBody ti0 p n ⟨c87, 28, Go.Proofs.Try.f87.results.toList, o87⟩ [a0] H k = f87 p n a0 H k := by kernel_rfl

/-! 42 loop.example/g00480/laws.toSessS -/
noncomputable def f42_l0 (p : Pr β) (n : Nat)  (k : AV → Heap → Option β) : Nat → AV → AV → AV → Heap → Option β
  | 0, _, _, _, _ => none
  | m + 1, t0, t3, t4, H => p.len t0 fun t10 =>
      p.bin .lss t4 t10 fun t11 =>
      p.cond t11
      (p.iadr 9 t0 t4 fun t18 =>
      p.load true 9 t18 H fun t19 =>
      p.call 90 (.fn 87 [] []) [t19] H fun t20 H =>
      p.iadr 9 t3 t4 fun t21 =>
      p.store 9 t21 t20 H fun H =>
      p.bin .add t4 (.sc (.int .i64 1)) fun t13 =>
      f42_l0 p n  k m t0 t3 t13 H)
      (k t3 H)
noncomputable def f42 (p : Pr β) (n : Nat) (a0 : AV) (H : Heap) (k : AV → Heap → Option β) : Option β :=
  p.len a0 fun t6 =>
  p.make 9 128 [(.sc (.string ⟨#[]⟩)), (.sc (.int .i64 0)), (.sc (.bool false)), (.sc (.int .i64 0)), (.sc (.int .i64 0)), (.sc (.int .i64 0)), .nl, .nl, .nl] t6 t6 H fun t7 H =>
  f42_l0 p n  k n a0 t7 (.sc (.int .i64 0)) H
noncomputable def f42_L0 (p : Pr β) (n : Nat)  (k : AV → Heap → Option β) (m : Nat) (tm : Tm) (H : Heap) : Option β :=
  iterC 23 (fun tm H k => evalCode ti0 p o42 23 n (cd c42 [1, 1, 0, 1, 0, 0]) tm H k) (blkK 0 (seqK (fun tm H => evalCode ti0 p o42 23 n (cd c42 [1, 1, 1]) tm H (endK ti0 p Go.Proofs.Try.f42.results.toList k)) (endK ti0 p Go.Proofs.Try.f42.results.toList k))) m tm H
theorem f42_L0_step (p : Pr β) (n : Nat)  (k : AV → Heap → Option β) (m0 : Nat) (t0 t1 t2 t3 t4 t5 t6 t7 t8 t9 t10 t11 t12 t13 t14 t15 t16 t17 t18 t19 t20 t21 t22 : AV) (H : Heap) : f42_L0 p n  k (m0 + 1) [(0, t0), (1, t1), (2, t2), (3, t3), (4, t4), (5, t5), (6, t6), (7, t7), (8, t8), (9, t9), (10, t10), (11, t11), (12, t12), (13, t13), (14, t14), (15, t15), (16, t16), (17, t17), (18, t18), (19, t19), (20, t20), (21, t21), (22, t22)] H =
  p.len t0 fun t10 =>
  p.bin .lss t4 t10 fun t11 =>
  p.cond t11
  (p.iadr 9 t0 t4 fun t18 =>
  p.load true 9 t18 H fun t19 =>
  p.call 90 (.fn 87 [] []) [t19] H fun t20 H =>
  p.iadr 9 t3 t4 fun t21 =>
  p.store 9 t21 t20 H fun H =>
  p.bin .add t4 (.sc (.int .i64 1)) fun t13 =>
  f42_L0 p n  k m0 [(0, t0), (1, t1), (2, t2), (3, t3), (4, t13), (5, t5), (6, t6), (7, t7), (8, t4), (9, t0), (10, t10), (11, t11), (12, t4), (13, t13), (14, t3), (15, t4), (16, t0), (17, t4), (18, t18), (19, t19), (20, t20), (21, t21), (22, t22)] H)
  (k t3 H) := by kernel_rfl
theorem f42_l0_eq (p : Pr β) (n : Nat)  (k : AV → Heap → Option β)   (m0 : Nat) : ∀ (t0 t1 t2 t3 t4 t5 t6 t7 t8 t9 t10 t11 t12 t13 t14 t15 t16 t17 t18 t19 t20 t21 t22 : AV) (H : Heap), f42_L0 p n  k m0 [(0, t0), (1, t1), (2, t2), (3, t3), (4, t4), (5, t5), (6, t6), (7, t7), (8, t8), (9, t9), (10, t10), (11, t11), (12, t12), (13, t13), (14, t14), (15, t15), (16, t16), (17, t17), (18, t18), (19, t19), (20, t20), (21, t21), (22, t22)] H = f42_l0 p n  k m0 t0 t3 t4 H := by
  induction m0 with
  | zero => intros; rfl
  | succ m0 ih =>
    intro t0 t1 t2 t3 t4 t5 t6 t7 t8 t9 t10 t11 t12 t13 t14 t15 t16 t17 t18 t19 t20 t21 t22 H
    rw [f42_L0_step]
    simp only [ih]
    rfl
theorem f42_raw (p : Pr β) (n : Nat) (a0 : AV) (H : Heap) (k : AV → Heap → Option β) : evalBody ti0 p n ⟨c42, 23, Go.Proofs.Try.f42.results.toList, o42⟩ [a0] H k =
  p.len a0 fun t6 =>
  p.make 9 128 [(.sc (.string ⟨#[]⟩)), (.sc (.int .i64 0)), (.sc (.bool false)), (.sc (.int .i64 0)), (.sc (.int .i64 0)), (.sc (.int .i64 0)), .nl, .nl, .nl] t6 t6 H fun t7 H =>
  f42_L0 p n  k n [(0, a0), (1, (.sc undef)), (2, .nl), (3, t7), (4, (.sc (.int .i64 0))), (5, a0), (6, t6), (7, t7), (8, (.sc undef)), (9, (.sc undef)), (10, (.sc undef)), (11, (.sc undef)), (12, (.sc undef)), (13, (.sc undef)), (14, (.sc undef)), (15, (.sc undef)), (16, (.sc undef)), (17, (.sc undef)), (18, (.sc undef)), (19, (.sc undef)), (20, (.sc undef)), (21, (.sc undef)), (22, (.sc undef))] H := by kernel_rfl
theorem f42_body (p : Pr β) (n : Nat) (a0 : AV) (H : Heap) (k : AV → Heap → Option β) : evalBody ti0 p n ⟨c42, 23, Go.Proofs.Try.f42.results.toList, o42⟩ [a0] H k = f42 p n a0 H k := by
  rw [f42_raw]
  simp only [f42_l0_eq]
  rfl

/-! 13 loop.example/g00480/laws.toStripe -/
noncomputable def f13 (p : Pr β) (n : Nat) (a0 : AV) (H : Heap) (k : AV → Heap → Option β) : Option β :=
  p.box a0 H fun t1 H =>
  p.new [(.sc (.int .i64 0)), .nl] H fun t2 H =>
  p.new [(.sc (.int .i64 0)), .nl] H fun t3 H =>
  p.fadr 0 t1 fun t4 =>
  p.load false 1 t4 H fun t5 =>
  p.fadr 0 t3 fun t6 =>
  p.store 1 t6 t5 H fun H =>
  p.fadr 1 t1 fun t7 =>
  p.load false 1 t7 H fun t8 =>
  p.call 27 (.fn 42 [] []) [t8] H fun t9 H =>
  p.fadr 1 t3 fun t10 =>
  p.store 1 t10 t9 H fun H =>
  p.load true 2 t3 H fun t11 =>
  p.store 2 t2 t11 H fun H =>
  p.load true 2 t2 H fun r0 =>
  k r0 H
theorem f13_body (p : Pr β) (n : Nat) (a0 : AV) (H : Heap) (k : AV → Heap → Option β) : evalBody ti0 p n ⟨c13, 12, Go.Proofs.Try.f13.results.toList, o13⟩ [a0] H k = f13 p n a0 H k := by kernel_rfl

/-! 12 loop.example/g00480/spec.SessAt -/
noncomputable def f12_l0 (p : Pr β) (n : Nat)  (k : AV → Heap → Option β) : Nat → AV → AV → AV → Heap → Option β
  | 0, _, _, _, _ => none
  | m + 1, t1, t2, t5, H => p.fadr 1 t2 fun t7 =>
      p.load false 1 t7 H fun t8 =>
      p.len t8 fun t9 =>
      p.bin .lss t5 t9 fun t10 =>
      p.cond t10
      (p.fadr 1 t2 fun t13 =>
      p.load false 1 t13 H fun t14 =>
      p.iadr 9 t14 t5 fun t16 =>
      p.fadr 0 t16 fun t17 =>
      p.load false 1 t17 H fun t18 =>
      p.bin .eql t18 t1 fun t20 =>
      p.cond t20
      (k t5 H)
      (p.bin .add t5 (.sc (.int .i64 1)) fun t12 =>
      f12_l0 p n  k m t1 t2 t12 H))
      (k (.sc (.int .i64 (-1))) H)
noncomputable def f12 (p : Pr β) (n : Nat) (a0 a1 : AV) (H : Heap) (k : AV → Heap → Option β) : Option β :=
  p.box a0 H fun t2 H =>
  f12_l0 p n  k n a1 t2 (.sc (.int .i64 0)) H
noncomputable def f12_L0 (p : Pr β) (n : Nat)  (k : AV → Heap → Option β) (m : Nat) (tm : Tm) (H : Heap) : Option β :=
  iterC 22 (fun tm H k => evalCode ti0 p o12 22 n (cd c12 [1, 0, 1, 0, 0]) tm H k) (blkK 0 (seqK (fun tm H => evalCode ti0 p o12 22 n (cd c12 [1, 1]) tm H (endK ti0 p Go.Proofs.Try.f12.results.toList k)) (endK ti0 p Go.Proofs.Try.f12.results.toList k))) m tm H
theorem f12_L0_step (p : Pr β) (n : Nat)  (k : AV → Heap → Option β) (m0 : Nat) (t0 t1 t2 t3 t4 t5 t6 t7 t8 t9 t10 t11 t12 t13 t14 t15 t16 t17 t18 t19 t20 t21 : AV) (H : Heap) : f12_L0 p n  k (m0 + 1) [(0, t0), (1, t1), (2, t2), (3, t3), (4, t4), (5, t5), (6, t6), (7, t7), (8, t8), (9, t9), (10, t10), (11, t11), (12, t12), (13, t13), (14, t14), (15, t15), (16, t16), (17, t17), (18, t18), (19, t19), (20, t20), (21, t21)] H =
  p.fadr 1 t2 fun t7 =>
  p.load false 1 t7 H fun t8 =>
  p.len t8 fun t9 =>
  p.bin .lss t5 t9 fun t10 =>
  p.cond t10
  (p.fadr 1 t2 fun t13 =>
  p.load false 1 t13 H fun t14 =>
  p.iadr 9 t14 t5 fun t16 =>
  p.fadr 0 t16 fun t17 =>
  p.load false 1 t17 H fun t18 =>
  p.bin .eql t18 t1 fun t20 =>
  p.cond t20
  (k t5 H)
  (p.bin .add t5 (.sc (.int .i64 1)) fun t12 =>
  f12_L0 p n  k m0 [(0, t0), (1, t1), (2, t2), (3, t3), (4, t4), (5, t12), (6, t5), (7, t7), (8, t8), (9, t9), (10, t10), (11, t5), (12, t12), (13, t13), (14, t14), (15, t5), (16, t16), (17, t17), (18, t18), (19, t1), (20, t20), (21, t21)] H))
  (k (.sc (.int .i64 (-1))) H) := by kernel_rfl
theorem f12_l0_eq (p : Pr β) (n : Nat)  (k : AV → Heap → Option β)   (m0 : Nat) : ∀ (t0 t1 t2 t3 t4 t5 t6 t7 t8 t9 t10 t11 t12 t13 t14 t15 t16 t17 t18 t19 t20 t21 : AV) (H : Heap), f12_L0 p n  k m0 [(0, t0), (1, t1), (2, t2), (3, t3), (4, t4), (5, t5), (6, t6), (7, t7), (8, t8), (9, t9), (10, t10), (11, t11), (12, t12), (13, t13), (14, t14), (15, t15), (16, t16), (17, t17), (18, t18), (19, t19), (20, t20), (21, t21)] H = f12_l0 p n  k m0 t1 t2 t5 H := by
  induction m0 with
  | zero => intros; rfl
  | succ m0 ih =>
    intro t0 t1 t2 t3 t4 t5 t6 t7 t8 t9 t10 t11 t12 t13 t14 t15 t16 t17 t18 t19 t20 t21 H
    rw [f12_L0_step]
    simp only [ih]
    rfl
theorem f12_raw (p : Pr β) (n : Nat) (a0 a1 : AV) (H : Heap) (k : AV → Heap → Option β) : evalBody ti0 p n ⟨c12, 22, Go.Proofs.Try.f12.results.toList, o12⟩ [a0, a1] H k =
  p.box a0 H fun t2 H =>
  f12_L0 p n  k n [(0, a0), (1, a1), (2, t2), (3, (.sc undef)), (4, (.sc (.int .i64 0))), (5, (.sc (.int .i64 0))), (6, (.sc undef)), (7, (.sc undef)), (8, (.sc undef)), (9, (.sc undef)), (10, (.sc undef)), (11, (.sc undef)), (12, (.sc undef)), (13, (.sc undef)), (14, (.sc undef)), (15, (.sc undef)), (16, (.sc undef)), (17, (.sc undef)), (18, (.sc undef)), (19, (.sc undef)), (20, (.sc undef)), (21, (.sc undef))] H := by kernel_rfl
theorem f12_body (p : Pr β) (n : Nat) (a0 a1 : AV) (H : Heap) (k : AV → Heap → Option β) : evalBody ti0 p n ⟨c12, 22, Go.Proofs.Try.f12.results.toList, o12⟩ [a0, a1] H k = f12 p n a0 a1 H k := by
  rw [f12_raw]
  simp only [f12_l0_eq]
  rfl

/-! 44 loop.example/g00480/impl.SessAt$1 -/
noncomputable def f44 (p : Pr β) (n : Nat) (a0 a1 : AV) (H : Heap) (k : AV → Heap → Option β) : Option β :=
  p.box a0 H fun t2 H =>
  p.fadr 0 t2 fun t4 =>
  p.load false 1 t4 H fun t5 =>
  p.load false 1 a1 H fun t6 =>
  p.bin .eql t5 t6 fun t7 =>
  k t7 H
theorem f44_body (p : Pr β) (n : Nat) (a0 a1 : AV) (H : Heap) (k : AV → Heap → Option β) : evalBody ti0 p n ⟨c44, 8, Go.Proofs.Try.f44.results.toList, o44⟩ [a0, a1] H k = f44 p n a0 a1 H k := by kernel_rfl

/-! 43 slices.IndexFunc[[]loop.example/g00480/impl.Sess,loop.example/g00480/impl.Sess] -/
noncomputable def f43_l0 (p : Pr β) (n : Nat)  (k : AV → Heap → Option β) : Nat → AV → AV → AV → AV → Heap → Option β
  | 0, _, _, _, _, _ => none
  | m + 1, t0, t1, t7, t8, H => p.bin .lss t8 t7 fun t9 =>
      p.cond t9
      (p.iadr 9 t0 t8 fun t14 =>
      p.load true 9 t14 H fun t15 =>
      p.call 4 t1 [t15] H fun t16 H =>
      p.cond t16
      (k t8 H)
      (p.bin .add t8 (.sc (.int .i64 1)) fun t18 =>
      f43_l0 p n  k m t0 t1 t7 t18 H))
      (k (.sc (.int .i64 (-1))) H)
noncomputable def f43 (p : Pr β) (n : Nat) (a0 a1 : AV) (H : Heap) (k : AV → Heap → Option β) : Option β :=
  p.len a0 fun t7 =>
  f43_l0 p n  k n a0 a1 t7 (.sc (.int .i64 0)) H
noncomputable def f43_L0 (p : Pr β) (n : Nat)  (k : AV → Heap → Option β) (m : Nat) (tm : Tm) (H : Heap) : Option β :=
  iterC 19 (fun tm H k => evalCode ti0 p o43 19 n (cd c43 [1, 0, 1, 0, 0]) tm H k) (blkK 0 (seqK (fun tm H => evalCode ti0 p o43 19 n (cd c43 [1, 1]) tm H (endK ti0 p Go.Proofs.Try.f43.results.toList k)) (endK ti0 p Go.Proofs.Try.f43.results.toList k))) m tm H
theorem f43_L0_step (p : Pr β) (n : Nat)  (k : AV → Heap → Option β) (m0 : Nat) (t0 t1 t2 t3 t4 t5 t6 t7 t8 t9 t10 t11 t12 t13 t14 t15 t16 t17 t18 : AV) (H : Heap) : f43_L0 p n  k (m0 + 1) [(0, t0), (1, t1), (2, t2), (3, t3), (4, t4), (5, t5), (6, t6), (7, t7), (8, t8), (9, t9), (10, t10), (11, t11), (12, t12), (13, t13), (14, t14), (15, t15), (16, t16), (17, t17), (18, t18)] H =
  p.bin .lss t8 t7 fun t9 =>
  p.cond t9
  (p.iadr 9 t0 t8 fun t14 =>
  p.load true 9 t14 H fun t15 =>
  p.call 4 t1 [t15] H fun t16 H =>
  p.cond t16
  (k t8 H)
  (p.bin .add t8 (.sc (.int .i64 1)) fun t18 =>
  f43_L0 p n  k m0 [(0, t0), (1, t1), (2, t2), (3, t3), (4, t4), (5, t8), (6, t6), (7, t7), (8, t18), (9, t9), (10, t8), (11, t1), (12, t0), (13, t8), (14, t14), (15, t15), (16, t16), (17, t17), (18, t18)] H))
  (k (.sc (.int .i64 (-1))) H) := by kernel_rfl
theorem f43_l0_eq (p : Pr β) (n : Nat)  (k : AV → Heap → Option β)   (m0 : Nat) : ∀ (t0 t1 t2 t3 t4 t5 t6 t7 t8 t9 t10 t11 t12 t13 t14 t15 t16 t17 t18 : AV) (H : Heap), f43_L0 p n  k m0 [(0, t0), (1, t1), (2, t2), (3, t3), (4, t4), (5, t5), (6, t6), (7, t7), (8, t8), (9, t9), (10, t10), (11, t11), (12, t12), (13, t13), (14, t14), (15, t15), (16, t16), (17, t17), (18, t18)] H = f43_l0 p n  k m0 t0 t1 t7 t8 H := by
  induction m0 with
  | zero => intros; rfl
  | succ m0 ih =>
    intro t0 t1 t2 t3 t4 t5 t6 t7 t8 t9 t10 t11 t12 t13 t14 t15 t16 t17 t18 H
    rw [f43_L0_step]
    simp only [ih]
    rfl
theorem f43_raw (p : Pr β) (n : Nat) (a0 a1 : AV) (H : Heap) (k : AV → Heap → Option β) : evalBody ti0 p n ⟨c43, 19, Go.Proofs.Try.f43.results.toList, o43⟩ [a0, a1] H k =
  p.len a0 fun t7 =>
  f43_L0 p n  k n [(0, a0), (1, a1), (2, (.sc undef)), (3, (.sc undef)), (4, (.sc (.int .i64 0))), (5, (.sc undef)), (6, a0), (7, t7), (8, (.sc (.int .i64 0))), (9, (.sc undef)), (10, (.sc undef)), (11, (.sc undef)), (12, (.sc undef)), (13, (.sc undef)), (14, (.sc undef)), (15, (.sc undef)), (16, (.sc undef)), (17, (.sc undef)), (18, (.sc undef))] H := by kernel_rfl
theorem f43_body (p : Pr β) (n : Nat) (a0 a1 : AV) (H : Heap) (k : AV → Heap → Option β) : evalBody ti0 p n ⟨c43, 19, Go.Proofs.Try.f43.results.toList, o43⟩ [a0, a1] H k = f43 p n a0 a1 H k := by
  rw [f43_raw]
  simp only [f43_l0_eq]
  rfl

/-! 14 loop.example/g00480/impl.SessAt -/
noncomputable def f14 (p : Pr β) (n : Nat) (a0 a1 : AV) (H : Heap) (k : AV → Heap → Option β) : Option β :=
  p.box a0 H fun t2 H =>
  p.box a1 H fun t3 H =>
  p.fadr 1 t2 fun t5 =>
  p.load false 1 t5 H fun t6 =>
  p.call 3 (.fn 43 [] []) [t6, (.fn 44 [] [t3])] H fun t8 H =>
  k t8 H
theorem f14_body (p : Pr β) (n : Nat) (a0 a1 : AV) (H : Heap) (k : AV → Heap → Option β) : evalBody ti0 p n ⟨c14, 9, Go.Proofs.Try.f14.results.toList, o14⟩ [a0, a1] H k = f14 p n a0 a1 H k := by kernel_rfl

/-! 57 loop.example/g00480/laws.eqByteS -/
noncomputable def f57_l0 (p : Pr β) (n : Nat)  (k : AV → Heap → Option β) : Nat → AV → AV → AV → Heap → Option β
  | 0, _, _, _, _ => none
  | m + 1, t0, t1, t5, H => p.len t0 fun t13 =>
      p.bin .lss t5 t13 fun t14 =>
      p.cond t14
      (p.iadr 1 t0 t5 fun t19 =>
      p.load false 1 t19 H fun t20 =>
      p.iadr 1 t1 t5 fun t23 =>
      p.load false 1 t23 H fun t24 =>
      p.bin .neq t20 t24 fun t25 =>
      p.cond t25
      (k (.sc (.bool false)) H)
      (p.bin .add t5 (.sc (.int .i64 1)) fun t16 =>
      f57_l0 p n  k m t0 t1 t16 H))
      (k (.sc (.bool true)) H)
noncomputable def f57 (p : Pr β) (n : Nat) (a0 a1 : AV) (H : Heap) (k : AV → Heap → Option β) : Option β :=
  p.len a0 fun t7 =>
  p.len a1 fun t9 =>
  p.bin .neq t7 t9 fun t10 =>
  p.cond t10
  (k (.sc (.bool false)) H)
  (f57_l0 p n  k n a0 a1 (.sc (.int .i64 0)) H)
noncomputable def f57_L0 (p : Pr β) (n : Nat)  (k : AV → Heap → Option β) (m : Nat) (tm : Tm) (H : Heap) : Option β :=
  iterC 26 (fun tm H k => evalCode ti0 p o57 26 n (cd c57 [1, 1, 0, 1, 0, 0]) tm H k) (blkK 0 (seqK (fun tm H => evalCode ti0 p o57 26 n (cd c57 [1, 1, 1]) tm H (endK ti0 p Go.Proofs.Try.f57.results.toList k)) (endK ti0 p Go.Proofs.Try.f57.results.toList k))) m tm H
theorem f57_L0_step (p : Pr β) (n : Nat)  (k : AV → Heap → Option β) (m0 : Nat) (t0 t1 t2 t3 t4 t5 t6 t7 t8 t9 t10 t11 t12 t13 t14 t15 t16 t17 t18 t19 t20 t21 t22 t23 t24 t25 : AV) (H : Heap) : f57_L0 p n  k (m0 + 1) [(0, t0), (1, t1), (2, t2), (3, t3), (4, t4), (5, t5), (6, t6), (7, t7), (8, t8), (9, t9), (10, t10), (11, t11), (12, t12), (13, t13), (14, t14), (15, t15), (16, t16), (17, t17), (18, t18), (19, t19), (20, t20), (21, t21), (22, t22), (23, t23), (24, t24), (25, t25)] H =
  p.len t0 fun t13 =>
  p.bin .lss t5 t13 fun t14 =>
  p.cond t14
  (p.iadr 1 t0 t5 fun t19 =>
  p.load false 1 t19 H fun t20 =>
  p.iadr 1 t1 t5 fun t23 =>
  p.load false 1 t23 H fun t24 =>
  p.bin .neq t20 t24 fun t25 =>
  p.cond t25
  (k (.sc (.bool false)) H)
  (p.bin .add t5 (.sc (.int .i64 1)) fun t16 =>
  f57_L0 p n  k m0 [(0, t0), (1, t1), (2, t2), (3, t3), (4, t4), (5, t16), (6, t6), (7, t7), (8, t8), (9, t9), (10, t10), (11, t5), (12, t0), (13, t13), (14, t14), (15, t5), (16, t16), (17, t0), (18, t5), (19, t19), (20, t20), (21, t1), (22, t5), (23, t23), (24, t24), (25, t25)] H))
  (k (.sc (.bool true)) H) := by kernel_rfl
theorem f57_l0_eq (p : Pr β) (n : Nat)  (k : AV → Heap → Option β)   (m0 : Nat) : ∀ (t0 t1 t2 t3 t4 t5 t6 t7 t8 t9 t10 t11 t12 t13 t14 t15 t16 t17 t18 t19 t20 t21 t22 t23 t24 t25 : AV) (H : Heap), f57_L0 p n  k m0 [(0, t0), (1, t1), (2, t2), (3, t3), (4, t4), (5, t5), (6, t6), (7, t7), (8, t8), (9, t9), (10, t10), (11, t11), (12, t12), (13, t13), (14, t14), (15, t15), (16, t16), (17, t17), (18, t18), (19, t19), (20, t20), (21, t21), (22, t22), (23, t23), (24, t24), (25, t25)] H = f57_l0 p n  k m0 t0 t1 t5 H := by
  induction m0 with
  | zero => intros; rfl
  | succ m0 ih =>
    intro t0 t1 t2 t3 t4 t5 t6 t7 t8 t9 t10 t11 t12 t13 t14 t15 t16 t17 t18 t19 t20 t21 t22 t23 t24 t25 H
    rw [f57_L0_step]
    simp only [ih]
    rfl
theorem f57_raw (p : Pr β) (n : Nat) (a0 a1 : AV) (H : Heap) (k : AV → Heap → Option β) : evalBody ti0 p n ⟨c57, 26, Go.Proofs.Try.f57.results.toList, o57⟩ [a0, a1] H k =
  p.len a0 fun t7 =>
  p.len a1 fun t9 =>
  p.bin .neq t7 t9 fun t10 =>
  p.cond t10
  (k (.sc (.bool false)) H)
  (f57_L0 p n  k n [(0, a0), (1, a1), (2, (.sc undef)), (3, (.sc undef)), (4, (.sc (.bool false))), (5, (.sc (.int .i64 0))), (6, a0), (7, t7), (8, a1), (9, t9), (10, t10), (11, (.sc undef)), (12, (.sc undef)), (13, (.sc undef)), (14, (.sc undef)), (15, (.sc undef)), (16, (.sc undef)), (17, (.sc undef)), (18, (.sc undef)), (19, (.sc undef)), (20, (.sc undef)), (21, (.sc undef)), (22, (.sc undef)), (23, (.sc undef)), (24, (.sc undef)), (25, (.sc undef))] H) := by kernel_rfl
theorem f57_body (p : Pr β) (n : Nat) (a0 a1 : AV) (H : Heap) (k : AV → Heap → Option β) : evalBody ti0 p n ⟨c57, 26, Go.Proofs.Try.f57.results.toList, o57⟩ [a0, a1] H k = f57 p n a0 a1 H k := by
  rw [f57_raw]
  simp only [f57_l0_eq]
  rfl

/-! 56 loop.example/g00480/laws.eqMsg -/
noncomputable def f56 (p : Pr β) (n : Nat) (a0 a1 : AV) (H : Heap) (k : AV → Heap → Option β) : Option β :=
  p.box a0 H fun t2 H =>
  p.box a1 H fun t3 H =>
  p.fadr 0 t2 fun t5 =>
  p.load false 1 t5 H fun t6 =>
  p.fadr 0 t3 fun t7 =>
  p.load false 1 t7 H fun t8 =>
  p.bin .neq t6 t8 fun t9 =>
  p.cond t9
  (k (.sc (.bool false)) H)
  (p.fadr 1 t2 fun t10 =>
  p.load false 1 t10 H fun t11 =>
  p.fadr 1 t3 fun t12 =>
  p.load false 1 t12 H fun t13 =>
  p.call 4 (.fn 57 [] []) [t11, t13] H fun t14 H =>
  p.un .not t14 fun t15 =>
  p.cond t15
  (k (.sc (.bool false)) H)
  (p.fadr 2 t2 fun t16 =>
  p.load false 1 t16 H fun t17 =>
  p.fadr 2 t3 fun t18 =>
  p.load false 1 t18 H fun t19 =>
  p.bin .neq t17 t19 fun t20 =>
  p.cond t20
  (k (.sc (.bool false)) H)
  (p.fadr 3 t2 fun t21 =>
  p.load false 1 t21 H fun t22 =>
  p.fadr 3 t3 fun t23 =>
  p.load false 1 t23 H fun t24 =>
  p.binB .neq t22 t24 fun t25 =>
  p.cond t25
  (k (.sc (.bool false)) H)
  (k (.sc (.bool true)) H))))
theorem f56_body (p : Pr β) (n : Nat) (a0 a1 : AV) (H : Heap) (k : AV → Heap → Option β) : evalBody ti0 p n ⟨c56, 26, Go.Proofs.Try.f56.results.toList, o56⟩ [a0, a1] H k = f56 p n a0 a1 H k := by kernel_rfl

/-! 135 loop.example/g00480/laws.eqFlight -/
noncomputable def f135 (p : Pr β) (n : Nat) (a0 a1 : AV) (H : Heap) (k : AV → Heap → Option β) : Option β :=
  p.box a0 H fun t2 H =>
  p.box a1 H fun t3 H =>
  p.fadr 0 t2 fun t5 =>
  p.load false 1 t5 H fun t6 =>
  p.fadr 0 t3 fun t7 =>
  p.load false 1 t7 H fun t8 =>
  p.bin .neq t6 t8 fun t9 =>
  p.cond t9
  (k (.sc (.bool false)) H)
  (p.fadr 1 t2 fun t10 =>
  p.load true 4 t10 H fun t11 =>
  p.fadr 1 t3 fun t12 =>
  p.load true 4 t12 H fun t13 =>
  p.call 4 (.fn 56 [] []) [t11, t13] H fun t14 H =>
  p.un .not t14 fun t15 =>
  p.cond t15
  (k (.sc (.bool false)) H)
  (p.fadr 5 t2 fun t16 =>
  p.load false 1 t16 H fun t17 =>
  p.fadr 5 t3 fun t18 =>
  p.load false 1 t18 H fun t19 =>
  p.bin .neq t17 t19 fun t20 =>
  p.cond t20
  (k (.sc (.bool false)) H)
  (k (.sc (.bool true)) H)))
theorem f135_body (p : Pr β) (n : Nat) (a0 a1 : AV) (H : Heap) (k : AV → Heap → Option β) : evalBody ti0 p n ⟨c135, 21, Go.Proofs.Try.f135.results.toList, o135⟩ [a0, a1] H k = f135 p n a0 a1 H k := by kernel_rfl

/-! 128 loop.example/g00480/laws.eqFlightS -/
noncomputable def f128_l0 (p : Pr β) (n : Nat)  (k : AV → Heap → Option β) : Nat → AV → AV → AV → Heap → Option β
  | 0, _, _, _, _ => none
  | m + 1, t0, t1, t5, H => p.len t0 fun t13 =>
      p.bin .lss t5 t13 fun t14 =>
      p.cond t14
      (p.iadr 6 t0 t5 fun t19 =>
      p.load true 6 t19 H fun t20 =>
      p.iadr 6 t1 t5 fun t23 =>
      p.load true 6 t23 H fun t24 =>
      p.call 4 (.fn 135 [] []) [t20, t24] H fun t25 H =>
      p.un .not t25 fun t26 =>
      p.cond t26
      (k (.sc (.bool false)) H)
      (p.bin .add t5 (.sc (.int .i64 1)) fun t16 =>
      f128_l0 p n  k m t0 t1 t16 H))
      (k (.sc (.bool true)) H)
noncomputable def f128 (p : Pr β) (n : Nat) (a0 a1 : AV) (H : Heap) (k : AV → Heap → Option β) : Option β :=
  p.len a0 fun t7 =>
  p.len a1 fun t9 =>
  p.bin .neq t7 t9 fun t10 =>
  p.cond t10
  (k (.sc (.bool false)) H)
  (f128_l0 p n  k n a0 a1 (.sc (.int .i64 0)) H)
noncomputable def f128_L0 (p : Pr β) (n : Nat)  (k : AV → Heap → Option β) (m : Nat) (tm : Tm) (H : Heap) : Option β :=
  iterC 27 (fun tm H k => evalCode ti0 p o128 27 n (cd c128 [1, 1, 0, 1, 0, 0]) tm H k) (blkK 0 (seqK (fun tm H => evalCode ti0 p o128 27 n (cd c128 [1, 1, 1]) tm H (endK ti0 p Go.Proofs.Try.f128.results.toList k)) (endK ti0 p Go.Proofs.Try.f128.results.toList k))) m tm H
theorem f128_L0_step (p : Pr β) (n : Nat)  (k : AV → Heap → Option β) (m0 : Nat) (t0 t1 t2 t3 t4 t5 t6 t7 t8 t9 t10 t11 t12 t13 t14 t15 t16 t17 t18 t19 t20 t21 t22 t23 t24 t25 t26 : AV) (H : Heap) : f128_L0 p n  k (m0 + 1) [(0, t0), (1, t1), (2, t2), (3, t3), (4, t4), (5, t5), (6, t6), (7, t7), (8, t8), (9, t9), (10, t10), (11, t11), (12, t12), (13, t13), (14, t14), (15, t15), (16, t16), (17, t17), (18, t18), (19, t19), (20, t20), (21, t21), (22, t22), (23, t23), (24, t24), (25, t25), (26, t26)] H =
  p.len t0 fun t13 =>
  p.bin .lss t5 t13 fun t14 =>
  p.cond t14
  (p.iadr 6 t0 t5 fun t19 =>
  p.load true 6 t19 H fun t20 =>
  p.iadr 6 t1 t5 fun t23 =>
  p.load true 6 t23 H fun t24 =>
  p.call 4 (.fn 135 [] []) [t20, t24] H fun t25 H =>
  p.un .not t25 fun t26 =>
  p.cond t26
  (k (.sc (.bool false)) H)
  (p.bin .add t5 (.sc (.int .i64 1)) fun t16 =>
  f128_L0 p n  k m0 [(0, t0), (1, t1), (2, t2), (3, t3), (4, t4), (5, t16), (6, t6), (7, t7), (8, t8), (9, t9), (10, t10), (11, t5), (12, t0), (13, t13), (14, t14), (15, t5), (16, t16), (17, t0), (18, t5), (19, t19), (20, t20), (21, t1), (22, t5), (23, t23), (24, t24), (25, t25), (26, t26)] H))
  (k (.sc (.bool true)) H) := by kernel_rfl
theorem f128_l0_eq (p : Pr β) (n : Nat)  (k : AV → Heap → Option β)   (m0 : Nat) : ∀ (t0 t1 t2 t3 t4 t5 t6 t7 t8 t9 t10 t11 t12 t13 t14 t15 t16 t17 t18 t19 t20 t21 t22 t23 t24 t25 t26 : AV) (H : Heap), f128_L0 p n  k m0 [(0, t0), (1, t1), (2, t2), (3, t3), (4, t4), (5, t5), (6, t6), (7, t7), (8, t8), (9, t9), (10, t10), (11, t11), (12, t12), (13, t13), (14, t14), (15, t15), (16, t16), (17, t17), (18, t18), (19, t19), (20, t20), (21, t21), (22, t22), (23, t23), (24, t24), (25, t25), (26, t26)] H = f128_l0 p n  k m0 t0 t1 t5 H := by
  induction m0 with
  | zero => intros; rfl
  | succ m0 ih =>
    intro t0 t1 t2 t3 t4 t5 t6 t7 t8 t9 t10 t11 t12 t13 t14 t15 t16 t17 t18 t19 t20 t21 t22 t23 t24 t25 t26 H
    rw [f128_L0_step]
    simp only [ih]
    rfl
theorem f128_raw (p : Pr β) (n : Nat) (a0 a1 : AV) (H : Heap) (k : AV → Heap → Option β) : evalBody ti0 p n ⟨c128, 27, Go.Proofs.Try.f128.results.toList, o128⟩ [a0, a1] H k =
  p.len a0 fun t7 =>
  p.len a1 fun t9 =>
  p.bin .neq t7 t9 fun t10 =>
  p.cond t10
  (k (.sc (.bool false)) H)
  (f128_L0 p n  k n [(0, a0), (1, a1), (2, (.sc undef)), (3, (.sc undef)), (4, (.sc (.bool false))), (5, (.sc (.int .i64 0))), (6, a0), (7, t7), (8, a1), (9, t9), (10, t10), (11, (.sc undef)), (12, (.sc undef)), (13, (.sc undef)), (14, (.sc undef)), (15, (.sc undef)), (16, (.sc undef)), (17, (.sc undef)), (18, (.sc undef)), (19, (.sc undef)), (20, (.sc undef)), (21, (.sc undef)), (22, (.sc undef)), (23, (.sc undef)), (24, (.sc undef)), (25, (.sc undef)), (26, (.sc undef))] H) := by kernel_rfl
theorem f128_body (p : Pr β) (n : Nat) (a0 a1 : AV) (H : Heap) (k : AV → Heap → Option β) : evalBody ti0 p n ⟨c128, 27, Go.Proofs.Try.f128.results.toList, o128⟩ [a0, a1] H k = f128 p n a0 a1 H k := by
  rw [f128_raw]
  simp only [f128_l0_eq]
  rfl

/-! 67 loop.example/g00480/laws.eqMsgS -/
noncomputable def f67_l0 (p : Pr β) (n : Nat)  (k : AV → Heap → Option β) : Nat → AV → AV → AV → Heap → Option β
  | 0, _, _, _, _ => none
  | m + 1, t0, t1, t5, H => p.len t0 fun t13 =>
      p.bin .lss t5 t13 fun t14 =>
      p.cond t14
      (p.iadr 4 t0 t5 fun t19 =>
      p.load true 4 t19 H fun t20 =>
      p.iadr 4 t1 t5 fun t23 =>
      p.load true 4 t23 H fun t24 =>
      p.call 4 (.fn 56 [] []) [t20, t24] H fun t25 H =>
      p.un .not t25 fun t26 =>
      p.cond t26
      (k (.sc (.bool false)) H)
      (p.bin .add t5 (.sc (.int .i64 1)) fun t16 =>
      f67_l0 p n  k m t0 t1 t16 H))
      (k (.sc (.bool true)) H)
noncomputable def f67 (p : Pr β) (n : Nat) (a0 a1 : AV) (H : Heap) (k : AV → Heap → Option β) : Option β :=
  p.len a0 fun t7 =>
  p.len a1 fun t9 =>
  p.bin .neq t7 t9 fun t10 =>
  p.cond t10
  (k (.sc (.bool false)) H)
  (f67_l0 p n  k n a0 a1 (.sc (.int .i64 0)) H)
noncomputable def f67_L0 (p : Pr β) (n : Nat)  (k : AV → Heap → Option β) (m : Nat) (tm : Tm) (H : Heap) : Option β :=
  iterC 27 (fun tm H k => evalCode ti0 p o67 27 n (cd c67 [1, 1, 0, 1, 0, 0]) tm H k) (blkK 0 (seqK (fun tm H => evalCode ti0 p o67 27 n (cd c67 [1, 1, 1]) tm H (endK ti0 p Go.Proofs.Try.f67.results.toList k)) (endK ti0 p Go.Proofs.Try.f67.results.toList k))) m tm H
theorem f67_L0_step (p : Pr β) (n : Nat)  (k : AV → Heap → Option β) (m0 : Nat) (t0 t1 t2 t3 t4 t5 t6 t7 t8 t9 t10 t11 t12 t13 t14 t15 t16 t17 t18 t19 t20 t21 t22 t23 t24 t25 t26 : AV) (H : Heap) : f67_L0 p n  k (m0 + 1) [(0, t0), (1, t1), (2, t2), (3, t3), (4, t4), (5, t5), (6, t6), (7, t7), (8, t8), (9, t9), (10, t10), (11, t11), (12, t12), (13, t13), (14, t14), (15, t15), (16, t16), (17, t17), (18, t18), (19, t19), (20, t20), (21, t21), (22, t22), (23, t23), (24, t24), (25, t25), (26, t26)] H =
  p.len t0 fun t13 =>
  p.bin .lss t5 t13 fun t14 =>
  p.cond t14
  (p.iadr 4 t0 t5 fun t19 =>
  p.load true 4 t19 H fun t20 =>
  p.iadr 4 t1 t5 fun t23 =>
  p.load true 4 t23 H fun t24 =>
  p.call 4 (.fn 56 [] []) [t20, t24] H fun t25 H =>
  p.un .not t25 fun t26 =>
  p.cond t26
  (k (.sc (.bool false)) H)
  (p.bin .add t5 (.sc (.int .i64 1)) fun t16 =>
  f67_L0 p n  k m0 [(0, t0), (1, t1), (2, t2), (3, t3), (4, t4), (5, t16), (6, t6), (7, t7), (8, t8), (9, t9), (10, t10), (11, t5), (12, t0), (13, t13), (14, t14), (15, t5), (16, t16), (17, t0), (18, t5), (19, t19), (20, t20), (21, t1), (22, t5), (23, t23), (24, t24), (25, t25), (26, t26)] H))
  (k (.sc (.bool true)) H) := by kernel_rfl
theorem f67_l0_eq (p : Pr β) (n : Nat)  (k : AV → Heap → Option β)   (m0 : Nat) : ∀ (t0 t1 t2 t3 t4 t5 t6 t7 t8 t9 t10 t11 t12 t13 t14 t15 t16 t17 t18 t19 t20 t21 t22 t23 t24 t25 t26 : AV) (H : Heap), f67_L0 p n  k m0 [(0, t0), (1, t1), (2, t2), (3, t3), (4, t4), (5, t5), (6, t6), (7, t7), (8, t8), (9, t9), (10, t10), (11, t11), (12, t12), (13, t13), (14, t14), (15, t15), (16, t16), (17, t17), (18, t18), (19, t19), (20, t20), (21, t21), (22, t22), (23, t23), (24, t24), (25, t25), (26, t26)] H = f67_l0 p n  k m0 t0 t1 t5 H := by
  induction m0 with
  | zero => intros; rfl
  | succ m0 ih =>
    intro t0 t1 t2 t3 t4 t5 t6 t7 t8 t9 t10 t11 t12 t13 t14 t15 t16 t17 t18 t19 t20 t21 t22 t23 t24 t25 t26 H
    rw [f67_L0_step]
    simp only [ih]
    rfl
theorem f67_raw (p : Pr β) (n : Nat) (a0 a1 : AV) (H : Heap) (k : AV → Heap → Option β) : evalBody ti0 p n ⟨c67, 27, Go.Proofs.Try.f67.results.toList, o67⟩ [a0, a1] H k =
  p.len a0 fun t7 =>
  p.len a1 fun t9 =>
  p.bin .neq t7 t9 fun t10 =>
  p.cond t10
  (k (.sc (.bool false)) H)
  (f67_L0 p n  k n [(0, a0), (1, a1), (2, (.sc undef)), (3, (.sc undef)), (4, (.sc (.bool false))), (5, (.sc (.int .i64 0))), (6, a0), (7, t7), (8, a1), (9, t9), (10, t10), (11, (.sc undef)), (12, (.sc undef)), (13, (.sc undef)), (14, (.sc undef)), (15, (.sc undef)), (16, (.sc undef)), (17, (.sc undef)), (18, (.sc undef)), (19, (.sc undef)), (20, (.sc undef)), (21, (.sc undef)), (22, (.sc undef)), (23, (.sc undef)), (24, (.sc undef)), (25, (.sc undef)), (26, (.sc undef))] H) := by kernel_rfl
theorem f67_body (p : Pr β) (n : Nat) (a0 a1 : AV) (H : Heap) (k : AV → Heap → Option β) : evalBody ti0 p n ⟨c67, 27, Go.Proofs.Try.f67.results.toList, o67⟩ [a0, a1] H k = f67 p n a0 a1 H k := by
  rw [f67_raw]
  simp only [f67_l0_eq]
  rfl

/-! 116 loop.example/g00480/laws.eqOut -/
noncomputable def f116 (p : Pr β) (n : Nat) (a0 a1 : AV) (H : Heap) (k : AV → Heap → Option β) : Option β :=
  p.box a0 H fun t2 H =>
  p.box a1 H fun t3 H =>
  p.fadr 0 t2 fun t5 =>
  p.load false 1 t5 H fun t6 =>
  p.fadr 0 t3 fun t7 =>
  p.load false 1 t7 H fun t8 =>
  p.bin .neq t6 t8 fun t9 =>
  p.cond t9
  (k (.sc (.bool false)) H)
  (p.fadr 1 t2 fun t10 =>
  p.load false 1 t10 H fun t11 =>
  p.fadr 1 t3 fun t12 =>
  p.load false 1 t12 H fun t13 =>
  p.call 4 (.fn 128 [] []) [t11, t13] H fun t14 H =>
  p.un .not t14 fun t15 =>
  p.cond t15
  (k (.sc (.bool false)) H)
  (p.fadr 2 t2 fun t16 =>
  p.load false 1 t16 H fun t17 =>
  p.fadr 2 t3 fun t18 =>
  p.load false 1 t18 H fun t19 =>
  p.call 4 (.fn 67 [] []) [t17, t19] H fun t20 H =>
  p.un .not t20 fun t21 =>
  p.cond t21
  (k (.sc (.bool false)) H)
  (k (.sc (.bool true)) H)))
theorem f116_body (p : Pr β) (n : Nat) (a0 a1 : AV) (H : Heap) (k : AV → Heap → Option β) : evalBody ti0 p n ⟨c116, 22, Go.Proofs.Try.f116.results.toList, o116⟩ [a0, a1] H k = f116 p n a0 a1 H k := by kernel_rfl

/-! 70 loop.example/g00480/laws.eqIntS -/
noncomputable def f70_l0 (p : Pr β) (n : Nat)  (k : AV → Heap → Option β) : Nat → AV → AV → AV → Heap → Option β
  | 0, _, _, _, _ => none
  | m + 1, t0, t1, t5, H => p.len t0 fun t13 =>
      p.bin .lss t5 t13 fun t14 =>
      p.cond t14
      (p.iadr 1 t0 t5 fun t19 =>
      p.load false 1 t19 H fun t20 =>
      p.iadr 1 t1 t5 fun t23 =>
      p.load false 1 t23 H fun t24 =>
      p.bin .neq t20 t24 fun t25 =>
      p.cond t25
      (k (.sc (.bool false)) H)
      (p.bin .add t5 (.sc (.int .i64 1)) fun t16 =>
      f70_l0 p n  k m t0 t1 t16 H))
      (k (.sc (.bool true)) H)
noncomputable def f70 (p : Pr β) (n : Nat) (a0 a1 : AV) (H : Heap) (k : AV → Heap → Option β) : Option β :=
  p.len a0 fun t7 =>
  p.len a1 fun t9 =>
  p.bin .neq t7 t9 fun t10 =>
  p.cond t10
  (k (.sc (.bool false)) H)
  (f70_l0 p n  k n a0 a1 (.sc (.int .i64 0)) H)
noncomputable def f70_L0 (p : Pr β) (n : Nat)  (k : AV → Heap → Option β) (m : Nat) (tm : Tm) (H : Heap) : Option β :=
  iterC 26 (fun tm H k => evalCode ti0 p o70 26 n (cd c70 [1, 1, 0, 1, 0, 0]) tm H k) (blkK 0 (seqK (fun tm H => evalCode ti0 p o70 26 n (cd c70 [1, 1, 1]) tm H (endK ti0 p Go.Proofs.Try.f70.results.toList k)) (endK ti0 p Go.Proofs.Try.f70.results.toList k))) m tm H
theorem f70_L0_step (p : Pr β) (n : Nat)  (k : AV → Heap → Option β) (m0 : Nat) (t0 t1 t2 t3 t4 t5 t6 t7 t8 t9 t10 t11 t12 t13 t14 t15 t16 t17 t18 t19 t20 t21 t22 t23 t24 t25 : AV) (H : Heap) : f70_L0 p n  k (m0 + 1) [(0, t0), (1, t1), (2, t2), (3, t3), (4, t4), (5, t5), (6, t6), (7, t7), (8, t8), (9, t9), (10, t10), (11, t11), (12, t12), (13, t13), (14, t14), (15, t15), (16, t16), (17, t17), (18, t18), (19, t19), (20, t20), (21, t21), (22, t22), (23, t23), (24, t24), (25, t25)] H =
  p.len t0 fun t13 =>
  p.bin .lss t5 t13 fun t14 =>
  p.cond t14
  (p.iadr 1 t0 t5 fun t19 =>
  p.load false 1 t19 H fun t20 =>
  p.iadr 1 t1 t5 fun t23 =>
  p.load false 1 t23 H fun t24 =>
  p.bin .neq t20 t24 fun t25 =>
  p.cond t25
  (k (.sc (.bool false)) H)
  (p.bin .add t5 (.sc (.int .i64 1)) fun t16 =>
  f70_L0 p n  k m0 [(0, t0), (1, t1), (2, t2), (3, t3), (4, t4), (5, t16), (6, t6), (7, t7), (8, t8), (9, t9), (10, t10), (11, t5), (12, t0), (13, t13), (14, t14), (15, t5), (16, t16), (17, t0), (18, t5), (19, t19), (20, t20), (21, t1), (22, t5), (23, t23), (24, t24), (25, t25)] H))
  (k (.sc (.bool true)) H) := by kernel_rfl
theorem f70_l0_eq (p : Pr β) (n : Nat)  (k : AV → Heap → Option β)   (m0 : Nat) : ∀ (t0 t1 t2 t3 t4 t5 t6 t7 t8 t9 t10 t11 t12 t13 t14 t15 t16 t17 t18 t19 t20 t21 t22 t23 t24 t25 : AV) (H : Heap), f70_L0 p n  k m0 [(0, t0), (1, t1), (2, t2), (3, t3), (4, t4), (5, t5), (6, t6), (7, t7), (8, t8), (9, t9), (10, t10), (11, t11), (12, t12), (13, t13), (14, t14), (15, t15), (16, t16), (17, t17), (18, t18), (19, t19), (20, t20), (21, t21), (22, t22), (23, t23), (24, t24), (25, t25)] H = f70_l0 p n  k m0 t0 t1 t5 H := by
  induction m0 with
  | zero => intros; rfl
  | succ m0 ih =>
    intro t0 t1 t2 t3 t4 t5 t6 t7 t8 t9 t10 t11 t12 t13 t14 t15 t16 t17 t18 t19 t20 t21 t22 t23 t24 t25 H
    rw [f70_L0_step]
    simp only [ih]
    rfl
theorem f70_raw (p : Pr β) (n : Nat) (a0 a1 : AV) (H : Heap) (k : AV → Heap → Option β) : evalBody ti0 p n ⟨c70, 26, Go.Proofs.Try.f70.results.toList, o70⟩ [a0, a1] H k =
  p.len a0 fun t7 =>
  p.len a1 fun t9 =>
  p.bin .neq t7 t9 fun t10 =>
  p.cond t10
  (k (.sc (.bool false)) H)
  (f70_L0 p n  k n [(0, a0), (1, a1), (2, (.sc undef)), (3, (.sc undef)), (4, (.sc (.bool false))), (5, (.sc (.int .i64 0))), (6, a0), (7, t7), (8, a1), (9, t9), (10, t10), (11, (.sc undef)), (12, (.sc undef)), (13, (.sc undef)), (14, (.sc undef)), (15, (.sc undef)), (16, (.sc undef)), (17, (.sc undef)), (18, (.sc undef)), (19, (.sc undef)), (20, (.sc undef)), (21, (.sc undef)), (22, (.sc undef)), (23, (.sc undef)), (24, (.sc undef)), (25, (.sc undef))] H) := by kernel_rfl
theorem f70_body (p : Pr β) (n : Nat) (a0 a1 : AV) (H : Heap) (k : AV → Heap → Option β) : evalBody ti0 p n ⟨c70, 26, Go.Proofs.Try.f70.results.toList, o70⟩ [a0, a1] H k = f70 p n a0 a1 H k := by
  rw [f70_raw]
  simp only [f70_l0_eq]
  rfl

/-! 88 loop.example/g00480/laws.eqSess -/
noncomputable def f88 (p : Pr β) (n : Nat) (a0 a1 : AV) (H : Heap) (k : AV → Heap → Option β) : Option β :=
  p.box a0 H fun t2 H =>
  p.box a1 H fun t3 H =>
  p.fadr 0 t2 fun t5 =>
  p.load false 1 t5 H fun t6 =>
  p.fadr 0 t3 fun t7 =>
  p.load false 1 t7 H fun t8 =>
  p.bin .neq t6 t8 fun t9 =>
  p.cond t9
  (k (.sc (.bool false)) H)
  (p.fadr 1 t2 fun t10 =>
  p.load false 1 t10 H fun t11 =>
  p.fadr 1 t3 fun t12 =>
  p.load false 1 t12 H fun t13 =>
  p.bin .neq t11 t13 fun t14 =>
  p.cond t14
  (k (.sc (.bool false)) H)
  (p.fadr 2 t2 fun t15 =>
  p.load false 1 t15 H fun t16 =>
  p.fadr 2 t3 fun t17 =>
  p.load false 1 t17 H fun t18 =>
  p.binB .neq t16 t18 fun t19 =>
  p.cond t19
  (k (.sc (.bool false)) H)
  (p.fadr 3 t2 fun t20 =>
  p.load false 1 t20 H fun t21 =>
  p.fadr 3 t3 fun t22 =>
  p.load false 1 t22 H fun t23 =>
  p.bin .neq t21 t23 fun t24 =>
  p.cond t24
  (k (.sc (.bool false)) H)
  (p.fadr 4 t2 fun t25 =>
  p.load false 1 t25 H fun t26 =>
  p.fadr 4 t3 fun t27 =>
  p.load false 1 t27 H fun t28 =>
  p.bin .neq t26 t28 fun t29 =>
  p.cond t29
  (k (.sc (.bool false)) H)
  (p.fadr 5 t2 fun t30 =>
  p.load true 3 t30 H fun t31 =>
  p.fadr 5 t3 fun t32 =>
  p.load true 3 t32 H fun t33 =>
  p.call 4 (.fn 116 [] []) [t31, t33] H fun t34 H =>
  p.un .not t34 fun t35 =>
  p.cond t35
  (k (.sc (.bool false)) H)
  (p.fadr 8 t2 fun t36 =>
  p.load false 1 t36 H fun t37 =>
  p.fadr 8 t3 fun t38 =>
  p.load false 1 t38 H fun t39 =>
  p.call 4 (.fn 70 [] []) [t37, t39] H fun t40 H =>
  p.un .not t40 fun t41 =>
  p.cond t41
  (k (.sc (.bool false)) H)
  (k (.sc (.bool true)) H)))))))
theorem f88_body (p : Pr β) (n : Nat) (a0 a1 : AV) (H : Heap) (k : AV → Heap → Option β) : evalBody ti0 p n ⟨c88, 42, Go.Proofs.Try.f88.results.toList, o88⟩ [a0, a1] H k = f88 p n a0 a1 H k := by kernel_rfl

/-! 45 loop.example/g00480/laws.eqSessS -/
noncomputable def f45_l0 (p : Pr β) (n : Nat)  (k : AV → Heap → Option β) : Nat → AV → AV → AV → Heap → Option β
  | 0, _, _, _, _ => none
  | m + 1, t0, t1, t5, H => p.len t0 fun t13 =>
      p.bin .lss t5 t13 fun t14 =>
      p.cond t14
      (p.iadr 9 t0 t5 fun t19 =>
      p.load true 9 t19 H fun t20 =>
      p.iadr 9 t1 t5 fun t23 =>
      p.load true 9 t23 H fun t24 =>
      p.call 4 (.fn 88 [] []) [t20, t24] H fun t25 H =>
      p.un .not t25 fun t26 =>
      p.cond t26
      (k (.sc (.bool false)) H)
      (p.bin .add t5 (.sc (.int .i64 1)) fun t16 =>
      f45_l0 p n  k m t0 t1 t16 H))
      (k (.sc (.bool true)) H)
noncomputable def f45 (p : Pr β) (n : Nat) (a0 a1 : AV) (H : Heap) (k : AV → Heap → Option β) : Option β :=
  p.len a0 fun t7 =>
  p.len a1 fun t9 =>
  p.bin .neq t7 t9 fun t10 =>
  p.cond t10
  (k (.sc (.bool false)) H)
  (f45_l0 p n  k n a0 a1 (.sc (.int .i64 0)) H)
noncomputable def f45_L0 (p : Pr β) (n : Nat)  (k : AV → Heap → Option β) (m : Nat) (tm : Tm) (H : Heap) : Option β :=
  iterC 27 (fun tm H k => evalCode ti0 p o45 27 n (cd c45 [1, 1, 0, 1, 0, 0]) tm H k) (blkK 0 (seqK (fun tm H => evalCode ti0 p o45 27 n (cd c45 [1, 1, 1]) tm H (endK ti0 p Go.Proofs.Try.f45.results.toList k)) (endK ti0 p Go.Proofs.Try.f45.results.toList k))) m tm H
theorem f45_L0_step (p : Pr β) (n : Nat)  (k : AV → Heap → Option β) (m0 : Nat) (t0 t1 t2 t3 t4 t5 t6 t7 t8 t9 t10 t11 t12 t13 t14 t15 t16 t17 t18 t19 t20 t21 t22 t23 t24 t25 t26 : AV) (H : Heap) : f45_L0 p n  k (m0 + 1) [(0, t0), (1, t1), (2, t2), (3, t3), (4, t4), (5, t5), (6, t6), (7, t7), (8, t8), (9, t9), (10, t10), (11, t11), (12, t12), (13, t13), (14, t14), (15, t15), (16, t16), (17, t17), (18, t18), (19, t19), (20, t20), (21, t21), (22, t22), (23, t23), (24, t24), (25, t25), (26, t26)] H =
  p.len t0 fun t13 =>
  p.bin .lss t5 t13 fun t14 =>
  p.cond t14
  (p.iadr 9 t0 t5 fun t19 =>
  p.load true 9 t19 H fun t20 =>
  p.iadr 9 t1 t5 fun t23 =>
  p.load true 9 t23 H fun t24 =>
  p.call 4 (.fn 88 [] []) [t20, t24] H fun t25 H =>
  p.un .not t25 fun t26 =>
  p.cond t26
  (k (.sc (.bool false)) H)
  (p.bin .add t5 (.sc (.int .i64 1)) fun t16 =>
  f45_L0 p n  k m0 [(0, t0), (1, t1), (2, t2), (3, t3), (4, t4), (5, t16), (6, t6), (7, t7), (8, t8), (9, t9), (10, t10), (11, t5), (12, t0), (13, t13), (14, t14), (15, t5), (16, t16), (17, t0), (18, t5), (19, t19), (20, t20), (21, t1), (22, t5), (23, t23), (24, t24), (25, t25), (26, t26)] H))
  (k (.sc (.bool true)) H) := by kernel_rfl
theorem f45_l0_eq (p : Pr β) (n : Nat)  (k : AV → Heap → Option β)   (m0 : Nat) : ∀ (t0 t1 t2 t3 t4 t5 t6 t7 t8 t9 t10 t11 t12 t13 t14 t15 t16 t17 t18 t19 t20 t21 t22 t23 t24 t25 t26 : AV) (H : Heap), f45_L0 p n  k m0 [(0, t0), (1, t1), (2, t2), (3, t3), (4, t4), (5, t5), (6, t6), (7, t7), (8, t8), (9, t9), (10, t10), (11, t11), (12, t12), (13, t13), (14, t14), (15, t15), (16, t16), (17, t17), (18, t18), (19, t19), (20, t20), (21, t21), (22, t22), (23, t23), (24, t24), (25, t25), (26, t26)] H = f45_l0 p n  k m0 t0 t1 t5 H := by
  induction m0 with
  | zero => intros; rfl
  | succ m0 ih =>
    intro t0 t1 t2 t3 t4 t5 t6 t7 t8 t9 t10 t11 t12 t13 t14 t15 t16 t17 t18 t19 t20 t21 t22 t23 t24 t25 t26 H
    rw [f45_L0_step]
    simp only [ih]
    rfl
theorem f45_raw (p : Pr β) (n : Nat) (a0 a1 : AV) (H : Heap) (k : AV → Heap → Option β) : evalBody ti0 p n ⟨c45, 27, Go.Proofs.Try.f45.results.toList, o45⟩ [a0, a1] H k =
  p.len a0 fun t7 =>
  p.len a1 fun t9 =>
  p.bin .neq t7 t9 fun t10 =>
  p.cond t10
  (k (.sc (.bool false)) H)
  (f45_L0 p n  k n [(0, a0), (1, a1), (2, (.sc undef)), (3, (.sc undef)), (4, (.sc (.bool false))), (5, (.sc (.int .i64 0))), (6, a0), (7, t7), (8, a1), (9, t9), (10, t10), (11, (.sc undef)), (12, (.sc undef)), (13, (.sc undef)), (14, (.sc undef)), (15, (.sc undef)), (16, (.sc undef)), (17, (.sc undef)), (18, (.sc undef)), (19, (.sc undef)), (20, (.sc undef)), (21, (.sc undef)), (22, (.sc undef)), (23, (.sc undef)), (24, (.sc undef)), (25, (.sc undef)), (26, (.sc undef))] H) := by kernel_rfl
theorem f45_body (p : Pr β) (n : Nat) (a0 a1 : AV) (H : Heap) (k : AV → Heap → Option β) : evalBody ti0 p n ⟨c45, 27, Go.Proofs.Try.f45.results.toList, o45⟩ [a0, a1] H k = f45 p n a0 a1 H k := by
  rw [f45_raw]
  simp only [f45_l0_eq]
  rfl

/-! 15 loop.example/g00480/laws.eqStripe -/
noncomputable def f15 (p : Pr β) (n : Nat) (a0 a1 : AV) (H : Heap) (k : AV → Heap → Option β) : Option β :=
  p.box a0 H fun t2 H =>
  p.box a1 H fun t3 H =>
  p.fadr 0 t2 fun t5 =>
  p.load false 1 t5 H fun t6 =>
  p.fadr 0 t3 fun t7 =>
  p.load false 1 t7 H fun t8 =>
  p.bin .neq t6 t8 fun t9 =>
  p.cond t9
  (k (.sc (.bool false)) H)
  (p.fadr 1 t2 fun t10 =>
  p.load false 1 t10 H fun t11 =>
  p.fadr 1 t3 fun t12 =>
  p.load false 1 t12 H fun t13 =>
  p.call 4 (.fn 45 [] []) [t11, t13] H fun t14 H =>
  p.un .not t14 fun t15 =>
  p.cond t15
  (k (.sc (.bool false)) H)
  (k (.sc (.bool true)) H))
theorem f15_body (p : Pr β) (n : Nat) (a0 a1 : AV) (H : Heap) (k : AV → Heap → Option β) : evalBody ti0 p n ⟨c15, 16, Go.Proofs.Try.f15.results.toList, o15⟩ [a0, a1] H k = f15 p n a0 a1 H k := by kernel_rfl

/-! 3 loop.example/g00480/laws.FnExactSessAt -/
noncomputable def f3 (p : Pr β) (n : Nat) (a0 a1 : AV) (H : Heap) (k : AV → Heap → Option β) : Option β :=
  p.box a0 H fun t2 H =>
  p.lenS a1 fun t10 =>
  p.bin .gtr t10 (.sc (.int .i64 1048576)) fun t11 =>
  p.cond t11
  (k (.sc (.bool true)) H)
  (p.load true 2 t2 H fun t12 =>
  p.call 3 (.fn 11 [] []) [t12, (.sc (.int .i64 1048576))] H fun t14 H =>
  p.bin .lss t14 (.sc (.int .i64 0)) fun t16 =>
  p.cond t16
  (k (.sc (.bool true)) H)
  (p.load true 2 t2 H fun t17 =>
  p.call 29 (.fn 13 [] []) [t17] H fun t18 H =>
  p.call 3 (.fn 12 [] []) [t18, a1] H fun t20 H =>
  p.load true 2 t2 H fun t21 =>
  p.call 29 (.fn 13 [] []) [t21] H fun t22 H =>
  p.new [(.sc (.int .i64 0)), .nl] H fun t7 H =>
  p.store 2 t7 t22 H fun H =>
  p.load true 2 t7 H fun t23 =>
  p.call 3 (.fn 14 [] []) [t23, a1] H fun t25 H =>
  p.bin .neq t25 t20 fun t28 =>
  p.cond t28
  (k (.sc (.bool false)) H)
  (p.load true 2 t7 H fun t29 =>
  p.load true 2 t2 H fun t30 =>
  p.call 29 (.fn 13 [] []) [t30] H fun t31 H =>
  p.call 4 (.fn 15 [] []) [t29, t31] H fun t32 H =>
  p.un .not t32 fun t33 =>
  p.cond t33
  (k (.sc (.bool false)) H)
  (k (.sc (.bool true)) H))))
theorem f3_body (p : Pr β) (n : Nat) (a0 a1 : AV) (H : Heap) (k : AV → Heap → Option β) : evalBody ti0 p n ⟨c3, 34, Go.Proofs.Try.f3.results.toList, o3⟩ [a0, a1] H k = f3 p n a0 a1 H k := by kernel_rfl

/-! 46 loop.example/g00480/laws.szBuf -/
noncomputable def f46 (p : Pr β) (n : Nat) (a0 a1 : AV) (H : Heap) (k : AV → Heap → Option β) : Option β :=
  p.box a0 H fun t2 H =>
  p.fadr 0 t2 fun t5 =>
  p.load false 1 t5 H fun t6 =>
  p.call 3 (.fn 49 [] []) [t6, a1] H fun t8 H =>
  p.bin .lss t8 (.sc (.int .i64 0)) fun t10 =>
  p.cond t10
  (k (.sc (.int .i64 (-1))) H)
  (k t8 H)
theorem f46_body (p : Pr β) (n : Nat) (a0 a1 : AV) (H : Heap) (k : AV → Heap → Option β) : evalBody ti0 p n ⟨c46, 12, Go.Proofs.Try.f46.results.toList, o46⟩ [a0, a1] H k = f46 p n a0 a1 H k := by kernel_rfl

/-! 117 loop.example/g00480/laws.szWant -/
noncomputable def f117 (p : Pr β) (n : Nat) (a0 a1 : AV) (H : Heap) (k : AV → Heap → Option β) : Option β :=
  p.box a0 H fun t2 H =>
  p.fadr 0 t2 fun t6 =>
  p.load false 1 t6 H fun t7 =>
  p.lenS t7 fun t8 =>
  p.bin .sub a1 t8 fun t9 =>
  p.bin .lss t9 (.sc (.int .i64 0)) fun t11 =>
  p.cond t11
  (k (.sc (.int .i64 (-1))) H)
  (k t9 H)
theorem f117_body (p : Pr β) (n : Nat) (a0 a1 : AV) (H : Heap) (k : AV → Heap → Option β) : evalBody ti0 p n ⟨c117, 13, Go.Proofs.Try.f117.results.toList, o117⟩ [a0, a1] H k = f117 p n a0 a1 H k := by kernel_rfl

/-! 89 loop.example/g00480/laws.szWantS -/
noncomputable def f89_l0 (p : Pr β) (n : Nat)  (k : AV → Heap → Option β) : Nat → AV → AV → AV → Heap → Option β
  | 0, _, _, _, _ => none
  | m + 1, t0, t1, t5, H => p.len t0 fun t14 =>
      p.bin .lss t5 t14 fun t15 =>
      p.cond t15
      (p.iadr 2 t0 t5 fun t20 =>
      p.load true 2 t20 H fun t21 =>
      p.call 3 (.fn 117 [] []) [t21, t1] H fun t23 H =>
      p.bin .lss t23 (.sc (.int .i64 0)) fun t25 =>
      p.cond t25
      (k (.sc (.int .i64 (-1))) H)
      (p.bin .add t5 (.sc (.int .i64 1)) fun t17 =>
      f89_l0 p n  k m t0 t23 t17 H))
      (k t1 H)
noncomputable def f89 (p : Pr β) (n : Nat) (a0 a1 : AV) (H : Heap) (k : AV → Heap → Option β) : Option β :=
  p.len a0 fun t8 =>
  p.bin .sub a1 t8 fun t9 =>
  p.bin .lss t9 (.sc (.int .i64 0)) fun t11 =>
  p.cond t11
  (k (.sc (.int .i64 (-1))) H)
  (f89_l0 p n  k n a0 t9 (.sc (.int .i64 0)) H)
noncomputable def f89_L0 (p : Pr β) (n : Nat)  (k : AV → Heap → Option β) (m : Nat) (tm : Tm) (H : Heap) : Option β :=
  iterC 27 (fun tm H k => evalCode ti0 p o89 27 n (cd c89 [1, 1, 1, 0, 1, 0, 0]) tm H k) (blkK 0 (seqK (fun tm H => evalCode ti0 p o89 27 n (cd c89 [1, 1, 1, 1]) tm H (endK ti0 p Go.Proofs.Try.f89.results.toList k)) (endK ti0 p Go.Proofs.Try.f89.results.toList k))) m tm H
theorem f89_L0_step (p : Pr β) (n : Nat)  (k : AV → Heap → Option β) (m0 : Nat) (t0 t1 t2 t3 t4 t5 t6 t7 t8 t9 t10 t11 t12 t13 t14 t15 t16 t17 t18 t19 t20 t21 t22 t23 t24 t25 t26 : AV) (H : Heap) : f89_L0 p n  k (m0 + 1) [(0, t0), (1, t1), (2, t2), (3, t3), (4, t4), (5, t5), (6, t6), (7, t7), (8, t8), (9, t9), (10, t10), (11, t11), (12, t12), (13, t13), (14, t14), (15, t15), (16, t16), (17, t17), (18, t18), (19, t19), (20, t20), (21, t21), (22, t22), (23, t23), (24, t24), (25, t25), (26, t26)] H =
  p.len t0 fun t14 =>
  p.bin .lss t5 t14 fun t15 =>
  p.cond t15
  (p.iadr 2 t0 t5 fun t20 =>
  p.load true 2 t20 H fun t21 =>
  p.call 3 (.fn 117 [] []) [t21, t1] H fun t23 H =>
  p.bin .lss t23 (.sc (.int .i64 0)) fun t25 =>
  p.cond t25
  (k (.sc (.int .i64 (-1))) H)
  (p.bin .add t5 (.sc (.int .i64 1)) fun t17 =>
  f89_L0 p n  k m0 [(0, t0), (1, t23), (2, t2), (3, t3), (4, t4), (5, t17), (6, t6), (7, t7), (8, t8), (9, t9), (10, t10), (11, t11), (12, t5), (13, t0), (14, t14), (15, t15), (16, t5), (17, t17), (18, t0), (19, t5), (20, t20), (21, t21), (22, t1), (23, t23), (24, t23), (25, t25), (26, t26)] H))
  (k t1 H) := by kernel_rfl
theorem f89_l0_eq (p : Pr β) (n : Nat)  (k : AV → Heap → Option β)   (m0 : Nat) : ∀ (t0 t1 t2 t3 t4 t5 t6 t7 t8 t9 t10 t11 t12 t13 t14 t15 t16 t17 t18 t19 t20 t21 t22 t23 t24 t25 t26 : AV) (H : Heap), f89_L0 p n  k m0 [(0, t0), (1, t1), (2, t2), (3, t3), (4, t4), (5, t5), (6, t6), (7, t7), (8, t8), (9, t9), (10, t10), (11, t11), (12, t12), (13, t13), (14, t14), (15, t15), (16, t16), (17, t17), (18, t18), (19, t19), (20, t20), (21, t21), (22, t22), (23, t23), (24, t24), (25, t25), (26, t26)] H = f89_l0 p n  k m0 t0 t1 t5 H := by
  induction m0 with
  | zero => intros; rfl
  | succ m0 ih =>
    intro t0 t1 t2 t3 t4 t5 t6 t7 t8 t9 t10 t11 t12 t13 t14 t15 t16 t17 t18 t19 t20 t21 t22 t23 t24 t25 t26 H
    rw [f89_L0_step]
    simp only [ih]
    rfl
theorem f89_raw (p : Pr β) (n : Nat) (a0 a1 : AV) (H : Heap) (k : AV → Heap → Option β) : evalBody ti0 p n ⟨c89, 27, Go.Proofs.Try.f89.results.toList, o89⟩ [a0, a1] H k =
  p.len a0 fun t8 =>
  p.bin .sub a1 t8 fun t9 =>
  p.bin .lss t9 (.sc (.int .i64 0)) fun t11 =>
  p.cond t11
  (k (.sc (.int .i64 (-1))) H)
  (f89_L0 p n  k n [(0, a0), (1, t9), (2, (.sc undef)), (3, (.sc undef)), (4, (.sc (.int .i64 0))), (5, (.sc (.int .i64 0))), (6, a1), (7, a0), (8, t8), (9, t9), (10, t9), (11, t11), (12, (.sc undef)), (13, (.sc undef)), (14, (.sc undef)), (15, (.sc undef)), (16, (.sc undef)), (17, (.sc undef)), (18, (.sc undef)), (19, (.sc undef)), (20, (.sc undef)), (21, (.sc undef)), (22, (.sc undef)), (23, (.sc undef)), (24, (.sc undef)), (25, (.sc undef)), (26, (.sc undef))] H) := by kernel_rfl
theorem f89_body (p : Pr β) (n : Nat) (a0 a1 : AV) (H : Heap) (k : AV → Heap → Option β) : evalBody ti0 p n ⟨c89, 27, Go.Proofs.Try.f89.results.toList, o89⟩ [a0, a1] H k = f89 p n a0 a1 H k := by
  rw [f89_raw]
  simp only [f89_l0_eq]
  rfl

/-! 90 loop.example/g00480/laws.szStringS -/
noncomputable def f90_l0 (p : Pr β) (n : Nat)  (k : AV → Heap → Option β) : Nat → AV → AV → AV → Heap → Option β
  | 0, _, _, _, _ => none
  | m + 1, t0, t1, t5, H => p.len t0 fun t14 =>
      p.bin .lss t5 t14 fun t15 =>
      p.cond t15
      (p.iadr 1 t0 t5 fun t21 =>
      p.load false 1 t21 H fun t22 =>
      p.lenS t22 fun t23 =>
      p.bin .sub t1 t23 fun t24 =>
      p.bin .lss t24 (.sc (.int .i64 0)) fun t26 =>
      p.cond t26
      (k (.sc (.int .i64 (-1))) H)
      (p.bin .add t5 (.sc (.int .i64 1)) fun t17 =>
      f90_l0 p n  k m t0 t24 t17 H))
      (k t1 H)
noncomputable def f90 (p : Pr β) (n : Nat) (a0 a1 : AV) (H : Heap) (k : AV → Heap → Option β) : Option β :=
  p.len a0 fun t8 =>
  p.bin .sub a1 t8 fun t9 =>
  p.bin .lss t9 (.sc (.int .i64 0)) fun t11 =>
  p.cond t11
  (k (.sc (.int .i64 (-1))) H)
  (f90_l0 p n  k n a0 t9 (.sc (.int .i64 0)) H)
noncomputable def f90_L0 (p : Pr β) (n : Nat)  (k : AV → Heap → Option β) (m : Nat) (tm : Tm) (H : Heap) : Option β :=
  iterC 28 (fun tm H k => evalCode ti0 p o90 28 n (cd c90 [1, 1, 1, 0, 1, 0, 0]) tm H k) (blkK 0 (seqK (fun tm H => evalCode ti0 p o90 28 n (cd c90 [1, 1, 1, 1]) tm H (endK ti0 p Go.Proofs.Try.f90.results.toList k)) (endK ti0 p Go.Proofs.Try.f90.results.toList k))) m tm H
theorem f90_L0_step (p : Pr β) (n : Nat)  (k : AV → Heap → Option β) (m0 : Nat) (t0 t1 t2 t3 t4 t5 t6 t7 t8 t9 t10 t11 t12 t13 t14 t15 t16 t17 t18 t19 t20 t21 t22 t23 t24 t25 t26 t27 : AV) (H : Heap) : f90_L0 p n  k (m0 + 1) [(0, t0), (1, t1), (2, t2), (3, t3), (4, t4), (5, t5), (6, t6), (7, t7), (8, t8), (9, t9), (10, t10), (11, t11), (12, t12), (13, t13), (14, t14), (15, t15), (16, t16), (17, t17), (18, t18), (19, t19), (20, t20), (21, t21), (22, t22), (23, t23), (24, t24), (25, t25), (26, t26), (27, t27)] H =
  p.len t0 fun t14 =>
  p.bin .lss t5 t14 fun t15 =>
  p.cond t15
  (p.iadr 1 t0 t5 fun t21 =>
  p.load false 1 t21 H fun t22 =>
  p.lenS t22 fun t23 =>
  p.bin .sub t1 t23 fun t24 =>
  p.bin .lss t24 (.sc (.int .i64 0)) fun t26 =>
  p.cond t26
  (k (.sc (.int .i64 (-1))) H)
  (p.bin .add t5 (.sc (.int .i64 1)) fun t17 =>
  f90_L0 p n  k m0 [(0, t0), (1, t24), (2, t2), (3, t3), (4, t4), (5, t17), (6, t6), (7, t7), (8, t8), (9, t9), (10, t10), (11, t11), (12, t5), (13, t0), (14, t14), (15, t15), (16, t5), (17, t17), (18, t1), (19, t0), (20, t5), (21, t21), (22, t22), (23, t23), (24, t24), (25, t24), (26, t26), (27, t27)] H))
  (k t1 H) := by kernel_rfl
theorem f90_l0_eq (p : Pr β) (n : Nat)  (k : AV → Heap → Option β)   (m0 : Nat) : ∀ (t0 t1 t2 t3 t4 t5 t6 t7 t8 t9 t10 t11 t12 t13 t14 t15 t16 t17 t18 t19 t20 t21 t22 t23 t24 t25 t26 t27 : AV) (H : Heap), f90_L0 p n  k m0 [(0, t0), (1, t1), (2, t2), (3, t3), (4, t4), (5, t5), (6, t6), (7, t7), (8, t8), (9, t9), (10, t10), (11, t11), (12, t12), (13, t13), (14, t14), (15, t15), (16, t16), (17, t17), (18, t18), (19, t19), (20, t20), (21, t21), (22, t22), (23, t23), (24, t24), (25, t25), (26, t26), (27, t27)] H = f90_l0 p n  k m0 t0 t1 t5 H := by
  induction m0 with
  | zero => intros; rfl
  | succ m0 ih =>
    intro t0 t1 t2 t3 t4 t5 t6 t7 t8 t9 t10 t11 t12 t13 t14 t15 t16 t17 t18 t19 t20 t21 t22 t23 t24 t25 t26 t27 H
    rw [f90_L0_step]
    simp only [ih]
    rfl
theorem f90_raw (p : Pr β) (n : Nat) (a0 a1 : AV) (H : Heap) (k : AV → Heap → Option β) : evalBody ti0 p n ⟨c90, 28, Go.Proofs.Try.f90.results.toList, o90⟩ [a0, a1] H k =
  p.len a0 fun t8 =>
  p.bin .sub a1 t8 fun t9 =>
  p.bin .lss t9 (.sc (.int .i64 0)) fun t11 =>
  p.cond t11
  (k (.sc (.int .i64 (-1))) H)
  (f90_L0 p n  k n [(0, a0), (1, t9), (2, (.sc undef)), (3, (.sc undef)), (4, (.sc (.int .i64 0))), (5, (.sc (.int .i64 0))), (6, a1), (7, a0), (8, t8), (9, t9), (10, t9), (11, t11), (12, (.sc undef)), (13, (.sc undef)), (14, (.sc undef)), (15, (.sc undef)), (16, (.sc undef)), (17, (.sc undef)), (18, (.sc undef)), (19, (.sc undef)), (20, (.sc undef)), (21, (.sc undef)), (22, (.sc undef)), (23, (.sc undef)), (24, (.sc undef)), (25, (.sc undef)), (26, (.sc undef)), (27, (.sc undef))] H) := by kernel_rfl
theorem f90_body (p : Pr β) (n : Nat) (a0 a1 : AV) (H : Heap) (k : AV → Heap → Option β) : evalBody ti0 p n ⟨c90, 28, Go.Proofs.Try.f90.results.toList, o90⟩ [a0, a1] H k = f90 p n a0 a1 H k := by
  rw [f90_raw]
  simp only [f90_l0_eq]
  rfl

/-! 58 loop.example/g00480/laws.szPacket -/
noncomputable def f58 (p : Pr β) (n : Nat) (a0 a1 : AV) (H : Heap) (k : AV → Heap → Option β) : Option β :=
  p.box a0 H fun t2 H =>
  p.fadr 5 t2 fun t6 =>
  p.load false 1 t6 H fun t7 =>
  p.lenS t7 fun t8 =>
  p.bin .sub a1 t8 fun t9 =>
  p.bin .lss t9 (.sc (.int .i64 0)) fun t11 =>
  p.cond t11
  (k (.sc (.int .i64 (-1))) H)
  (p.fadr 6 t2 fun t12 =>
  p.load false 1 t12 H fun t13 =>
  p.call 3 (.fn 49 [] []) [t13, t9] H fun t15 H =>
  p.bin .lss t15 (.sc (.int .i64 0)) fun t17 =>
  p.cond t17
  (k (.sc (.int .i64 (-1))) H)
  (p.fadr 7 t2 fun t19 =>
  p.load false 1 t19 H fun t20 =>
  p.lenS t20 fun t21 =>
  p.bin .sub t15 t21 fun t22 =>
  p.bin .lss t22 (.sc (.int .i64 0)) fun t24 =>
  p.cond t24
  (k (.sc (.int .i64 (-1))) H)
  (p.fadr 12 t2 fun t26 =>
  p.load false 1 t26 H fun t27 =>
  p.lenS t27 fun t28 =>
  p.bin .sub t22 t28 fun t29 =>
  p.bin .lss t29 (.sc (.int .i64 0)) fun t31 =>
  p.cond t31
  (k (.sc (.int .i64 (-1))) H)
  (p.fadr 13 t2 fun t32 =>
  p.load false 1 t32 H fun t33 =>
  p.call 3 (.fn 49 [] []) [t33, t29] H fun t35 H =>
  p.bin .lss t35 (.sc (.int .i64 0)) fun t37 =>
  p.cond t37
  (k (.sc (.int .i64 (-1))) H)
  (p.fadr 17 t2 fun t39 =>
  p.load false 1 t39 H fun t40 =>
  p.lenS t40 fun t41 =>
  p.bin .sub t35 t41 fun t42 =>
  p.bin .lss t42 (.sc (.int .i64 0)) fun t44 =>
  p.cond t44
  (k (.sc (.int .i64 (-1))) H)
  (p.fadr 19 t2 fun t45 =>
  p.load false 1 t45 H fun t46 =>
  p.call 3 (.fn 49 [] []) [t46, t42] H fun t48 H =>
  p.bin .lss t48 (.sc (.int .i64 0)) fun t50 =>
  p.cond t50
  (k (.sc (.int .i64 (-1))) H)
  (p.fadr 22 t2 fun t51 =>
  p.load false 1 t51 H fun t52 =>
  p.call 3 (.fn 89 [] []) [t52, t48] H fun t54 H =>
  p.bin .lss t54 (.sc (.int .i64 0)) fun t56 =>
  p.cond t56
  (k (.sc (.int .i64 (-1))) H)
  (p.fadr 23 t2 fun t57 =>
  p.load false 1 t57 H fun t58 =>
  p.call 3 (.fn 90 [] []) [t58, t54] H fun t60 H =>
  p.bin .lss t60 (.sc (.int .i64 0)) fun t62 =>
  p.cond t62
  (k (.sc (.int .i64 (-1))) H)
  (p.fadr 24 t2 fun t63 =>
  p.load false 1 t63 H fun t64 =>
  p.call 3 (.fn 68 [] []) [t64, t60] H fun t66 H =>
  p.bin .lss t66 (.sc (.int .i64 0)) fun t68 =>
  p.cond t68
  (k (.sc (.int .i64 (-1))) H)
  (k t66 H))))))))))
theorem f58_body (p : Pr β) (n : Nat) (a0 a1 : AV) (H : Heap) (k : AV → Heap → Option β) : evalBody ti0 p n ⟨c58, 70, Go.Proofs.Try.f58.results.toList, o58⟩ [a0, a1] H k = f58 p n a0 a1 H k := by kernel_rfl

/-! 47 loop.example/g00480/laws.szPacketS -/
noncomputable def f47_l0 (p : Pr β) (n : Nat)  (k : AV → Heap → Option β) : Nat → AV → AV → AV → Heap → Option β
  | 0, _, _, _, _ => none
  | m + 1, t0, t1, t5, H => p.len t0 fun t14 =>
      p.bin .lss t5 t14 fun t15 =>
      p.cond t15
      (p.iadr 25 t0 t5 fun t20 =>
      p.load true 25 t20 H fun t21 =>
      p.call 3 (.fn 58 [] []) [t21, t1] H fun t23 H =>
      p.bin .lss t23 (.sc (.int .i64 0)) fun t25 =>
      p.cond t25
      (k (.sc (.int .i64 (-1))) H)
      (p.bin .add t5 (.sc (.int .i64 1)) fun t17 =>
      f47_l0 p n  k m t0 t23 t17 H))
      (k t1 H)
noncomputable def f47 (p : Pr β) (n : Nat) (a0 a1 : AV) (H : Heap) (k : AV → Heap → Option β) : Option β :=
  p.len a0 fun t8 =>
  p.bin .sub a1 t8 fun t9 =>
  p.bin .lss t9 (.sc (.int .i64 0)) fun t11 =>
  p.cond t11
  (k (.sc (.int .i64 (-1))) H)
  (f47_l0 p n  k n a0 t9 (.sc (.int .i64 0)) H)
noncomputable def f47_L0 (p : Pr β) (n : Nat)  (k : AV → Heap → Option β) (m : Nat) (tm : Tm) (H : Heap) : Option β :=
  iterC 27 (fun tm H k => evalCode ti0 p o47 27 n (cd c47 [1, 1, 1, 0, 1, 0, 0]) tm H k) (blkK 0 (seqK (fun tm H => evalCode ti0 p o47 27 n (cd c47 [1, 1, 1, 1]) tm H (endK ti0 p Go.Proofs.Try.f47.results.toList k)) (endK ti0 p Go.Proofs.Try.f47.results.toList k))) m tm H
theorem f47_L0_step (p : Pr β) (n : Nat)  (k : AV → Heap → Option β) (m0 : Nat) (t0 t1 t2 t3 t4 t5 t6 t7 t8 t9 t10 t11 t12 t13 t14 t15 t16 t17 t18 t19 t20 t21 t22 t23 t24 t25 t26 : AV) (H : Heap) : f47_L0 p n  k (m0 + 1) [(0, t0), (1, t1), (2, t2), (3, t3), (4, t4), (5, t5), (6, t6), (7, t7), (8, t8), (9, t9), (10, t10), (11, t11), (12, t12), (13, t13), (14, t14), (15, t15), (16, t16), (17, t17), (18, t18), (19, t19), (20, t20), (21, t21), (22, t22), (23, t23), (24, t24), (25, t25), (26, t26)] H =
  p.len t0 fun t14 =>
  p.bin .lss t5 t14 fun t15 =>
  p.cond t15
  (p.iadr 25 t0 t5 fun t20 =>
  p.load true 25 t20 H fun t21 =>
  p.call 3 (.fn 58 [] []) [t21, t1] H fun t23 H =>
  p.bin .lss t23 (.sc (.int .i64 0)) fun t25 =>
  p.cond t25
  (k (.sc (.int .i64 (-1))) H)
  (p.bin .add t5 (.sc (.int .i64 1)) fun t17 =>
  f47_L0 p n  k m0 [(0, t0), (1, t23), (2, t2), (3, t3), (4, t4), (5, t17), (6, t6), (7, t7), (8, t8), (9, t9), (10, t10), (11, t11), (12, t5), (13, t0), (14, t14), (15, t15), (16, t5), (17, t17), (18, t0), (19, t5), (20, t20), (21, t21), (22, t1), (23, t23), (24, t23), (25, t25), (26, t26)] H))
  (k t1 H) := by kernel_rfl
theorem f47_l0_eq (p : Pr β) (n : Nat)  (k : AV → Heap → Option β)   (m0 : Nat) : ∀ (t0 t1 t2 t3 t4 t5 t6 t7 t8 t9 t10 t11 t12 t13 t14 t15 t16 t17 t18 t19 t20 t21 t22 t23 t24 t25 t26 : AV) (H : Heap), f47_L0 p n  k m0 [(0, t0), (1, t1), (2, t2), (3, t3), (4, t4), (5, t5), (6, t6), (7, t7), (8, t8), (9, t9), (10, t10), (11, t11), (12, t12), (13, t13), (14, t14), (15, t15), (16, t16), (17, t17), (18, t18), (19, t19), (20, t20), (21, t21), (22, t22), (23, t23), (24, t24), (25, t25), (26, t26)] H = f47_l0 p n  k m0 t0 t1 t5 H := by
  induction m0 with
  | zero => intros; rfl
  | succ m0 ih =>
    intro t0 t1 t2 t3 t4 t5 t6 t7 t8 t9 t10 t11 t12 t13 t14 t15 t16 t17 t18 t19 t20 t21 t22 t23 t24 t25 t26 H
    rw [f47_L0_step]
    simp only [ih]
    rfl
theorem f47_raw (p : Pr β) (n : Nat) (a0 a1 : AV) (H : Heap) (k : AV → Heap → Option β) : evalBody ti0 p n ⟨c47, 27, Go.Proofs.Try.f47.results.toList, o47⟩ [a0, a1] H k =
  p.len a0 fun t8 =>
  p.bin .sub a1 t8 fun t9 =>
  p.bin .lss t9 (.sc (.int .i64 0)) fun t11 =>
  p.cond t11
  (k (.sc (.int .i64 (-1))) H)
  (f47_L0 p n  k n [(0, a0), (1, t9), (2, (.sc undef)), (3, (.sc undef)), (4, (.sc (.int .i64 0))), (5, (.sc (.int .i64 0))), (6, a1), (7, a0), (8, t8), (9, t9), (10, t9), (11, t11), (12, (.sc undef)), (13, (.sc undef)), (14, (.sc undef)), (15, (.sc undef)), (16, (.sc undef)), (17, (.sc undef)), (18, (.sc undef)), (19, (.sc undef)), (20, (.sc undef)), (21, (.sc undef)), (22, (.sc undef)), (23, (.sc undef)), (24, (.sc undef)), (25, (.sc undef)), (26, (.sc undef))] H) := by kernel_rfl
theorem f47_body (p : Pr β) (n : Nat) (a0 a1 : AV) (H : Heap) (k : AV → Heap → Option β) : evalBody ti0 p n ⟨c47, 27, Go.Proofs.Try.f47.results.toList, o47⟩ [a0, a1] H k = f47 p n a0 a1 H k := by
  rw [f47_raw]
  simp only [f47_l0_eq]
  rfl

/-! 16 loop.example/g00480/laws.szConn -/
noncomputable def f16 (p : Pr β) (n : Nat) (a0 a1 : AV) (H : Heap) (k : AV → Heap → Option β) : Option β :=
  p.box a0 H fun t2 H =>
  p.fadr 2 t2 fun t5 =>
  p.load true 2 t5 H fun t6 =>
  p.call 3 (.fn 46 [] []) [t6, a1] H fun t8 H =>
  p.bin .lss t8 (.sc (.int .i64 0)) fun t10 =>
  p.cond t10
  (k (.sc (.int .i64 (-1))) H)
  (p.fadr 4 t2 fun t11 =>
  p.load false 1 t11 H fun t12 =>
  p.call 3 (.fn 47 [] []) [t12, t8] H fun t14 H =>
  p.bin .lss t14 (.sc (.int .i64 0)) fun t16 =>
  p.cond t16
  (k (.sc (.int .i64 (-1))) H)
  (p.fadr 6 t2 fun t18 =>
  p.load false 1 t18 H fun t19 =>
  p.lenS t19 fun t20 =>
  p.bin .sub t14 t20 fun t21 =>
  p.bin .lss t21 (.sc (.int .i64 0)) fun t23 =>
  p.cond t23
  (k (.sc (.int .i64 (-1))) H)
  (p.fadr 10 t2 fun t24 =>
  p.load true 4 t24 H fun t25 =>
  p.call 3 (.fn 48 [] []) [t25, t21] H fun t27 H =>
  p.bin .lss t27 (.sc (.int .i64 0)) fun t29 =>
  p.cond t29
  (k (.sc (.int .i64 (-1))) H)
  (p.fadr 15 t2 fun t30 =>
  p.load false 1 t30 H fun t31 =>
  p.call 3 (.fn 49 [] []) [t31, t27] H fun t33 H =>
  p.bin .lss t33 (.sc (.int .i64 0)) fun t35 =>
  p.cond t35
  (k (.sc (.int .i64 (-1))) H)
  (k t33 H)))))
theorem f16_body (p : Pr β) (n : Nat) (a0 a1 : AV) (H : Heap) (k : AV → Heap → Option β) : evalBody ti0 p n ⟨c16, 37, Go.Proofs.Try.f16.results.toList, o16⟩ [a0, a1] H k = f16 p n a0 a1 H k := by kernel_rfl

/-! 50 loop.example/g00480/laws.toBuf -/
noncomputable def f50 (p : Pr β) (n : Nat) (a0 : AV) (H : Heap) (k : AV → Heap → Option β) : Option β :=
  p.box a0 H fun t1 H =>
  p.new [.nl, (.sc (.bool false))] H fun t2 H =>
  p.new [.nl, (.sc (.bool false))] H fun t3 H =>
  p.fadr 0 t1 fun t4 =>
  p.load false 1 t4 H fun t5 =>
  p.call 33 (.fn 53 [] []) [t5] H fun t6 H =>
  p.fadr 0 t3 fun t7 =>
  p.store 1 t7 t6 H fun H =>
  p.fadr 1 t1 fun t8 =>
  p.load false 1 t8 H fun t9 =>
  p.fadr 1 t3 fun t10 =>
  p.store 1 t10 t9 H fun H =>
  p.load true 2 t3 H fun t11 =>
  p.store 2 t2 t11 H fun H =>
  p.load true 2 t2 H fun r0 =>
  k r0 H
theorem f50_body (p : Pr β) (n : Nat) (a0 : AV) (H : Heap) (k : AV → Heap → Option β) : evalBody ti0 p n ⟨c50, 12, Go.Proofs.Try.f50.results.toList, o50⟩ [a0] H k = f50 p n a0 H k := by kernel_rfl

/-! 118 loop.example/g00480/laws.toWant -/
noncomputable def f118 (p : Pr β) (n : Nat) (a0 : AV) (H : Heap) (k : AV → Heap → Option β) : Option β :=
  p.box a0 H fun t1 H =>
  p.new [(.sc (.string ⟨#[]⟩)), (.sc (.int .i64 0))] H fun t2 H =>
  p.new [(.sc (.string ⟨#[]⟩)), (.sc (.int .i64 0))] H fun t3 H =>
  p.fadr 0 t1 fun t4 =>
  p.load false 1 t4 H fun t5 =>
  p.fadr 0 t3 fun t6 =>
  p.store 1 t6 t5 H fun H =>
  p.fadr 1 t1 fun t7 =>
  p.load false 1 t7 H fun t8 =>
  p.fadr 1 t3 fun t9 =>
  p.store 1 t9 t8 H fun H =>
  p.load true 2 t3 H fun t10 =>
  p.store 2 t2 t10 H fun H =>
  p.load true 2 t2 H fun r0 =>
  k r0 H
theorem f118_body (p : Pr β) (n : Nat) (a0 : AV) (H : Heap) (k : AV → Heap → Option β) : evalBody ti0 p n ⟨c118, 11, Go.Proofs.Try.f118.results.toList, o118⟩ [a0] H k = f118 p n a0 H k := by kernel_rfl

/-! 92 loop.example/g00480/laws.toWantS -/
noncomputable def f92_l0 (p : Pr β) (n : Nat)  (k : AV → Heap → Option β) : Nat → AV → AV → AV → Heap → Option β
  | 0, _, _, _, _ => none
  | m + 1, t0, t3, t4, H => p.len t0 fun t10 =>
      p.bin .lss t4 t10 fun t11 =>
      p.cond t11
      (p.iadr 2 t0 t4 fun t18 =>
      p.load true 2 t18 H fun t19 =>
      p.call 148 (.fn 118 [] []) [t19] H fun t20 H =>
      p.iadr 2 t3 t4 fun t21 =>
      p.store 2 t21 t20 H fun H =>
      p.bin .add t4 (.sc (.int .i64 1)) fun t13 =>
      f92_l0 p n  k m t0 t3 t13 H)
      (k t3 H)
noncomputable def f92 (p : Pr β) (n : Nat) (a0 : AV) (H : Heap) (k : AV → Heap → Option β) : Option β :=
  p.len a0 fun t6 =>
  p.make 2 24 [(.sc (.string ⟨#[]⟩)), (.sc (.int .i64 0))] t6 t6 H fun t7 H =>
  f92_l0 p n  k n a0 t7 (.sc (.int .i64 0)) H
noncomputable def f92_L0 (p : Pr β) (n : Nat)  (k : AV → Heap → Option β) (m : Nat) (tm : Tm) (H : Heap) : Option β :=
  iterC 23 (fun tm H k => evalCode ti0 p o92 23 n (cd c92 [1, 1, 0, 1, 0, 0]) tm H k) (blkK 0 (seqK (fun tm H => evalCode ti0 p o92 23 n (cd c92 [1, 1, 1]) tm H (endK ti0 p Go.Proofs.Try.f92.results.toList k)) (endK ti0 p Go.Proofs.Try.f92.results.toList k))) m tm H
theorem f92_L0_step (p : Pr β) (n : Nat)  (k : AV → Heap → Option β) (m0 : Nat) (t0 t1 t2 t3 t4 t5 t6 t7 t8 t9 t10 t11 t12 t13 t14 t15 t16 t17 t18 t19 t20 t21 t22 : AV) (H : Heap) : f92_L0 p n  k (m0 + 1) [(0, t0), (1, t1), (2, t2), (3, t3), (4, t4), (5, t5), (6, t6), (7, t7), (8, t8), (9, t9), (10, t10), (11, t11), (12, t12), (13, t13), (14, t14), (15, t15), (16, t16), (17, t17), (18, t18), (19, t19), (20, t20), (21, t21), (22, t22)] H =
  p.len t0 fun t10 =>
  p.bin .lss t4 t10 fun t11 =>
  p.cond t11
  (p.iadr 2 t0 t4 fun t18 =>
  p.load true 2 t18 H fun t19 =>
  p.call 148 (.fn 118 [] []) [t19] H fun t20 H =>
  p.iadr 2 t3 t4 fun t21 =>
  p.store 2 t21 t20 H fun H =>
  p.bin .add t4 (.sc (.int .i64 1)) fun t13 =>
  f92_L0 p n  k m0 [(0, t0), (1, t1), (2, t2), (3, t3), (4, t13), (5, t5), (6, t6), (7, t7), (8, t4), (9, t0), (10, t10), (11, t11), (12, t4), (13, t13), (14, t3), (15, t4), (16, t0), (17, t4), (18, t18), (19, t19), (20, t20), (21, t21), (22, t22)] H)
  (k t3 H) := by kernel_rfl
theorem f92_l0_eq (p : Pr β) (n : Nat)  (k : AV → Heap → Option β)   (m0 : Nat) : ∀ (t0 t1 t2 t3 t4 t5 t6 t7 t8 t9 t10 t11 t12 t13 t14 t15 t16 t17 t18 t19 t20 t21 t22 : AV) (H : Heap), f92_L0 p n  k m0 [(0, t0), (1, t1), (2, t2), (3, t3), (4, t4), (5, t5), (6, t6), (7, t7), (8, t8), (9, t9), (10, t10), (11, t11), (12, t12), (13, t13), (14, t14), (15, t15), (16, t16), (17, t17), (18, t18), (19, t19), (20, t20), (21, t21), (22, t22)] H = f92_l0 p n  k m0 t0 t3 t4 H := by
  induction m0 with
  | zero => intros; rfl
  | succ m0 ih =>
    intro t0 t1 t2 t3 t4 t5 t6 t7 t8 t9 t10 t11 t12 t13 t14 t15 t16 t17 t18 t19 t20 t21 t22 H
    rw [f92_L0_step]
    simp only [ih]
    rfl
theorem f92_raw (p : Pr β) (n : Nat) (a0 : AV) (H : Heap) (k : AV → Heap → Option β) : evalBody ti0 p n ⟨c92, 23, Go.Proofs.Try.f92.results.toList, o92⟩ [a0] H k =
  p.len a0 fun t6 =>
  p.make 2 24 [(.sc (.string ⟨#[]⟩)), (.sc (.int .i64 0))] t6 t6 H fun t7 H =>
  f92_L0 p n  k n [(0, a0), (1, (.sc undef)), (2, .nl), (3, t7), (4, (.sc (.int .i64 0))), (5, a0), (6, t6), (7, t7), (8, (.sc undef)), (9, (.sc undef)), (10, (.sc undef)), (11, (.sc undef)), (12, (.sc undef)), (13, (.sc undef)), (14, (.sc undef)), (15, (.sc undef)), (16, (.sc undef)), (17, (.sc undef)), (18, (.sc undef)), (19, (.sc undef)), (20, (.sc undef)), (21, (.sc undef)), (22, (.sc undef))] H := by kernel_rfl
theorem f92_body (p : Pr β) (n : Nat) (a0 : AV) (H : Heap) (k : AV → Heap → Option β) : evalBody ti0 p n ⟨c92, 23, Go.Proofs.Try.f92.results.toList, o92⟩ [a0] H k = f92 p n a0 H k := by
  rw [f92_raw]
  simp only [f92_l0_eq]
  rfl

/-! 93 loop.example/g00480/laws.toStringS -/
noncomputable def f93_l0 (p : Pr β) (n : Nat)  (k : AV → Heap → Option β) : Nat → AV → AV → AV → Heap → Option β
  | 0, _, _, _, _ => none
  | m + 1, t0, t3, t4, H => p.len t0 fun t10 =>
      p.bin .lss t4 t10 fun t11 =>
      p.cond t11
      (p.iadr 1 t0 t4 fun t18 =>
      p.load false 1 t18 H fun t19 =>
      p.iadr 1 t3 t4 fun t20 =>
      p.store 1 t20 t19 H fun H =>
      p.bin .add t4 (.sc (.int .i64 1)) fun t13 =>
      f93_l0 p n  k m t0 t3 t13 H)
      (k t3 H)
noncomputable def f93 (p : Pr β) (n : Nat) (a0 : AV) (H : Heap) (k : AV → Heap → Option β) : Option β :=
  p.len a0 fun t6 =>
  p.make 1 16 [(.sc (.string ⟨#[]⟩))] t6 t6 H fun t7 H =>
  f93_l0 p n  k n a0 t7 (.sc (.int .i64 0)) H
noncomputable def f93_L0 (p : Pr β) (n : Nat)  (k : AV → Heap → Option β) (m : Nat) (tm : Tm) (H : Heap) : Option β :=
  iterC 22 (fun tm H k => evalCode ti0 p o93 22 n (cd c93 [1, 1, 0, 1, 0, 0]) tm H k) (blkK 0 (seqK (fun tm H => evalCode ti0 p o93 22 n (cd c93 [1, 1, 1]) tm H (endK ti0 p Go.Proofs.Try.f93.results.toList k)) (endK ti0 p Go.Proofs.Try.f93.results.toList k))) m tm H
theorem f93_L0_step (p : Pr β) (n : Nat)  (k : AV → Heap → Option β) (m0 : Nat) (t0 t1 t2 t3 t4 t5 t6 t7 t8 t9 t10 t11 t12 t13 t14 t15 t16 t17 t18 t19 t20 t21 : AV) (H : Heap) : f93_L0 p n  k (m0 + 1) [(0, t0), (1, t1), (2, t2), (3, t3), (4, t4), (5, t5), (6, t6), (7, t7), (8, t8), (9, t9), (10, t10), (11, t11), (12, t12), (13, t13), (14, t14), (15, t15), (16, t16), (17, t17), (18, t18), (19, t19), (20, t20), (21, t21)] H =
  p.len t0 fun t10 =>
  p.bin .lss t4 t10 fun t11 =>
  p.cond t11
  (p.iadr 1 t0 t4 fun t18 =>
  p.load false 1 t18 H fun t19 =>
  p.iadr 1 t3 t4 fun t20 =>
  p.store 1 t20 t19 H fun H =>
  p.bin .add t4 (.sc (.int .i64 1)) fun t13 =>
  f93_L0 p n  k m0 [(0, t0), (1, t1), (2, t2), (3, t3), (4, t13), (5, t5), (6, t6), (7, t7), (8, t4), (9, t0), (10, t10), (11, t11), (12, t4), (13, t13), (14, t3), (15, t4), (16, t0), (17, t4), (18, t18), (19, t19), (20, t20), (21, t21)] H)
  (k t3 H) := by kernel_rfl
theorem f93_l0_eq (p : Pr β) (n : Nat)  (k : AV → Heap → Option β)   (m0 : Nat) : ∀ (t0 t1 t2 t3 t4 t5 t6 t7 t8 t9 t10 t11 t12 t13 t14 t15 t16 t17 t18 t19 t20 t21 : AV) (H : Heap), f93_L0 p n  k m0 [(0, t0), (1, t1), (2, t2), (3, t3), (4, t4), (5, t5), (6, t6), (7, t7), (8, t8), (9, t9), (10, t10), (11, t11), (12, t12), (13, t13), (14, t14), (15, t15), (16, t16), (17, t17), (18, t18), (19, t19), (20, t20), (21, t21)] H = f93_l0 p n  k m0 t0 t3 t4 H := by
  induction m0 with
  | zero => intros; rfl
  | succ m0 ih =>
    intro t0 t1 t2 t3 t4 t5 t6 t7 t8 t9 t10 t11 t12 t13 t14 t15 t16 t17 t18 t19 t20 t21 H
    rw [f93_L0_step]
    simp only [ih]
    rfl
theorem f93_raw (p : Pr β) (n : Nat) (a0 : AV) (H : Heap) (k : AV → Heap → Option β) : evalBody ti0 p n ⟨c93, 22, Go.Proofs.Try.f93.results.toList, o93⟩ [a0] H k =
  p.len a0 fun t6 =>
  p.make 1 16 [(.sc (.string ⟨#[]⟩))] t6 t6 H fun t7 H =>
  f93_L0 p n  k n [(0, a0), (1, (.sc undef)), (2, .nl), (3, t7), (4, (.sc (.int .i64 0))), (5, a0), (6, t6), (7, t7), (8, (.sc undef)), (9, (.sc undef)), (10, (.sc undef)), (11, (.sc undef)), (12, (.sc undef)), (13, (.sc undef)), (14, (.sc undef)), (15, (.sc undef)), (16, (.sc undef)), (17, (.sc undef)), (18, (.sc undef)), (19, (.sc undef)), (20, (.sc undef)), (21, (.sc undef))] H := by kernel_rfl
theorem f93_body (p : Pr β) (n : Nat) (a0 : AV) (H : Heap) (k : AV → Heap → Option β) : evalBody ti0 p n ⟨c93, 22, Go.Proofs.Try.f93.results.toList, o93⟩ [a0] H k = f93 p n a0 H k := by
  rw [f93_raw]
  simp only [f93_l0_eq]
  rfl

/-! 62 loop.example/g00480/laws.toPacket -/
noncomputable def f62 (p : Pr β) (n : Nat) (a0 : AV) (H : Heap) (k : AV → Heap → Option β) : Option β :=
  p.box a0 H fun t1 H =>
  p.new [(.sc (.int .i64 0)), (.sc (.bool false)), (.sc (.int .i64 0)), (.sc (.bool false)), (.sc (.int .i64 0)), (.sc (.string ⟨#[]⟩)), .nl, (.sc (.string ⟨#[]⟩)), (.sc (.int .i64 0)), (.sc (.bool false)), (.sc (.int .i64 0)), (.sc (.bool false)), (.sc (.string ⟨#[]⟩)), .nl, (.sc (.int .i64 0)), (.sc (.bool false)), (.sc (.bool false)), (.sc (.string ⟨#[]⟩)), (.sc (.bool false)), .nl, (.sc (.int .i64 0)), (.sc (.bool false)), .nl, .nl, .nl] H fun t2 H =>
  p.new [(.sc (.int .i64 0)), (.sc (.bool false)), (.sc (.int .i64 0)), (.sc (.bool false)), (.sc (.int .i64 0)), (.sc (.string ⟨#[]⟩)), .nl, (.sc (.string ⟨#[]⟩)), (.sc (.int .i64 0)), (.sc (.bool false)), (.sc (.int .i64 0)), (.sc (.bool false)), (.sc (.string ⟨#[]⟩)), .nl, (.sc (.int .i64 0)), (.sc (.bool false)), (.sc (.bool false)), (.sc (.string ⟨#[]⟩)), (.sc (.bool false)), .nl, (.sc (.int .i64 0)), (.sc (.bool false)), .nl, .nl, .nl] H fun t3 H =>
  p.fadr 0 t1 fun t4 =>
  p.load false 1 t4 H fun t5 =>
  p.fadr 0 t3 fun t6 =>
  p.store 1 t6 t5 H fun H =>
  p.fadr 1 t1 fun t7 =>
  p.load false 1 t7 H fun t8 =>
  p.fadr 1 t3 fun t9 =>
  p.store 1 t9 t8 H fun H =>
  p.fadr 2 t1 fun t10 =>
  p.load false 1 t10 H fun t11 =>
  p.fadr 2 t3 fun t12 =>
  p.store 1 t12 t11 H fun H =>
  p.fadr 3 t1 fun t13 =>
  p.load false 1 t13 H fun t14 =>
  p.fadr 3 t3 fun t15 =>
  p.store 1 t15 t14 H fun H =>
  p.fadr 4 t1 fun t16 =>
  p.load false 1 t16 H fun t17 =>
  p.fadr 4 t3 fun t18 =>
  p.store 1 t18 t17 H fun H =>
  p.fadr 5 t1 fun t19 =>
  p.load false 1 t19 H fun t20 =>
  p.fadr 5 t3 fun t21 =>
  p.store 1 t21 t20 H fun H =>
  p.fadr 6 t1 fun t22 =>
  p.load false 1 t22 H fun t23 =>
  p.call 33 (.fn 53 [] []) [t23] H fun t24 H =>
  p.fadr 6 t3 fun t25 =>
  p.store 1 t25 t24 H fun H =>
  p.fadr 7 t1 fun t26 =>
  p.load false 1 t26 H fun t27 =>
  p.fadr 7 t3 fun t28 =>
  p.store 1 t28 t27 H fun H =>
  p.fadr 8 t1 fun t29 =>
  p.load false 1 t29 H fun t30 =>
  p.fadr 8 t3 fun t31 =>
  p.store 1 t31 t30 H fun H =>
  p.fadr 9 t1 fun t32 =>
  p.load false 1 t32 H fun t33 =>
  p.fadr 9 t3 fun t34 =>
  p.store 1 t34 t33 H fun H =>
  p.fadr 10 t1 fun t35 =>
  p.load false 1 t35 H fun t36 =>
  p.fadr 10 t3 fun t37 =>
  p.store 1 t37 t36 H fun H =>
  p.fadr 11 t1 fun t38 =>
  p.load false 1 t38 H fun t39 =>
  p.fadr 11 t3 fun t40 =>
  p.store 1 t40 t39 H fun H =>
  p.fadr 12 t1 fun t41 =>
  p.load false 1 t41 H fun t42 =>
  p.fadr 12 t3 fun t43 =>
  p.store 1 t43 t42 H fun H =>
  p.fadr 13 t1 fun t44 =>
  p.load false 1 t44 H fun t45 =>
  p.call 33 (.fn 53 [] []) [t45] H fun t46 H =>
  p.fadr 13 t3 fun t47 =>
  p.store 1 t47 t46 H fun H =>
  p.fadr 14 t1 fun t48 =>
  p.load false 1 t48 H fun t49 =>
  p.fadr 14 t3 fun t50 =>
  p.store 1 t50 t49 H fun H =>
  p.fadr 15 t1 fun t51 =>
  p.load false 1 t51 H fun t52 =>
  p.fadr 15 t3 fun t53 =>
  p.store 1 t53 t52 H fun H =>
  p.fadr 16 t1 fun t54 =>
  p.load false 1 t54 H fun t55 =>
  p.fadr 16 t3 fun t56 =>
  p.store 1 t56 t55 H fun H =>
  p.fadr 17 t1 fun t57 =>
  p.load false 1 t57 H fun t58 =>
  p.fadr 17 t3 fun t59 =>
  p.store 1 t59 t58 H fun H =>
  p.fadr 18 t1 fun t60 =>
  p.load false 1 t60 H fun t61 =>
  p.fadr 18 t3 fun t62 =>
  p.store 1 t62 t61 H fun H =>
  p.fadr 19 t1 fun t63 =>
  p.load false 1 t63 H fun t64 =>
  p.call 33 (.fn 53 [] []) [t64] H fun t65 H =>
  p.fadr 19 t3 fun t66 =>
  p.store 1 t66 t65 H fun H =>
  p.fadr 20 t1 fun t67 =>
  p.load false 1 t67 H fun t68 =>
  p.fadr 20 t3 fun t69 =>
  p.store 1 t69 t68 H fun H =>
  p.fadr 21 t1 fun t70 =>
  p.load false 1 t70 H fun t71 =>
  p.fadr 21 t3 fun t72 =>
  p.store 1 t72 t71 H fun H =>
  p.fadr 22 t1 fun t73 =>
  p.load false 1 t73 H fun t74 =>
  p.call 62 (.fn 92 [] []) [t74] H fun t75 H =>
  p.fadr 22 t3 fun t76 =>
  p.store 1 t76 t75 H fun H =>
  p.fadr 23 t1 fun t77 =>
  p.load false 1 t77 H fun t78 =>
  p.call 52 (.fn 93 [] []) [t78] H fun t79 H =>
  p.fadr 23 t3 fun t80 =>
  p.store 1 t80 t79 H fun H =>
  p.fadr 24 t1 fun t81 =>
  p.load false 1 t81 H fun t82 =>
  p.call 53 (.fn 69 [] []) [t82] H fun t83 H =>
  p.fadr 24 t3 fun t84 =>
  p.store 1 t84 t83 H fun H =>
  p.load true 25 t3 H fun t85 =>
  p.store 25 t2 t85 H fun H =>
  p.load true 25 t2 H fun r0 =>
  k r0 H
theorem f62_body (p : Pr β) (n : Nat) (a0 : AV) (H : Heap) (k : AV → Heap → Option β) : evalBody ti0 p n ⟨c62, 86, Go.Proofs.Try.f62.results.toList, o62⟩ [a0] H k = f62 p n a0 H k := by kernel_rfl

/-! 51 loop.example/g00480/laws.toPacketS -/
noncomputable def f51_l0 (p : Pr β) (n : Nat)  (k : AV → Heap → Option β) : Nat → AV → AV → AV → Heap → Option β
  | 0, _, _, _, _ => none
  | m + 1, t0, t3, t4, H => p.len t0 fun t10 =>
      p.bin .lss t4 t10 fun t11 =>
      p.cond t11
      (p.iadr 25 t0 t4 fun t18 =>
      p.load true 25 t18 H fun t19 =>
      p.call 64 (.fn 62 [] []) [t19] H fun t20 H =>
      p.iadr 25 t3 t4 fun t21 =>
      p.store 25 t21 t20 H fun H =>
      p.bin .add t4 (.sc (.int .i64 1)) fun t13 =>
      f51_l0 p n  k m t0 t3 t13 H)
      (k t3 H)
noncomputable def f51 (p : Pr β) (n : Nat) (a0 : AV) (H : Heap) (k : AV → Heap → Option β) : Option β :=
  p.len a0 fun t6 =>
  p.make 25 320 [(.sc (.int .i64 0)), (.sc (.bool false)), (.sc (.int .i64 0)), (.sc (.bool false)), (.sc (.int .i64 0)), (.sc (.string ⟨#[]⟩)), .nl, (.sc (.string ⟨#[]⟩)), (.sc (.int .i64 0)), (.sc (.bool false)), (.sc (.int .i64 0)), (.sc (.bool false)), (.sc (.string ⟨#[]⟩)), .nl, (.sc (.int .i64 0)), (.sc (.bool false)), (.sc (.bool false)), (.sc (.string ⟨#[]⟩)), (.sc (.bool false)), .nl, (.sc (.int .i64 0)), (.sc (.bool false)), .nl, .nl, .nl] t6 t6 H fun t7 H =>
  f51_l0 p n  k n a0 t7 (.sc (.int .i64 0)) H
noncomputable def f51_L0 (p : Pr β) (n : Nat)  (k : AV → Heap → Option β) (m : Nat) (tm : Tm) (H : Heap) : Option β :=
  iterC 23 (fun tm H k => evalCode ti0 p o51 23 n (cd c51 [1, 1, 0, 1, 0, 0]) tm H k) (blkK 0 (seqK (fun tm H => evalCode ti0 p o51 23 n (cd c51 [1, 1, 1]) tm H (endK ti0 p Go.Proofs.Try.f51.results.toList k)) (endK ti0 p Go.Proofs.Try.f51.results.toList k))) m tm H
theorem f51_L0_step (p : Pr β) (n : Nat)  (k : AV → Heap → Option β) (m0 : Nat) (t0 t1 t2 t3 t4 t5 t6 t7 t8 t9 t10 t11 t12 t13 t14 t15 t16 t17 t18 t19 t20 t21 t22 : AV) (H : Heap) : f51_L0 p n  k (m0 + 1) [(0, t0), (1, t1), (2, t2), (3, t3), (4, t4), (5, t5), (6, t6), (7, t7), (8, t8), (9, t9), (10, t10), (11, t11), (12, t12), (13, t13), (14, t14), (15, t15), (16, t16), (17, t17), (18, t18), (19, t19), (20, t20), (21, t21), (22, t22)] H =
  p.len t0 fun t10 =>
  p.bin .lss t4 t10 fun t11 =>
  p.cond t11
  (p.iadr 25 t0 t4 fun t18 =>
  p.load true 25 t18 H fun t19 =>
  p.call 64 (.fn 62 [] []) [t19] H fun t20 H =>
  p.iadr 25 t3 t4 fun t21 =>
  p.store 25 t21 t20 H fun H =>
  p.bin .add t4 (.sc (.int .i64 1)) fun t13 =>
  f51_L0 p n  k m0 [(0, t0), (1, t1), (2, t2), (3, t3), (4, t13), (5, t5), (6, t6), (7, t7), (8, t4), (9, t0), (10, t10), (11, t11), (12, t4), (13, t13), (14, t3), (15, t4), (16, t0), (17, t4), (18, t18), (19, t19), (20, t20), (21, t21), (22, t22)] H)
  (k t3 H) := by kernel_rfl
theorem f51_l0_eq (p : Pr β) (n : Nat)  (k : AV → Heap → Option β)   (m0 : Nat) : ∀ (t0 t1 t2 t3 t4 t5 t6 t7 t8 t9 t10 t11 t12 t13 t14 t15 t16 t17 t18 t19 t20 t21 t22 : AV) (H : Heap), f51_L0 p n  k m0 [(0, t0), (1, t1), (2, t2), (3, t3), (4, t4), (5, t5), (6, t6), (7, t7), (8, t8), (9, t9), (10, t10), (11, t11), (12, t12), (13, t13), (14, t14), (15, t15), (16, t16), (17, t17), (18, t18), (19, t19), (20, t20), (21, t21), (22, t22)] H = f51_l0 p n  k m0 t0 t3 t4 H := by
  induction m0 with
  | zero => intros; rfl
  | succ m0 ih =>
    intro t0 t1 t2 t3 t4 t5 t6 t7 t8 t9 t10 t11 t12 t13 t14 t15 t16 t17 t18 t19 t20 t21 t22 H
    rw [f51_L0_step]
    simp only [ih]
    rfl
theorem f51_raw (p : Pr β) (n : Nat) (a0 : AV) (H : Heap) (k : AV → Heap → Option β) : evalBody ti0 p n ⟨c51, 23, Go.Proofs.Try.f51.results.toList, o51⟩ [a0] H k =
  p.len a0 fun t6 =>
  p.make 25 320 [(.sc (.int .i64 0)), (.sc (.bool false)), (.sc (.int .i64 0)), (.sc (.bool false)), (.sc (.int .i64 0)), (.sc (.string ⟨#[]⟩)), .nl, (.sc (.string ⟨#[]⟩)), (.sc (.int .i64 0)), (.sc (.bool false)), (.sc (.int .i64 0)), (.sc (.bool false)), (.sc (.string ⟨#[]⟩)), .nl, (.sc (.int .i64 0)), (.sc (.bool false)), (.sc (.bool false)), (.sc (.string ⟨#[]⟩)), (.sc (.bool false)), .nl, (.sc (.int .i64 0)), (.sc (.bool false)), .nl, .nl, .nl] t6 t6 H fun t7 H =>
  f51_L0 p n  k n [(0, a0), (1, (.sc undef)), (2, .nl), (3, t7), (4, (.sc (.int .i64 0))), (5, a0), (6, t6), (7, t7), (8, (.sc undef)), (9, (.sc undef)), (10, (.sc undef)), (11, (.sc undef)), (12, (.sc undef)), (13, (.sc undef)), (14, (.sc undef)), (15, (.sc undef)), (16, (.sc undef)), (17, (.sc undef)), (18, (.sc undef)), (19, (.sc undef)), (20, (.sc undef)), (21, (.sc undef)), (22, (.sc undef))] H := by kernel_rfl
theorem f51_body (p : Pr β) (n : Nat) (a0 : AV) (H : Heap) (k : AV → Heap → Option β) : evalBody ti0 p n ⟨c51, 23, Go.Proofs.Try.f51.results.toList, o51⟩ [a0] H k = f51 p n a0 H k := by
  rw [f51_raw]
  simp only [f51_l0_eq]
  rfl

/-! 18 loop.example/g00480/laws.toConn -/
noncomputable def f18 (p : Pr β) (n : Nat) (a0 : AV) (H : Heap) (k : AV → Heap → Option β) : Option β :=
  p.box a0 H fun t1 H =>
  p.new [(.sc (.bool false)), (.sc (.int .i64 0)), .nl, (.sc (.bool false)), .nl, (.sc (.bool false)), (.sc (.string ⟨#[]⟩)), (.sc (.int .i64 0)), (.sc (.int .i64 0)), (.sc (.bool false)), (.sc (.string ⟨#[]⟩)), .nl, (.sc (.int .i64 0)), (.sc (.bool false)), (.sc (.bool false)), .nl] H fun t2 H =>
  p.new [(.sc (.bool false)), (.sc (.int .i64 0)), .nl, (.sc (.bool false)), .nl, (.sc (.bool false)), (.sc (.string ⟨#[]⟩)), (.sc (.int .i64 0)), (.sc (.int .i64 0)), (.sc (.bool false)), (.sc (.string ⟨#[]⟩)), .nl, (.sc (.int .i64 0)), (.sc (.bool false)), (.sc (.bool false)), .nl] H fun t3 H =>
  p.fadr 0 t1 fun t4 =>
  p.load false 1 t4 H fun t5 =>
  p.fadr 0 t3 fun t6 =>
  p.store 1 t6 t5 H fun H =>
  p.fadr 1 t1 fun t7 =>
  p.load false 1 t7 H fun t8 =>
  p.fadr 1 t3 fun t9 =>
  p.store 1 t9 t8 H fun H =>
  p.fadr 2 t1 fun t10 =>
  p.load true 2 t10 H fun t11 =>
  p.call 43 (.fn 50 [] []) [t11] H fun t12 H =>
  p.fadr 2 t3 fun t13 =>
  p.store 2 t13 t12 H fun H =>
  p.fadr 4 t1 fun t14 =>
  p.load false 1 t14 H fun t15 =>
  p.call 44 (.fn 51 [] []) [t15] H fun t16 H =>
  p.fadr 4 t3 fun t17 =>
  p.store 1 t17 t16 H fun H =>
  p.fadr 5 t1 fun t18 =>
  p.load false 1 t18 H fun t19 =>
  p.fadr 5 t3 fun t20 =>
  p.store 1 t20 t19 H fun H =>
  p.fadr 6 t1 fun t21 =>
  p.load false 1 t21 H fun t22 =>
  p.fadr 6 t3 fun t23 =>
  p.store 1 t23 t22 H fun H =>
  p.fadr 7 t1 fun t24 =>
  p.load false 1 t24 H fun t25 =>
  p.fadr 7 t3 fun t26 =>
  p.store 1 t26 t25 H fun H =>
  p.fadr 8 t1 fun t27 =>
  p.load false 1 t27 H fun t28 =>
  p.fadr 8 t3 fun t29 =>
  p.store 1 t29 t28 H fun H =>
  p.fadr 9 t1 fun t30 =>
  p.load false 1 t30 H fun t31 =>
  p.fadr 9 t3 fun t32 =>
  p.store 1 t32 t31 H fun H =>
  p.fadr 10 t1 fun t33 =>
  p.load true 4 t33 H fun t34 =>
  p.call 45 (.fn 52 [] []) [t34] H fun t35 H =>
  p.fadr 10 t3 fun t36 =>
  p.store 4 t36 t35 H fun H =>
  p.fadr 14 t1 fun t37 =>
  p.load false 1 t37 H fun t38 =>
  p.fadr 14 t3 fun t39 =>
  p.store 1 t39 t38 H fun H =>
  p.fadr 15 t1 fun t40 =>
  p.load false 1 t40 H fun t41 =>
  p.call 33 (.fn 53 [] []) [t41] H fun t42 H =>
  p.fadr 15 t3 fun t43 =>
  p.store 1 t43 t42 H fun H =>
  p.load true 16 t3 H fun t44 =>
  p.store 16 t2 t44 H fun H =>
  p.load true 16 t2 H fun r0 =>
  k r0 H
theorem f18_body (p : Pr β) (n : Nat) (a0 : AV) (H : Heap) (k : AV → Heap → Option β) : evalBody ti0 p n ⟨c18, 45, Go.Proofs.Try.f18.results.toList, o18⟩ [a0] H k = f18 p n a0 H k := by kernel_rfl

/-! 17 loop.example/g00480/spec.HasRoom -/
noncomputable def f17 (p : Pr β) (n : Nat) (a0 : AV) (H : Heap) (k : AV → Heap → Option β) : Option β :=
  p.box a0 H fun t1 H =>
  p.fadr 0 t1 fun t3 =>
  p.load false 1 t3 H fun t4 =>
  p.guard t4 true H (fun k' => p.fadr 5 t1 fun t' => k' t' H) fun t6 H =>
  p.guard t4 true H (fun k' => p.load false 1 t6 H fun t' => k' t' H) fun t7 H =>
  p.pick t4 t7 (.sc (.bool false)) fun t8 =>
  p.guard t8 true H (fun k' => p.fadr 14 t1 fun t' => k' t' H) fun t10 H =>
  p.guard t8 true H (fun k' => p.load false 1 t10 H fun t' => k' t' H) fun t11 H =>
  p.guard t8 true H (fun k' => p.un .not t11 fun t' => k' t' H) fun t12 H =>
  p.pick t8 t12 (.sc (.bool false)) fun t13 =>
  p.guard t13 true H (fun k' => p.fadr 15 t1 fun t' => k' t' H) fun t15 H =>
  p.guard t13 true H (fun k' => p.load false 1 t15 H fun t' => k' t' H) fun t16 H =>
  p.guard t13 true H (fun k' => p.len t16 fun t' => k' t' H) fun t17 H =>
  p.guard t13 true H (fun k' => p.bin .leq t17 (.sc (.int .i64 900)) fun t' => k' t' H) fun t18 H =>
  p.pick t13 t18 (.sc (.bool false)) fun t19 =>
  k t19 H
theorem f17_body (p : Pr β) (n : Nat) (a0 : AV) (H : Heap) (k : AV → Heap → Option β) : evalBody ti0 p n ⟨c17, 20, Go.Proofs.Try.f17.results.toList, o17⟩ [a0] H k = f17 p n a0 H k := by kernel_rfl

/-! 19 loop.example/g00480/impl.HasRoom -/
noncomputable def f19 (p : Pr β) (n : Nat) (a0 : AV) (H : Heap) (k : AV → Heap → Option β) : Option β :=
  p.box a0 H fun t1 H =>
  p.fadr 0 t1 fun t3 =>
  p.load false 1 t3 H fun t4 =>
  p.guard t4 true H (fun k' => p.fadr 5 t1 fun t' => k' t' H) fun t6 H =>
  p.guard t4 true H (fun k' => p.load false 1 t6 H fun t' => k' t' H) fun t7 H =>
  p.pick t4 t7 (.sc (.bool false)) fun t8 =>
  p.guard t8 true H (fun k' => p.fadr 14 t1 fun t' => k' t' H) fun t10 H =>
  p.guard t8 true H (fun k' => p.load false 1 t10 H fun t' => k' t' H) fun t11 H =>
  p.guard t8 true H (fun k' => p.un .not t11 fun t' => k' t' H) fun t12 H =>
  p.pick t8 t12 (.sc (.bool false)) fun t13 =>
  p.guard t13 true H (fun k' => p.fadr 15 t1 fun t' => k' t' H) fun t15 H =>
  p.guard t13 true H (fun k' => p.load false 1 t15 H fun t' => k' t' H) fun t16 H =>
  p.guard t13 true H (fun k' => p.len t16 fun t' => k' t' H) fun t17 H =>
  p.guard t13 true H (fun k' => p.bin .leq t17 (.sc (.int .i64 900)) fun t' => k' t' H) fun t18 H =>
  p.pick t13 t18 (.sc (.bool false)) fun t19 =>
  k t19 H
theorem f19_body (p : Pr β) (n : Nat) (a0 : AV) (H : Heap) (k : AV → Heap → Option β) : evalBody ti0 p n ⟨c19, 20, Go.Proofs.Try.f19.results.toList, o19⟩ [a0] H k = f19 p n a0 H k := by kernel_rfl

/-! 54 loop.example/g00480/laws.eqBuf -/
noncomputable def f54 (p : Pr β) (n : Nat) (a0 a1 : AV) (H : Heap) (k : AV → Heap → Option β) : Option β :=
  p.box a0 H fun t2 H =>
  p.box a1 H fun t3 H =>
  p.fadr 0 t2 fun t5 =>
  p.load false 1 t5 H fun t6 =>
  p.fadr 0 t3 fun t7 =>
  p.load false 1 t7 H fun t8 =>
  p.call 4 (.fn 57 [] []) [t6, t8] H fun t9 H =>
  p.un .not t9 fun t10 =>
  p.cond t10
  (k (.sc (.bool false)) H)
  (p.fadr 1 t2 fun t11 =>
  p.load false 1 t11 H fun t12 =>
  p.fadr 1 t3 fun t13 =>
  p.load false 1 t13 H fun t14 =>
  p.binB .neq t12 t14 fun t15 =>
  p.cond t15
  (k (.sc (.bool false)) H)
  (k (.sc (.bool true)) H))
theorem f54_body (p : Pr β) (n : Nat) (a0 a1 : AV) (H : Heap) (k : AV → Heap → Option β) : evalBody ti0 p n ⟨c54, 16, Go.Proofs.Try.f54.results.toList, o54⟩ [a0, a1] H k = f54 p n a0 a1 H k := by kernel_rfl

/-! 119 loop.example/g00480/laws.eqWant -/
noncomputable def f119 (p : Pr β) (n : Nat) (a0 a1 : AV) (H : Heap) (k : AV → Heap → Option β) : Option β :=
  p.box a0 H fun t2 H =>
  p.box a1 H fun t3 H =>
  p.fadr 0 t2 fun t5 =>
  p.load false 1 t5 H fun t6 =>
  p.fadr 0 t3 fun t7 =>
  p.load false 1 t7 H fun t8 =>
  p.bin .neq t6 t8 fun t9 =>
  p.cond t9
  (k (.sc (.bool false)) H)
  (p.fadr 1 t2 fun t10 =>
  p.load false 1 t10 H fun t11 =>
  p.fadr 1 t3 fun t12 =>
  p.load false 1 t12 H fun t13 =>
  p.bin .neq t11 t13 fun t14 =>
  p.cond t14
  (k (.sc (.bool false)) H)
  (k (.sc (.bool true)) H))
theorem f119_body (p : Pr β) (n : Nat) (a0 a1 : AV) (H : Heap) (k : AV → Heap → Option β) : evalBody ti0 p n ⟨c119, 15, Go.Proofs.Try.f119.results.toList, o119⟩ [a0, a1] H k = f119 p n a0 a1 H k := by kernel_rfl

/-! 95 loop.example/g00480/laws.eqWantS -/
noncomputable def f95_l0 (p : Pr β) (n : Nat)  (k : AV → Heap → Option β) : Nat → AV → AV → AV → Heap → Option β
  | 0, _, _, _, _ => none
  | m + 1, t0, t1, t5, H => p.len t0 fun t13 =>
      p.bin .lss t5 t13 fun t14 =>
      p.cond t14
      (p.iadr 2 t0 t5 fun t19 =>
      p.load true 2 t19 H fun t20 =>
      p.iadr 2 t1 t5 fun t23 =>
      p.load true 2 t23 H fun t24 =>
      p.call 4 (.fn 119 [] []) [t20, t24] H fun t25 H =>
      p.un .not t25 fun t26 =>
      p.cond t26
      (k (.sc (.bool false)) H)
      (p.bin .add t5 (.sc (.int .i64 1)) fun t16 =>
      f95_l0 p n  k m t0 t1 t16 H))
      (k (.sc (.bool true)) H)
noncomputable def f95 (p : Pr β) (n : Nat) (a0 a1 : AV) (H : Heap) (k : AV → Heap → Option β) : Option β :=
  p.len a0 fun t7 =>
  p.len a1 fun t9 =>
  p.bin .neq t7 t9 fun t10 =>
  p.cond t10
  (k (.sc (.bool false)) H)
  (f95_l0 p n  k n a0 a1 (.sc (.int .i64 0)) H)
noncomputable def f95_L0 (p : Pr β) (n : Nat)  (k : AV → Heap → Option β) (m : Nat) (tm : Tm) (H : Heap) : Option β :=
  iterC 27 (fun tm H k => evalCode ti0 p o95 27 n (cd c95 [1, 1, 0, 1, 0, 0]) tm H k) (blkK 0 (seqK (fun tm H => evalCode ti0 p o95 27 n (cd c95 [1, 1, 1]) tm H (endK ti0 p Go.Proofs.Try.f95.results.toList k)) (endK ti0 p Go.Proofs.Try.f95.results.toList k))) m tm H
theorem f95_L0_step (p : Pr β) (n : Nat)  (k : AV → Heap → Option β) (m0 : Nat) (t0 t1 t2 t3 t4 t5 t6 t7 t8 t9 t10 t11 t12 t13 t14 t15 t16 t17 t18 t19 t20 t21 t22 t23 t24 t25 t26 : AV) (H : Heap) : f95_L0 p n  k (m0 + 1) [(0, t0), (1, t1), (2, t2), (3, t3), (4, t4), (5, t5), (6, t6), (7, t7), (8, t8), (9, t9), (10, t10), (11, t11), (12, t12), (13, t13), (14, t14), (15, t15), (16, t16), (17, t17), (18, t18), (19, t19), (20, t20), (21, t21), (22, t22), (23, t23), (24, t24), (25, t25), (26, t26)] H =
  p.len t0 fun t13 =>
  p.bin .lss t5 t13 fun t14 =>
  p.cond t14
  (p.iadr 2 t0 t5 fun t19 =>
  p.load true 2 t19 H fun t20 =>
  p.iadr 2 t1 t5 fun t23 =>
  p.load true 2 t23 H fun t24 =>
  p.call 4 (.fn 119 [] []) [t20, t24] H fun t25 H =>
  p.un .not t25 fun t26 =>
  p.cond t26
  (k (.sc (.bool false)) H)
  (p.bin .add t5 (.sc (.int .i64 1)) fun t16 =>
  f95_L0 p n  k m0 [(0, t0), (1, t1), (2, t2), (3, t3), (4, t4), (5, t16), (6, t6), (7, t7), (8, t8), (9, t9), (10, t10), (11, t5), (12, t0), (13, t13), (14, t14), (15, t5), (16, t16), (17, t0), (18, t5), (19, t19), (20, t20), (21, t1), (22, t5), (23, t23), (24, t24), (25, t25), (26, t26)] H))
  (k (.sc (.bool true)) H) := by kernel_rfl
theorem f95_l0_eq (p : Pr β) (n : Nat)  (k : AV → Heap → Option β)   (m0 : Nat) : ∀ (t0 t1 t2 t3 t4 t5 t6 t7 t8 t9 t10 t11 t12 t13 t14 t15 t16 t17 t18 t19 t20 t21 t22 t23 t24 t25 t26 : AV) (H : Heap), f95_L0 p n  k m0 [(0, t0), (1, t1), (2, t2), (3, t3), (4, t4), (5, t5), (6, t6), (7, t7), (8, t8), (9, t9), (10, t10), (11, t11), (12, t12), (13, t13), (14, t14), (15, t15), (16, t16), (17, t17), (18, t18), (19, t19), (20, t20), (21, t21), (22, t22), (23, t23), (24, t24), (25, t25), (26, t26)] H = f95_l0 p n  k m0 t0 t1 t5 H := by
  induction m0 with
  | zero => intros; rfl
  | succ m0 ih =>
    intro t0 t1 t2 t3 t4 t5 t6 t7 t8 t9 t10 t11 t12 t13 t14 t15 t16 t17 t18 t19 t20 t21 t22 t23 t24 t25 t26 H
    rw [f95_L0_step]
    simp only [ih]
    rfl
theorem f95_raw (p : Pr β) (n : Nat) (a0 a1 : AV) (H : Heap) (k : AV → Heap → Option β) : evalBody ti0 p n ⟨c95, 27, Go.Proofs.Try.f95.results.toList, o95⟩ [a0, a1] H k =
  p.len a0 fun t7 =>
  p.len a1 fun t9 =>
  p.bin .neq t7 t9 fun t10 =>
  p.cond t10
  (k (.sc (.bool false)) H)
  (f95_L0 p n  k n [(0, a0), (1, a1), (2, (.sc undef)), (3, (.sc undef)), (4, (.sc (.bool false))), (5, (.sc (.int .i64 0))), (6, a0), (7, t7), (8, a1), (9, t9), (10, t10), (11, (.sc undef)), (12, (.sc undef)), (13, (.sc undef)), (14, (.sc undef)), (15, (.sc undef)), (16, (.sc undef)), (17, (.sc undef)), (18, (.sc undef)), (19, (.sc undef)), (20, (.sc undef)), (21, (.sc undef)), (22, (.sc undef)), (23, (.sc undef)), (24, (.sc undef)), (25, (.sc undef)), (26, (.sc undef))] H) := by kernel_rfl
theorem f95_body (p : Pr β) (n : Nat) (a0 a1 : AV) (H : Heap) (k : AV → Heap → Option β) : evalBody ti0 p n ⟨c95, 27, Go.Proofs.Try.f95.results.toList, o95⟩ [a0, a1] H k = f95 p n a0 a1 H k := by
  rw [f95_raw]
  simp only [f95_l0_eq]
  rfl

/-! 96 loop.example/g00480/laws.eqStringS -/
noncomputable def f96_l0 (p : Pr β) (n : Nat)  (k : AV → Heap → Option β) : Nat → AV → AV → AV → Heap → Option β
  | 0, _, _, _, _ => none
  | m + 1, t0, t1, t5, H => p.len t0 fun t13 =>
      p.bin .lss t5 t13 fun t14 =>
      p.cond t14
      (p.iadr 1 t0 t5 fun t19 =>
      p.load false 1 t19 H fun t20 =>
      p.iadr 1 t1 t5 fun t23 =>
      p.load false 1 t23 H fun t24 =>
      p.bin .neq t20 t24 fun t25 =>
      p.cond t25
      (k (.sc (.bool false)) H)
      (p.bin .add t5 (.sc (.int .i64 1)) fun t16 =>
      f96_l0 p n  k m t0 t1 t16 H))
      (k (.sc (.bool true)) H)
noncomputable def f96 (p : Pr β) (n : Nat) (a0 a1 : AV) (H : Heap) (k : AV → Heap → Option β) : Option β :=
  p.len a0 fun t7 =>
  p.len a1 fun t9 =>
  p.bin .neq t7 t9 fun t10 =>
  p.cond t10
  (k (.sc (.bool false)) H)
  (f96_l0 p n  k n a0 a1 (.sc (.int .i64 0)) H)
noncomputable def f96_L0 (p : Pr β) (n : Nat)  (k : AV → Heap → Option β) (m : Nat) (tm : Tm) (H : Heap) : Option β :=
  iterC 26 (fun tm H k => evalCode ti0 p o96 26 n (cd c96 [1, 1, 0, 1, 0, 0]) tm H k) (blkK 0 (seqK (fun tm H => evalCode ti0 p o96 26 n (cd c96 [1, 1, 1]) tm H (endK ti0 p Go.Proofs.Try.f96.results.toList k)) (endK ti0 p Go.Proofs.Try.f96.results.toList k))) m tm H
theorem f96_L0_step (p : Pr β) (n : Nat)  (k : AV → Heap → Option β) (m0 : Nat) (t0 t1 t2 t3 t4 t5 t6 t7 t8 t9 t10 t11 t12 t13 t14 t15 t16 t17 t18 t19 t20 t21 t22 t23 t24 t25 : AV) (H : Heap) : f96_L0 p n  k (m0 + 1) [(0, t0), (1, t1), (2, t2), (3, t3), (4, t4), (5, t5), (6, t6), (7, t7), (8, t8), (9, t9), (10, t10), (11, t11), (12, t12), (13, t13), (14, t14), (15, t15), (16, t16), (17, t17), (18, t18), (19, t19), (20, t20), (21, t21), (22, t22), (23, t23), (24, t24), (25, t25)] H =
  p.len t0 fun t13 =>
  p.bin .lss t5 t13 fun t14 =>
  p.cond t14
  (p.iadr 1 t0 t5 fun t19 =>
  p.load false 1 t19 H fun t20 =>
  p.iadr 1 t1 t5 fun t23 =>
  p.load false 1 t23 H fun t24 =>
  p.bin .neq t20 t24 fun t25 =>
  p.cond t25
  (k (.sc (.bool false)) H)
  (p.bin .add t5 (.sc (.int .i64 1)) fun t16 =>
  f96_L0 p n  k m0 [(0, t0), (1, t1), (2, t2), (3, t3), (4, t4), (5, t16), (6, t6), (7, t7), (8, t8), (9, t9), (10, t10), (11, t5), (12, t0), (13, t13), (14, t14), (15, t5), (16, t16), (17, t0), (18, t5), (19, t19), (20, t20), (21, t1), (22, t5), (23, t23), (24, t24), (25, t25)] H))
  (k (.sc (.bool true)) H) := by kernel_rfl
theorem f96_l0_eq (p : Pr β) (n : Nat)  (k : AV → Heap → Option β)   (m0 : Nat) : ∀ (t0 t1 t2 t3 t4 t5 t6 t7 t8 t9 t10 t11 t12 t13 t14 t15 t16 t17 t18 t19 t20 t21 t22 t23 t24 t25 : AV) (H : Heap), f96_L0 p n  k m0 [(0, t0), (1, t1), (2, t2), (3, t3), (4, t4), (5, t5), (6, t6), (7, t7), (8, t8), (9, t9), (10, t10), (11, t11), (12, t12), (13, t13), (14, t14), (15, t15), (16, t16), (17, t17), (18, t18), (19, t19), (20, t20), (21, t21), (22, t22), (23, t23), (24, t24), (25, t25)] H = f96_l0 p n  k m0 t0 t1 t5 H := by
  induction m0 with
  | zero => intros; rfl
  | succ m0 ih =>
    intro t0 t1 t2 t3 t4 t5 t6 t7 t8 t9 t10 t11 t12 t13 t14 t15 t16 t17 t18 t19 t20 t21 t22 t23 t24 t25 H
    rw [f96_L0_step]
    simp only [ih]
    rfl
theorem f96_raw (p : Pr β) (n : Nat) (a0 a1 : AV) (H : Heap) (k : AV → Heap → Option β) : evalBody ti0 p n ⟨c96, 26, Go.Proofs.Try.f96.results.toList, o96⟩ [a0, a1] H k =
  p.len a0 fun t7 =>
  p.len a1 fun t9 =>
  p.bin .neq t7 t9 fun t10 =>
  p.cond t10
  (k (.sc (.bool false)) H)
  (f96_L0 p n  k n [(0, a0), (1, a1), (2, (.sc undef)), (3, (.sc undef)), (4, (.sc (.bool false))), (5, (.sc (.int .i64 0))), (6, a0), (7, t7), (8, a1), (9, t9), (10, t10), (11, (.sc undef)), (12, (.sc undef)), (13, (.sc undef)), (14, (.sc undef)), (15, (.sc undef)), (16, (.sc undef)), (17, (.sc undef)), (18, (.sc undef)), (19, (.sc undef)), (20, (.sc undef)), (21, (.sc undef)), (22, (.sc undef)), (23, (.sc undef)), (24, (.sc undef)), (25, (.sc undef))] H) := by kernel_rfl
theorem f96_body (p : Pr β) (n : Nat) (a0 a1 : AV) (H : Heap) (k : AV → Heap → Option β) : evalBody ti0 p n ⟨c96, 26, Go.Proofs.Try.f96.results.toList, o96⟩ [a0, a1] H k = f96 p n a0 a1 H k := by
  rw [f96_raw]
  simp only [f96_l0_eq]
  rfl

/-! 65 loop.example/g00480/laws.eqPacket -/
noncomputable def f65 (p : Pr β) (n : Nat) (a0 a1 : AV) (H : Heap) (k : AV → Heap → Option β) : Option β :=
  p.box a0 H fun t2 H =>
  p.box a1 H fun t3 H =>
  p.fadr 0 t2 fun t5 =>
  p.load false 1 t5 H fun t6 =>
  p.fadr 0 t3 fun t7 =>
  p.load false 1 t7 H fun t8 =>
  p.bin .neq t6 t8 fun t9 =>
  p.cond t9
  (k (.sc (.bool false)) H)
  (p.fadr 1 t2 fun t10 =>
  p.load false 1 t10 H fun t11 =>
  p.fadr 1 t3 fun t12 =>
  p.load false 1 t12 H fun t13 =>
  p.binB .neq t11 t13 fun t14 =>
  p.cond t14
  (k (.sc (.bool false)) H)
  (p.fadr 2 t2 fun t15 =>
  p.load false 1 t15 H fun t16 =>
  p.fadr 2 t3 fun t17 =>
  p.load false 1 t17 H fun t18 =>
  p.bin .neq t16 t18 fun t19 =>
  p.cond t19
  (k (.sc (.bool false)) H)
  (p.fadr 3 t2 fun t20 =>
  p.load false 1 t20 H fun t21 =>
  p.fadr 3 t3 fun t22 =>
  p.load false 1 t22 H fun t23 =>
  p.binB .neq t21 t23 fun t24 =>
  p.cond t24
  (k (.sc (.bool false)) H)
  (p.fadr 4 t2 fun t25 =>
  p.load false 1 t25 H fun t26 =>
  p.fadr 4 t3 fun t27 =>
  p.load false 1 t27 H fun t28 =>
  p.bin .neq t26 t28 fun t29 =>
  p.cond t29
  (k (.sc (.bool false)) H)
  (p.fadr 5 t2 fun t30 =>
  p.load false 1 t30 H fun t31 =>
  p.fadr 5 t3 fun t32 =>
  p.load false 1 t32 H fun t33 =>
  p.bin .neq t31 t33 fun t34 =>
  p.cond t34
  (k (.sc (.bool false)) H)
  (p.fadr 6 t2 fun t35 =>
  p.load false 1 t35 H fun t36 =>
  p.fadr 6 t3 fun t37 =>
  p.load false 1 t37 H fun t38 =>
  p.call 4 (.fn 57 [] []) [t36, t38] H fun t39 H =>
  p.un .not t39 fun t40 =>
  p.cond t40
  (k (.sc (.bool false)) H)
  (p.fadr 7 t2 fun t41 =>
  p.load false 1 t41 H fun t42 =>
  p.fadr 7 t3 fun t43 =>
  p.load false 1 t43 H fun t44 =>
  p.bin .neq t42 t44 fun t45 =>
  p.cond t45
  (k (.sc (.bool false)) H)
  (p.fadr 8 t2 fun t46 =>
  p.load false 1 t46 H fun t47 =>
  p.fadr 8 t3 fun t48 =>
  p.load false 1 t48 H fun t49 =>
  p.bin .neq t47 t49 fun t50 =>
  p.cond t50
  (k (.sc (.bool false)) H)
  (p.fadr 9 t2 fun t51 =>
  p.load false 1 t51 H fun t52 =>
  p.fadr 9 t3 fun t53 =>
  p.load false 1 t53 H fun t54 =>
  p.binB .neq t52 t54 fun t55 =>
  p.cond t55
  (k (.sc (.bool false)) H)
  (p.fadr 10 t2 fun t56 =>
  p.load false 1 t56 H fun t57 =>
  p.fadr 10 t3 fun t58 =>
  p.load false 1 t58 H fun t59 =>
  p.bin .neq t57 t59 fun t60 =>
  p.cond t60
  (k (.sc (.bool false)) H)
  (p.fadr 11 t2 fun t61 =>
  p.load false 1 t61 H fun t62 =>
  p.fadr 11 t3 fun t63 =>
  p.load false 1 t63 H fun t64 =>
  p.binB .neq t62 t64 fun t65 =>
  p.cond t65
  (k (.sc (.bool false)) H)
  (p.fadr 12 t2 fun t66 =>
  p.load false 1 t66 H fun t67 =>
  p.fadr 12 t3 fun t68 =>
  p.load false 1 t68 H fun t69 =>
  p.bin .neq t67 t69 fun t70 =>
  p.cond t70
  (k (.sc (.bool false)) H)
  (p.fadr 13 t2 fun t71 =>
  p.load false 1 t71 H fun t72 =>
  p.fadr 13 t3 fun t73 =>
  p.load false 1 t73 H fun t74 =>
  p.call 4 (.fn 57 [] []) [t72, t74] H fun t75 H =>
  p.un .not t75 fun t76 =>
  p.cond t76
  (k (.sc (.bool false)) H)
  (p.fadr 14 t2 fun t77 =>
  p.load false 1 t77 H fun t78 =>
  p.fadr 14 t3 fun t79 =>
  p.load false 1 t79 H fun t80 =>
  p.bin .neq t78 t80 fun t81 =>
  p.cond t81
  (k (.sc (.bool false)) H)
  (p.fadr 15 t2 fun t82 =>
  p.load false 1 t82 H fun t83 =>
  p.fadr 15 t3 fun t84 =>
  p.load false 1 t84 H fun t85 =>
  p.binB .neq t83 t85 fun t86 =>
  p.cond t86
  (k (.sc (.bool false)) H)
  (p.fadr 16 t2 fun t87 =>
  p.load false 1 t87 H fun t88 =>
  p.fadr 16 t3 fun t89 =>
  p.load false 1 t89 H fun t90 =>
  p.binB .neq t88 t90 fun t91 =>
  p.cond t91
  (k (.sc (.bool false)) H)
  (p.fadr 17 t2 fun t92 =>
  p.load false 1 t92 H fun t93 =>
  p.fadr 17 t3 fun t94 =>
  p.load false 1 t94 H fun t95 =>
  p.bin .neq t93 t95 fun t96 =>
  p.cond t96
  (k (.sc (.bool false)) H)
  (p.fadr 18 t2 fun t97 =>
  p.load false 1 t97 H fun t98 =>
  p.fadr 18 t3 fun t99 =>
  p.load false 1 t99 H fun t100 =>
  p.binB .neq t98 t100 fun t101 =>
  p.cond t101
  (k (.sc (.bool false)) H)
  (p.fadr 19 t2 fun t102 =>
  p.load false 1 t102 H fun t103 =>
  p.fadr 19 t3 fun t104 =>
  p.load false 1 t104 H fun t105 =>
  p.call 4 (.fn 57 [] []) [t103, t105] H fun t106 H =>
  p.un .not t106 fun t107 =>
  p.cond t107
  (k (.sc (.bool false)) H)
  (p.fadr 20 t2 fun t108 =>
  p.load false 1 t108 H fun t109 =>
  p.fadr 20 t3 fun t110 =>
  p.load false 1 t110 H fun t111 =>
  p.bin .neq t109 t111 fun t112 =>
  p.cond t112
  (k (.sc (.bool false)) H)
  (p.fadr 21 t2 fun t113 =>
  p.load false 1 t113 H fun t114 =>
  p.fadr 21 t3 fun t115 =>
  p.load false 1 t115 H fun t116 =>
  p.binB .neq t114 t116 fun t117 =>
  p.cond t117
  (k (.sc (.bool false)) H)
  (p.fadr 22 t2 fun t118 =>
  p.load false 1 t118 H fun t119 =>
  p.fadr 22 t3 fun t120 =>
  p.load false 1 t120 H fun t121 =>
  p.call 4 (.fn 95 [] []) [t119, t121] H fun t122 H =>
  p.un .not t122 fun t123 =>
  p.cond t123
  (k (.sc (.bool false)) H)
  (p.fadr 23 t2 fun t124 =>
  p.load false 1 t124 H fun t125 =>
  p.fadr 23 t3 fun t126 =>
  p.load false 1 t126 H fun t127 =>
  p.call 4 (.fn 96 [] []) [t125, t127] H fun t128 H =>
  p.un .not t128 fun t129 =>
  p.cond t129
  (k (.sc (.bool false)) H)
  (p.fadr 24 t2 fun t130 =>
  p.load false 1 t130 H fun t131 =>
  p.fadr 24 t3 fun t132 =>
  p.load false 1 t132 H fun t133 =>
  p.call 4 (.fn 70 [] []) [t131, t133] H fun t134 H =>
  p.un .not t134 fun t135 =>
  p.cond t135
  (k (.sc (.bool false)) H)
  (k (.sc (.bool true)) H)))))))))))))))))))))))))
theorem f65_body (p : Pr β) (n : Nat) (a0 a1 : AV) (H : Heap) (k : AV → Heap → Option β) : evalBody ti0 p n ⟨c65, 136, Go.Proofs.Try.f65.results.toList, o65⟩ [a0, a1] H k = f65 p n a0 a1 H k := by kernel_rfl

/-! 55 loop.example/g00480/laws.eqPacketS -/
noncomputable def f55_l0 (p : Pr β) (n : Nat)  (k : AV → Heap → Option β) : Nat → AV → AV → AV → Heap → Option β
  | 0, _, _, _, _ => none
  | m + 1, t0, t1, t5, H => p.len t0 fun t13 =>
      p.bin .lss t5 t13 fun t14 =>
      p.cond t14
      (p.iadr 25 t0 t5 fun t19 =>
      p.load true 25 t19 H fun t20 =>
      p.iadr 25 t1 t5 fun t23 =>
      p.load true 25 t23 H fun t24 =>
      p.call 4 (.fn 65 [] []) [t20, t24] H fun t25 H =>
      p.un .not t25 fun t26 =>
      p.cond t26
      (k (.sc (.bool false)) H)
      (p.bin .add t5 (.sc (.int .i64 1)) fun t16 =>
      f55_l0 p n  k m t0 t1 t16 H))
      (k (.sc (.bool true)) H)
noncomputable def f55 (p : Pr β) (n : Nat) (a0 a1 : AV) (H : Heap) (k : AV → Heap → Option β) : Option β :=
  p.len a0 fun t7 =>
  p.len a1 fun t9 =>
  p.bin .neq t7 t9 fun t10 =>
  p.cond t10
  (k (.sc (.bool false)) H)
  (f55_l0 p n  k n a0 a1 (.sc (.int .i64 0)) H)
noncomputable def f55_L0 (p : Pr β) (n : Nat)  (k : AV → Heap → Option β) (m : Nat) (tm : Tm) (H : Heap) : Option β :=
  iterC 27 (fun tm H k => evalCode ti0 p o55 27 n (cd c55 [1, 1, 0, 1, 0, 0]) tm H k) (blkK 0 (seqK (fun tm H => evalCode ti0 p o55 27 n (cd c55 [1, 1, 1]) tm H (endK ti0 p Go.Proofs.Try.f55.results.toList k)) (endK ti0 p Go.Proofs.Try.f55.results.toList k))) m tm H
theorem f55_L0_step (p : Pr β) (n : Nat)  (k : AV → Heap → Option β) (m0 : Nat) (t0 t1 t2 t3 t4 t5 t6 t7 t8 t9 t10 t11 t12 t13 t14 t15 t16 t17 t18 t19 t20 t21 t22 t23 t24 t25 t26 : AV) (H : Heap) : f55_L0 p n  k (m0 + 1) [(0, t0), (1, t1), (2, t2), (3, t3), (4, t4), (5, t5), (6, t6), (7, t7), (8, t8), (9, t9), (10, t10), (11, t11), (12, t12), (13, t13), (14, t14), (15, t15), (16, t16), (17, t17), (18, t18), (19, t19), (20, t20), (21, t21), (22, t22), (23, t23), (24, t24), (25, t25), (26, t26)] H =
  p.len t0 fun t13 =>
  p.bin .lss t5 t13 fun t14 =>
  p.cond t14
  (p.iadr 25 t0 t5 fun t19 =>
  p.load true 25 t19 H fun t20 =>
  p.iadr 25 t1 t5 fun t23 =>
  p.load true 25 t23 H fun t24 =>
  p.call 4 (.fn 65 [] []) [t20, t24] H fun t25 H =>
  p.un .not t25 fun t26 =>
  p.cond t26
  (k (.sc (.bool false)) H)
  (p.bin .add t5 (.sc (.int .i64 1)) fun t16 =>
  f55_L0 p n  k m0 [(0, t0), (1, t1), (2, t2), (3, t3), (4, t4), (5, t16), (6, t6), (7, t7), (8, t8), (9, t9), (10, t10), (11, t5), (12, t0), (13, t13), (14, t14), (15, t5), (16, t16), (17, t0), (18, t5), (19, t19), (20, t20), (21, t1), (22, t5), (23, t23), (24, t24), (25, t25), (26, t26)] H))
  (k (.sc (.bool true)) H) := by kernel_rfl
theorem f55_l0_eq (p : Pr β) (n : Nat)  (k : AV → Heap → Option β)   (m0 : Nat) : ∀ (t0 t1 t2 t3 t4 t5 t6 t7 t8 t9 t10 t11 t12 t13 t14 t15 t16 t17 t18 t19 t20 t21 t22 t23 t24 t25 t26 : AV) (H : Heap), f55_L0 p n  k m0 [(0, t0), (1, t1), (2, t2), (3, t3), (4, t4), (5, t5), (6, t6), (7, t7), (8, t8), (9, t9), (10, t10), (11, t11), (12, t12), (13, t13), (14, t14), (15, t15), (16, t16), (17, t17), (18, t18), (19, t19), (20, t20), (21, t21), (22, t22), (23, t23), (24, t24), (25, t25), (26, t26)] H = f55_l0 p n  k m0 t0 t1 t5 H := by
  induction m0 with
  | zero => intros; rfl
  | succ m0 ih =>
    intro t0 t1 t2 t3 t4 t5 t6 t7 t8 t9 t10 t11 t12 t13 t14 t15 t16 t17 t18 t19 t20 t21 t22 t23 t24 t25 t26 H
    rw [f55_L0_step]
    simp only [ih]
    rfl
theorem f55_raw (p : Pr β) (n : Nat) (a0 a1 : AV) (H : Heap) (k : AV → Heap → Option β) : evalBody ti0 p n ⟨c55, 27, Go.Proofs.Try.f55.results.toList, o55⟩ [a0, a1] H k =
  p.len a0 fun t7 =>
  p.len a1 fun t9 =>
  p.bin .neq t7 t9 fun t10 =>
  p.cond t10
  (k (.sc (.bool false)) H)
  (f55_L0 p n  k n [(0, a0), (1, a1), (2, (.sc undef)), (3, (.sc undef)), (4, (.sc (.bool false))), (5, (.sc (.int .i64 0))), (6, a0), (7, t7), (8, a1), (9, t9), (10, t10), (11, (.sc undef)), (12, (.sc undef)), (13, (.sc undef)), (14, (.sc undef)), (15, (.sc undef)), (16, (.sc undef)), (17, (.sc undef)), (18, (.sc undef)), (19, (.sc undef)), (20, (.sc undef)), (21, (.sc undef)), (22, (.sc undef)), (23, (.sc undef)), (24, (.sc undef)), (25, (.sc undef)), (26, (.sc undef))] H) := by kernel_rfl
theorem f55_body (p : Pr β) (n : Nat) (a0 a1 : AV) (H : Heap) (k : AV → Heap → Option β) : evalBody ti0 p n ⟨c55, 27, Go.Proofs.Try.f55.results.toList, o55⟩ [a0, a1] H k = f55 p n a0 a1 H k := by
  rw [f55_raw]
  simp only [f55_l0_eq]
  rfl

/-! 20 loop.example/g00480/laws.eqConn -/
noncomputable def f20 (p : Pr β) (n : Nat) (a0 a1 : AV) (H : Heap) (k : AV → Heap → Option β) : Option β :=
  p.box a0 H fun t2 H =>
  p.box a1 H fun t3 H =>
  p.fadr 0 t2 fun t5 =>
  p.load false 1 t5 H fun t6 =>
  p.fadr 0 t3 fun t7 =>
  p.load false 1 t7 H fun t8 =>
  p.binB .neq t6 t8 fun t9 =>
  p.cond t9
  (k (.sc (.bool false)) H)
  (p.fadr 1 t2 fun t10 =>
  p.load false 1 t10 H fun t11 =>
  p.fadr 1 t3 fun t12 =>
  p.load false 1 t12 H fun t13 =>
  p.bin .neq t11 t13 fun t14 =>
  p.cond t14
  (k (.sc (.bool false)) H)
  (p.fadr 2 t2 fun t15 =>
  p.load true 2 t15 H fun t16 =>
  p.fadr 2 t3 fun t17 =>
  p.load true 2 t17 H fun t18 =>
  p.call 4 (.fn 54 [] []) [t16, t18] H fun t19 H =>
  p.un .not t19 fun t20 =>
  p.cond t20
  (k (.sc (.bool false)) H)
  (p.fadr 4 t2 fun t21 =>
  p.load false 1 t21 H fun t22 =>
  p.fadr 4 t3 fun t23 =>
  p.load false 1 t23 H fun t24 =>
  p.call 4 (.fn 55 [] []) [t22, t24] H fun t25 H =>
  p.un .not t25 fun t26 =>
  p.cond t26
  (k (.sc (.bool false)) H)
  (p.fadr 5 t2 fun t27 =>
  p.load false 1 t27 H fun t28 =>
  p.fadr 5 t3 fun t29 =>
  p.load false 1 t29 H fun t30 =>
  p.binB .neq t28 t30 fun t31 =>
  p.cond t31
  (k (.sc (.bool false)) H)
  (p.fadr 6 t2 fun t32 =>
  p.load false 1 t32 H fun t33 =>
  p.fadr 6 t3 fun t34 =>
  p.load false 1 t34 H fun t35 =>
  p.bin .neq t33 t35 fun t36 =>
  p.cond t36
  (k (.sc (.bool false)) H)
  (p.fadr 7 t2 fun t37 =>
  p.load false 1 t37 H fun t38 =>
  p.fadr 7 t3 fun t39 =>
  p.load false 1 t39 H fun t40 =>
  p.bin .neq t38 t40 fun t41 =>
  p.cond t41
  (k (.sc (.bool false)) H)
  (p.fadr 8 t2 fun t42 =>
  p.load false 1 t42 H fun t43 =>
  p.fadr 8 t3 fun t44 =>
  p.load false 1 t44 H fun t45 =>
  p.bin .neq t43 t45 fun t46 =>
  p.cond t46
  (k (.sc (.bool false)) H)
  (p.fadr 9 t2 fun t47 =>
  p.load false 1 t47 H fun t48 =>
  p.fadr 9 t3 fun t49 =>
  p.load false 1 t49 H fun t50 =>
  p.binB .neq t48 t50 fun t51 =>
  p.cond t51
  (k (.sc (.bool false)) H)
  (p.fadr 10 t2 fun t52 =>
  p.load true 4 t52 H fun t53 =>
  p.fadr 10 t3 fun t54 =>
  p.load true 4 t54 H fun t55 =>
  p.call 4 (.fn 56 [] []) [t53, t55] H fun t56 H =>
  p.un .not t56 fun t57 =>
  p.cond t57
  (k (.sc (.bool false)) H)
  (p.fadr 14 t2 fun t58 =>
  p.load false 1 t58 H fun t59 =>
  p.fadr 14 t3 fun t60 =>
  p.load false 1 t60 H fun t61 =>
  p.binB .neq t59 t61 fun t62 =>
  p.cond t62
  (k (.sc (.bool false)) H)
  (p.fadr 15 t2 fun t63 =>
  p.load false 1 t63 H fun t64 =>
  p.fadr 15 t3 fun t65 =>
  p.load false 1 t65 H fun t66 =>
  p.call 4 (.fn 57 [] []) [t64, t66] H fun t67 H =>
  p.un .not t67 fun t68 =>
  p.cond t68
  (k (.sc (.bool false)) H)
  (k (.sc (.bool true)) H))))))))))))
theorem f20_body (p : Pr β) (n : Nat) (a0 a1 : AV) (H : Heap) (k : AV → Heap → Option β) : evalBody ti0 p n ⟨c20, 69, Go.Proofs.Try.f20.results.toList, o20⟩ [a0, a1] H k = f20 p n a0 a1 H k := by kernel_rfl

/-! 4 loop.example/g00480/laws.FnExactHasRoom -/
noncomputable def f4 (p : Pr β) (n : Nat) (a0 : AV) (H : Heap) (k : AV → Heap → Option β) : Option β :=
  p.box a0 H fun t1 H =>
  p.load true 16 t1 H fun t7 =>
  p.call 3 (.fn 16 [] []) [t7, (.sc (.int .i64 1048576))] H fun t9 H =>
  p.bin .lss t9 (.sc (.int .i64 0)) fun t11 =>
  p.cond t11
  (k (.sc (.bool true)) H)
  (p.load true 16 t1 H fun t12 =>
  p.call 47 (.fn 18 [] []) [t12] H fun t13 H =>
  p.call 4 (.fn 17 [] []) [t13] H fun t14 H =>
  p.load true 16 t1 H fun t15 =>
  p.call 47 (.fn 18 [] []) [t15] H fun t16 H =>
  p.new [(.sc (.bool false)), (.sc (.int .i64 0)), .nl, (.sc (.bool false)), .nl, (.sc (.bool false)), (.sc (.string ⟨#[]⟩)), (.sc (.int .i64 0)), (.sc (.int .i64 0)), (.sc (.bool false)), (.sc (.string ⟨#[]⟩)), .nl, (.sc (.int .i64 0)), (.sc (.bool false)), (.sc (.bool false)), .nl] H fun t5 H =>
  p.store 16 t5 t16 H fun H =>
  p.load true 16 t5 H fun t17 =>
  p.call 4 (.fn 19 [] []) [t17] H fun t18 H =>
  p.binB .neq t18 t14 fun t21 =>
  p.cond t21
  (k (.sc (.bool false)) H)
  (p.load true 16 t5 H fun t22 =>
  p.load true 16 t1 H fun t23 =>
  p.call 47 (.fn 18 [] []) [t23] H fun t24 H =>
  p.call 4 (.fn 20 [] []) [t22, t24] H fun t25 H =>
  p.un .not t25 fun t26 =>
  p.cond t26
  (k (.sc (.bool false)) H)
  (k (.sc (.bool true)) H)))
theorem f4_body (p : Pr β) (n : Nat) (a0 : AV) (H : Heap) (k : AV → Heap → Option β) : evalBody ti0 p n ⟨c4, 27, Go.Proofs.Try.f4.results.toList, o4⟩ [a0] H k = f4 p n a0 H k := by kernel_rfl

/-! 91 loop.example/g00480/laws.szSub -/
noncomputable def f91 (p : Pr β) (n : Nat) (a0 a1 : AV) (H : Heap) (k : AV → Heap → Option β) : Option β :=
  p.box a0 H fun t2 H =>
  p.fadr 0 t2 fun t6 =>
  p.load false 1 t6 H fun t7 =>
  p.lenS t7 fun t8 =>
  p.bin .sub a1 t8 fun t9 =>
  p.bin .lss t9 (.sc (.int .i64 0)) fun t11 =>
  p.cond t11
  (k (.sc (.int .i64 (-1))) H)
  (k t9 H)
theorem f91_body (p : Pr β) (n : Nat) (a0 a1 : AV) (H : Heap) (k : AV → Heap → Option β) : evalBody ti0 p n ⟨c91, 13, Go.Proofs.Try.f91.results.toList, o91⟩ [a0, a1] H k = f91 p n a0 a1 H k := by kernel_rfl

/-! 59 loop.example/g00480/laws.szSubS -/
noncomputable def f59_l0 (p : Pr β) (n : Nat)  (k : AV → Heap → Option β) : Nat → AV → AV → AV → Heap → Option β
  | 0, _, _, _, _ => none
  | m + 1, t0, t1, t5, H => p.len t0 fun t14 =>
      p.bin .lss t5 t14 fun t15 =>
      p.cond t15
      (p.iadr 3 t0 t5 fun t20 =>
      p.load true 3 t20 H fun t21 =>
      p.call 3 (.fn 91 [] []) [t21, t1] H fun t23 H =>
      p.bin .lss t23 (.sc (.int .i64 0)) fun t25 =>
      p.cond t25
      (k (.sc (.int .i64 (-1))) H)
      (p.bin .add t5 (.sc (.int .i64 1)) fun t17 =>
      f59_l0 p n  k m t0 t23 t17 H))
      (k t1 H)
noncomputable def f59 (p : Pr β) (n : Nat) (a0 a1 : AV) (H : Heap) (k : AV → Heap → Option β) : Option β :=
  p.len a0 fun t8 =>
  p.bin .sub a1 t8 fun t9 =>
  p.bin .lss t9 (.sc (.int .i64 0)) fun t11 =>
  p.cond t11
  (k (.sc (.int .i64 (-1))) H)
  (f59_l0 p n  k n a0 t9 (.sc (.int .i64 0)) H)
noncomputable def f59_L0 (p : Pr β) (n : Nat)  (k : AV → Heap → Option β) (m : Nat) (tm : Tm) (H : Heap) : Option β :=
  iterC 27 (fun tm H k => evalCode ti0 p o59 27 n (cd c59 [1, 1, 1, 0, 1, 0, 0]) tm H k) (blkK 0 (seqK (fun tm H => evalCode ti0 p o59 27 n (cd c59 [1, 1, 1, 1]) tm H (endK ti0 p Go.Proofs.Try.f59.results.toList k)) (endK ti0 p Go.Proofs.Try.f59.results.toList k))) m tm H
theorem f59_L0_step (p : Pr β) (n : Nat)  (k : AV → Heap → Option β) (m0 : Nat) (t0 t1 t2 t3 t4 t5 t6 t7 t8 t9 t10 t11 t12 t13 t14 t15 t16 t17 t18 t19 t20 t21 t22 t23 t24 t25 t26 : AV) (H : Heap) : f59_L0 p n  k (m0 + 1) [(0, t0), (1, t1), (2, t2), (3, t3), (4, t4), (5, t5), (6, t6), (7, t7), (8, t8), (9, t9), (10, t10), (11, t11), (12, t12), (13, t13), (14, t14), (15, t15), (16, t16), (17, t17), (18, t18), (19, t19), (20, t20), (21, t21), (22, t22), (23, t23), (24, t24), (25, t25), (26, t26)] H =
  p.len t0 fun t14 =>
  p.bin .lss t5 t14 fun t15 =>
  p.cond t15
  (p.iadr 3 t0 t5 fun t20 =>
  p.load true 3 t20 H fun t21 =>
  p.call 3 (.fn 91 [] []) [t21, t1] H fun t23 H =>
  p.bin .lss t23 (.sc (.int .i64 0)) fun t25 =>
  p.cond t25
  (k (.sc (.int .i64 (-1))) H)
  (p.bin .add t5 (.sc (.int .i64 1)) fun t17 =>
  f59_L0 p n  k m0 [(0, t0), (1, t23), (2, t2), (3, t3), (4, t4), (5, t17), (6, t6), (7, t7), (8, t8), (9, t9), (10, t10), (11, t11), (12, t5), (13, t0), (14, t14), (15, t15), (16, t5), (17, t17), (18, t0), (19, t5), (20, t20), (21, t21), (22, t1), (23, t23), (24, t23), (25, t25), (26, t26)] H))
  (k t1 H) := by kernel_rfl
theorem f59_l0_eq (p : Pr β) (n : Nat)  (k : AV → Heap → Option β)   (m0 : Nat) : ∀ (t0 t1 t2 t3 t4 t5 t6 t7 t8 t9 t10 t11 t12 t13 t14 t15 t16 t17 t18 t19 t20 t21 t22 t23 t24 t25 t26 : AV) (H : Heap), f59_L0 p n  k m0 [(0, t0), (1, t1), (2, t2), (3, t3), (4, t4), (5, t5), (6, t6), (7, t7), (8, t8), (9, t9), (10, t10), (11, t11), (12, t12), (13, t13), (14, t14), (15, t15), (16, t16), (17, t17), (18, t18), (19, t19), (20, t20), (21, t21), (22, t22), (23, t23), (24, t24), (25, t25), (26, t26)] H = f59_l0 p n  k m0 t0 t1 t5 H := by
  induction m0 with
  | zero => intros; rfl
  | succ m0 ih =>
    intro t0 t1 t2 t3 t4 t5 t6 t7 t8 t9 t10 t11 t12 t13 t14 t15 t16 t17 t18 t19 t20 t21 t22 t23 t24 t25 t26 H
    rw [f59_L0_step]
    simp only [ih]
    rfl
theorem f59_raw (p : Pr β) (n : Nat) (a0 a1 : AV) (H : Heap) (k : AV → Heap → Option β) : evalBody ti0 p n ⟨c59, 27, Go.Proofs.Try.f59.results.toList, o59⟩ [a0, a1] H k =
  p.len a0 fun t8 =>
  p.bin .sub a1 t8 fun t9 =>
  p.bin .lss t9 (.sc (.int .i64 0)) fun t11 =>
  p.cond t11
  (k (.sc (.int .i64 (-1))) H)
  (f59_L0 p n  k n [(0, a0), (1, t9), (2, (.sc undef)), (3, (.sc undef)), (4, (.sc (.int .i64 0))), (5, (.sc (.int .i64 0))), (6, a1), (7, a0), (8, t8), (9, t9), (10, t9), (11, t11), (12, (.sc undef)), (13, (.sc undef)), (14, (.sc undef)), (15, (.sc undef)), (16, (.sc undef)), (17, (.sc undef)), (18, (.sc undef)), (19, (.sc undef)), (20, (.sc undef)), (21, (.sc undef)), (22, (.sc undef)), (23, (.sc undef)), (24, (.sc undef)), (25, (.sc undef)), (26, (.sc undef))] H) := by kernel_rfl
theorem f59_body (p : Pr β) (n : Nat) (a0 a1 : AV) (H : Heap) (k : AV → Heap → Option β) : evalBody ti0 p n ⟨c59, 27, Go.Proofs.Try.f59.results.toList, o59⟩ [a0, a1] H k = f59 p n a0 a1 H k := by
  rw [f59_raw]
  simp only [f59_l0_eq]
  rfl

/-! 21 loop.example/g00480/laws.szTask -/
noncomputable def f21 (p : Pr β) (n : Nat) (a0 a1 : AV) (H : Heap) (k : AV → Heap → Option β) : Option β :=
  p.box a0 H fun t2 H =>
  p.fadr 2 t2 fun t6 =>
  p.load false 1 t6 H fun t7 =>
  p.lenS t7 fun t8 =>
  p.bin .sub a1 t8 fun t9 =>
  p.bin .lss t9 (.sc (.int .i64 0)) fun t11 =>
  p.cond t11
  (k (.sc (.int .i64 (-1))) H)
  (p.fadr 3 t2 fun t12 =>
  p.load true 25 t12 H fun t13 =>
  p.call 3 (.fn 58 [] []) [t13, t9] H fun t15 H =>
  p.bin .lss t15 (.sc (.int .i64 0)) fun t17 =>
  p.cond t17
  (k (.sc (.int .i64 (-1))) H)
  (p.fadr 28 t2 fun t18 =>
  p.load false 1 t18 H fun t19 =>
  p.call 3 (.fn 59 [] []) [t19, t15] H fun t21 H =>
  p.bin .lss t21 (.sc (.int .i64 0)) fun t23 =>
  p.cond t23
  (k (.sc (.int .i64 (-1))) H)
  (p.fadr 29 t2 fun t24 =>
  p.load true 4 t24 H fun t25 =>
  p.call 3 (.fn 48 [] []) [t25, t21] H fun t27 H =>
  p.bin .lss t27 (.sc (.int .i64 0)) fun t29 =>
  p.cond t29
  (k (.sc (.int .i64 (-1))) H)
  (p.fadr 33 t2 fun t30 =>
  p.load false 1 t30 H fun t31 =>
  p.call 3 (.fn 60 [] []) [t31, t27] H fun t33 H =>
  p.bin .lss t33 (.sc (.int .i64 0)) fun t35 =>
  p.cond t35
  (k (.sc (.int .i64 (-1))) H)
  (k t33 H)))))
theorem f21_body (p : Pr β) (n : Nat) (a0 a1 : AV) (H : Heap) (k : AV → Heap → Option β) : evalBody ti0 p n ⟨c21, 37, Go.Proofs.Try.f21.results.toList, o21⟩ [a0, a1] H k = f21 p n a0 a1 H k := by kernel_rfl

/-! 94 loop.example/g00480/laws.toSub -/
noncomputable def f94 (p : Pr β) (n : Nat) (a0 : AV) (H : Heap) (k : AV → Heap → Option β) : Option β :=
  p.box a0 H fun t1 H =>
  p.new [(.sc (.string ⟨#[]⟩)), (.sc (.int .i64 0)), (.sc (.int .i64 0))] H fun t2 H =>
  p.new [(.sc (.string ⟨#[]⟩)), (.sc (.int .i64 0)), (.sc (.int .i64 0))] H fun t3 H =>
  p.fadr 0 t1 fun t4 =>
  p.load false 1 t4 H fun t5 =>
  p.fadr 0 t3 fun t6 =>
  p.store 1 t6 t5 H fun H =>
  p.fadr 1 t1 fun t7 =>
  p.load false 1 t7 H fun t8 =>
  p.fadr 1 t3 fun t9 =>
  p.store 1 t9 t8 H fun H =>
  p.fadr 2 t1 fun t10 =>
  p.load false 1 t10 H fun t11 =>
  p.fadr 2 t3 fun t12 =>
  p.store 1 t12 t11 H fun H =>
  p.load true 3 t3 H fun t13 =>
  p.store 3 t2 t13 H fun H =>
  p.load true 3 t2 H fun r0 =>
  k r0 H
theorem f94_body (p : Pr β) (n : Nat) (a0 : AV) (H : Heap) (k : AV → Heap → Option β) : evalBody ti0 p n ⟨c94, 14, Go.Proofs.Try.f94.results.toList, o94⟩ [a0] H k = f94 p n a0 H k := by kernel_rfl

/-! 63 loop.example/g00480/laws.toSubS -/
noncomputable def f63_l0 (p : Pr β) (n : Nat)  (k : AV → Heap → Option β) : Nat → AV → AV → AV → Heap → Option β
  | 0, _, _, _, _ => none
  | m + 1, t0, t3, t4, H => p.len t0 fun t10 =>
      p.bin .lss t4 t10 fun t11 =>
      p.cond t11
      (p.iadr 3 t0 t4 fun t18 =>
      p.load true 3 t18 H fun t19 =>
      p.call 122 (.fn 94 [] []) [t19] H fun t20 H =>
      p.iadr 3 t3 t4 fun t21 =>
      p.store 3 t21 t20 H fun H =>
      p.bin .add t4 (.sc (.int .i64 1)) fun t13 =>
      f63_l0 p n  k m t0 t3 t13 H)
      (k t3 H)
noncomputable def f63 (p : Pr β) (n : Nat) (a0 : AV) (H : Heap) (k : AV → Heap → Option β) : Option β :=
  p.len a0 fun t6 =>
  p.make 3 32 [(.sc (.string ⟨#[]⟩)), (.sc (.int .i64 0)), (.sc (.int .i64 0))] t6 t6 H fun t7 H =>
  f63_l0 p n  k n a0 t7 (.sc (.int .i64 0)) H
noncomputable def f63_L0 (p : Pr β) (n : Nat)  (k : AV → Heap → Option β) (m : Nat) (tm : Tm) (H : Heap) : Option β :=
  iterC 23 (fun tm H k => evalCode ti0 p o63 23 n (cd c63 [1, 1, 0, 1, 0, 0]) tm H k) (blkK 0 (seqK (fun tm H => evalCode ti0 p o63 23 n (cd c63 [1, 1, 1]) tm H (endK ti0 p Go.Proofs.Try.f63.results.toList k)) (endK ti0 p Go.Proofs.Try.f63.results.toList k))) m tm H
theorem f63_L0_step (p : Pr β) (n : Nat)  (k : AV → Heap → Option β) (m0 : Nat) (t0 t1 t2 t3 t4 t5 t6 t7 t8 t9 t10 t11 t12 t13 t14 t15 t16 t17 t18 t19 t20 t21 t22 : AV) (H : Heap) : f63_L0 p n  k (m0 + 1) [(0, t0), (1, t1), (2, t2), (3, t3), (4, t4), (5, t5), (6, t6), (7, t7), (8, t8), (9, t9), (10, t10), (11, t11), (12, t12), (13, t13), (14, t14), (15, t15), (16, t16), (17, t17), (18, t18), (19, t19), (20, t20), (21, t21), (22, t22)] H =
  p.len t0 fun t10 =>
  p.bin .lss t4 t10 fun t11 =>
  p.cond t11
  (p.iadr 3 t0 t4 fun t18 =>
  p.load true 3 t18 H fun t19 =>
  p.call 122 (.fn 94 [] []) [t19] H fun t20 H =>
  p.iadr 3 t3 t4 fun t21 =>
  p.store 3 t21 t20 H fun H =>
  p.bin .add t4 (.sc (.int .i64 1)) fun t13 =>
  f63_L0 p n  k m0 [(0, t0), (1, t1), (2, t2), (3, t3), (4, t13), (5, t5), (6, t6), (7, t7), (8, t4), (9, t0), (10, t10), (11, t11), (12, t4), (13, t13), (14, t3), (15, t4), (16, t0), (17, t4), (18, t18), (19, t19), (20, t20), (21, t21), (22, t22)] H)
  (k t3 H) := by kernel_rfl
theorem f63_l0_eq (p : Pr β) (n : Nat)  (k : AV → Heap → Option β)   (m0 : Nat) : ∀ (t0 t1 t2 t3 t4 t5 t6 t7 t8 t9 t10 t11 t12 t13 t14 t15 t16 t17 t18 t19 t20 t21 t22 : AV) (H : Heap), f63_L0 p n  k m0 [(0, t0), (1, t1), (2, t2), (3, t3), (4, t4), (5, t5), (6, t6), (7, t7), (8, t8), (9, t9), (10, t10), (11, t11), (12, t12), (13, t13), (14, t14), (15, t15), (16, t16), (17, t17), (18, t18), (19, t19), (20, t20), (21, t21), (22, t22)] H = f63_l0 p n  k m0 t0 t3 t4 H := by
  induction m0 with
  | zero => intros; rfl
  | succ m0 ih =>
    intro t0 t1 t2 t3 t4 t5 t6 t7 t8 t9 t10 t11 t12 t13 t14 t15 t16 t17 t18 t19 t20 t21 t22 H
    rw [f63_L0_step]
    simp only [ih]
    rfl
theorem f63_raw (p : Pr β) (n : Nat) (a0 : AV) (H : Heap) (k : AV → Heap → Option β) : evalBody ti0 p n ⟨c63, 23, Go.Proofs.Try.f63.results.toList, o63⟩ [a0] H k =
  p.len a0 fun t6 =>
  p.make 3 32 [(.sc (.string ⟨#[]⟩)), (.sc (.int .i64 0)), (.sc (.int .i64 0))] t6 t6 H fun t7 H =>
  f63_L0 p n  k n [(0, a0), (1, (.sc undef)), (2, .nl), (3, t7), (4, (.sc (.int .i64 0))), (5, a0), (6, t6), (7, t7), (8, (.sc undef)), (9, (.sc undef)), (10, (.sc undef)), (11, (.sc undef)), (12, (.sc undef)), (13, (.sc undef)), (14, (.sc undef)), (15, (.sc undef)), (16, (.sc undef)), (17, (.sc undef)), (18, (.sc undef)), (19, (.sc undef)), (20, (.sc undef)), (21, (.sc undef)), (22, (.sc undef))] H := by kernel_rfl
theorem f63_body (p : Pr β) (n : Nat) (a0 : AV) (H : Heap) (k : AV → Heap → Option β) : evalBody ti0 p n ⟨c63, 23, Go.Proofs.Try.f63.results.toList, o63⟩ [a0] H k = f63 p n a0 H k := by
  rw [f63_raw]
  simp only [f63_l0_eq]
  rfl

/-! 23 loop.example/g00480/laws.toTask -/
noncomputable def f23 (p : Pr β) (n : Nat) (a0 : AV) (H : Heap) (k : AV → Heap → Option β) : Option β :=
  p.box a0 H fun t1 H =>
  p.new [(.sc (.int .i64 0)), (.sc (.int .i64 0)), (.sc (.string ⟨#[]⟩)), (.sc (.int .i64 0)), (.sc (.bool false)), (.sc (.int .i64 0)), (.sc (.bool false)), (.sc (.int .i64 0)), (.sc (.string ⟨#[]⟩)), .nl, (.sc (.string ⟨#[]⟩)), (.sc (.int .i64 0)), (.sc (.bool false)), (.sc (.int .i64 0)), (.sc (.bool false)), (.sc (.string ⟨#[]⟩)), .nl, (.sc (.int .i64 0)), (.sc (.bool false)), (.sc (.bool false)), (.sc (.string ⟨#[]⟩)), (.sc (.bool false)), .nl, (.sc (.int .i64 0)), (.sc (.bool false)), .nl, .nl, .nl, .nl, (.sc (.string ⟨#[]⟩)), .nl, (.sc (.int .i64 0)), (.sc (.bool false)), .nl, (.sc (.int .i64 0))] H fun t2 H =>
  p.new [(.sc (.int .i64 0)), (.sc (.int .i64 0)), (.sc (.string ⟨#[]⟩)), (.sc (.int .i64 0)), (.sc (.bool false)), (.sc (.int .i64 0)), (.sc (.bool false)), (.sc (.int .i64 0)), (.sc (.string ⟨#[]⟩)), .nl, (.sc (.string ⟨#[]⟩)), (.sc (.int .i64 0)), (.sc (.bool false)), (.sc (.int .i64 0)), (.sc (.bool false)), (.sc (.string ⟨#[]⟩)), .nl, (.sc (.int .i64 0)), (.sc (.bool false)), (.sc (.bool false)), (.sc (.string ⟨#[]⟩)), (.sc (.bool false)), .nl, (.sc (.int .i64 0)), (.sc (.bool false)), .nl, .nl, .nl, .nl, (.sc (.string ⟨#[]⟩)), .nl, (.sc (.int .i64 0)), (.sc (.bool false)), .nl, (.sc (.int .i64 0))] H fun t3 H =>
  p.fadr 0 t1 fun t4 =>
  p.load false 1 t4 H fun t5 =>
  p.fadr 0 t3 fun t6 =>
  p.store 1 t6 t5 H fun H =>
  p.fadr 1 t1 fun t7 =>
  p.load false 1 t7 H fun t8 =>
  p.fadr 1 t3 fun t9 =>
  p.store 1 t9 t8 H fun H =>
  p.fadr 2 t1 fun t10 =>
  p.load false 1 t10 H fun t11 =>
  p.fadr 2 t3 fun t12 =>
  p.store 1 t12 t11 H fun H =>
  p.fadr 3 t1 fun t13 =>
  p.load true 25 t13 H fun t14 =>
  p.call 64 (.fn 62 [] []) [t14] H fun t15 H =>
  p.fadr 3 t3 fun t16 =>
  p.store 25 t16 t15 H fun H =>
  p.fadr 28 t1 fun t17 =>
  p.load false 1 t17 H fun t18 =>
  p.call 65 (.fn 63 [] []) [t18] H fun t19 H =>
  p.fadr 28 t3 fun t20 =>
  p.store 1 t20 t19 H fun H =>
  p.fadr 29 t1 fun t21 =>
  p.load true 4 t21 H fun t22 =>
  p.call 45 (.fn 52 [] []) [t22] H fun t23 H =>
  p.fadr 29 t3 fun t24 =>
  p.store 4 t24 t23 H fun H =>
  p.fadr 33 t1 fun t25 =>
  p.load false 1 t25 H fun t26 =>
  p.call 66 (.fn 64 [] []) [t26] H fun t27 H =>
  p.fadr 33 t3 fun t28 =>
  p.store 1 t28 t27 H fun H =>
  p.fadr 34 t1 fun t29 =>
  p.load false 1 t29 H fun t30 =>
  p.fadr 34 t3 fun t31 =>
  p.store 1 t31 t30 H fun H =>
  p.load true 35 t3 H fun t32 =>
  p.store 35 t2 t32 H fun H =>
  p.load true 35 t2 H fun r0 =>
  k r0 H
theorem f23_body (p : Pr β) (n : Nat) (a0 : AV) (H : Heap) (k : AV → Heap → Option β) : evalBody ti0 p n ⟨c23, 33, Go.Proofs.Try.f23.results.toList, o23⟩ [a0] H k = f23 p n a0 H k := by kernel_rfl

/-! 61 loop.example/g00480/spec.l1In -/
noncomputable def f61 (p : Pr β) (n : Nat) (a0 a1 a2 : AV) (H : Heap) (k : AV → Heap → Option β) : Option β :=
  p.bin .geq a0 a1 fun t9 =>
  p.guard t9 true H (fun k' => k' a0 H) fun t11 H =>
  p.guard t9 true H (fun k' => k' a2 H) fun t12 H =>
  p.guard t9 true H (fun k' => p.bin .leq t11 t12 fun t' => k' t' H) fun t13 H =>
  p.pick t9 t13 (.sc (.bool false)) fun t14 =>
  k t14 H
theorem f61_body (p : Pr β) (n : Nat) (a0 a1 a2 : AV) (H : Heap) (k : AV → Heap → Option β) : evalBody ti0 p n ⟨c61, 15, Go.Proofs.Try.f61.results.toList, o61⟩ [a0, a1, a2] H k = f61 p n a0 a1 a2 H k := by kernel_rfl

/-! 22 loop.example/g00480/spec.HoldsRoot -/
noncomputable def f22 (p : Pr β) (n : Nat) (a0 : AV) (H : Heap) (k : AV → Heap → Option β) : Option β :=
  p.box a0 H fun t1 H =>
  p.fadr 0 t1 fun t3 =>
  p.load false 1 t3 H fun t4 =>
  p.call 4 (.fn 61 [] []) [t4, (.sc (.int .i64 1)), (.sc (.int .i64 4))] H fun t5 H =>
  p.guard t5 true H (fun k' => p.fadr 1 t1 fun t' => k' t' H) fun t7 H =>
  p.guard t5 true H (fun k' => p.load false 1 t7 H fun t' => k' t' H) fun t8 H =>
  p.guard t5 true H (fun k' => p.bin .eql t8 (.sc (.int .i64 3)) fun t' => k' t' H) fun t9 H =>
  p.pick t5 t9 (.sc (.bool false)) fun t10 =>
  p.guard t10 false H (fun k' => p.fadr 0 t1 fun t' => k' t' H) fun t12 H =>
  p.guard t10 false H (fun k' => p.load false 1 t12 H fun t' => k' t' H) fun t13 H =>
  p.guard t10 false H (fun k' => p.bin .eql t13 (.sc (.int .i64 6)) fun t' => k' t' H) fun t14 H =>
  p.guard t10 false H (fun k' => k' t14 H) fun t15 H =>
  p.guard t15 true H (fun k' => p.fadr 1 t1 fun t' => k' t' H) fun t16 H =>
  p.guard t15 true H (fun k' => p.load false 1 t16 H fun t' => k' t' H) fun t17 H =>
  p.guard t15 true H (fun k' => p.bin .eql t17 (.sc (.int .i64 3)) fun t' => k' t' H) fun t18 H =>
  p.guard t15 true H (fun k' => k' t18 H) fun t19 H =>
  p.guard t19 false H (fun k' => p.fadr 1 t1 fun t' => k' t' H) fun t20 H =>
  p.guard t19 false H (fun k' => p.load false 1 t20 H fun t' => k' t' H) fun t21 H =>
  p.guard t19 false H (fun k' => p.bin .eql t21 (.sc (.int .i64 9)) fun t' => k' t' H) fun t22 H =>
  p.guard t15 true H (fun k' => p.pick t19 (.sc (.bool true)) t22 fun t' => k' t' H) fun t23 H =>
  p.guard t10 false H (fun k' => p.pick t15 t23 (.sc (.bool false)) fun t' => k' t' H) fun t24 H =>
  p.pick t10 (.sc (.bool true)) t24 fun t25 =>
  k t25 H
theorem f22_body (p : Pr β) (n : Nat) (a0 : AV) (H : Heap) (k : AV → Heap → Option β) : evalBody ti0 p n ⟨c22, 26, Go.Proofs.Try.f22.results.toList, o22⟩ [a0] H k = f22 p n a0 H k := by kernel_rfl

/-! 24 loop.example/g00480/impl.HoldsRoot -/
noncomputable def f24 (p : Pr β) (n : Nat) (a0 : AV) (H : Heap) (k : AV → Heap → Option β) : Option β :=
  p.box a0 H fun t1 H =>
  p.fadr 0 t1 fun t3 =>
  p.load false 1 t3 H fun t4 =>
  p.bin .eql t4 (.sc (.int .i64 1)) fun t6 =>
  letJ (fun t1 t5 H => p.cond t5
  (p.fadr 1 t1 fun t10 =>
  p.load false 1 t10 H fun t11 =>
  p.bin .eql t11 (.sc (.int .i64 3)) fun t12 =>
  k t12 H)
  (p.fadr 0 t1 fun t13 =>
  p.load false 1 t13 H fun t14 =>
  p.bin .eql t14 (.sc (.int .i64 6)) fun t15 =>
  p.guard t15 true H (fun k' => p.fadr 1 t1 fun t' => k' t' H) fun t17 H =>
  p.guard t15 true H (fun k' => p.load false 1 t17 H fun t' => k' t' H) fun t18 H =>
  p.guard t15 true H (fun k' => p.bin .eql t18 (.sc (.int .i64 3)) fun t' => k' t' H) fun t19 H =>
  p.guard t15 true H (fun k' => k' t19 H) fun t20 H =>
  p.guard t20 false H (fun k' => p.fadr 1 t1 fun t' => k' t' H) fun t21 H =>
  p.guard t20 false H (fun k' => p.load false 1 t21 H fun t' => k' t' H) fun t22 H =>
  p.guard t20 false H (fun k' => p.bin .eql t22 (.sc (.int .i64 9)) fun t' => k' t' H) fun t23 H =>
  p.guard t15 true H (fun k' => p.pick t20 (.sc (.bool true)) t23 fun t' => k' t' H) fun t24 H =>
  p.pick t15 t24 (.sc (.bool false)) fun t25 =>
  k t25 H)) fun j1 =>
  p.cond t6
  (j1 t1 t6 H)
  (p.bin .eql t4 (.sc (.int .i64 2)) fun t7 =>
  p.cond t7
  (j1 t1 t7 H)
  (p.bin .eql t4 (.sc (.int .i64 3)) fun t8 =>
  p.cond t8
  (j1 t1 t8 H)
  (p.bin .eql t4 (.sc (.int .i64 4)) fun t9 =>
  j1 t1 t9 H)))
theorem f24_body (p : Pr β) (n : Nat) (a0 : AV) (H : Heap) (k : AV → Heap → Option β) : evalBody ti0 p n ⟨c24, 26, Go.Proofs.Try.f24.results.toList, o24⟩ [a0] H k = f24 p n a0 H k := by kernel_rfl

/-! 97 loop.example/g00480/laws.eqSub -/
noncomputable def f97 (p : Pr β) (n : Nat) (a0 a1 : AV) (H : Heap) (k : AV → Heap → Option β) : Option β :=
  p.box a0 H fun t2 H =>
  p.box a1 H fun t3 H =>
  p.fadr 0 t2 fun t5 =>
  p.load false 1 t5 H fun t6 =>
  p.fadr 0 t3 fun t7 =>
  p.load false 1 t7 H fun t8 =>
  p.bin .neq t6 t8 fun t9 =>
  p.cond t9
  (k (.sc (.bool false)) H)
  (p.fadr 1 t2 fun t10 =>
  p.load false 1 t10 H fun t11 =>
  p.fadr 1 t3 fun t12 =>
  p.load false 1 t12 H fun t13 =>
  p.bin .neq t11 t13 fun t14 =>
  p.cond t14
  (k (.sc (.bool false)) H)
  (p.fadr 2 t2 fun t15 =>
  p.load false 1 t15 H fun t16 =>
  p.fadr 2 t3 fun t17 =>
  p.load false 1 t17 H fun t18 =>
  p.bin .neq t16 t18 fun t19 =>
  p.cond t19
  (k (.sc (.bool false)) H)
  (k (.sc (.bool true)) H)))
theorem f97_body (p : Pr β) (n : Nat) (a0 a1 : AV) (H : Heap) (k : AV → Heap → Option β) : evalBody ti0 p n ⟨c97, 20, Go.Proofs.Try.f97.results.toList, o97⟩ [a0, a1] H k = f97 p n a0 a1 H k := by kernel_rfl

/-! 66 loop.example/g00480/laws.eqSubS -/
noncomputable def f66_l0 (p : Pr β) (n : Nat)  (k : AV → Heap → Option β) : Nat → AV → AV → AV → Heap → Option β
  | 0, _, _, _, _ => none
  | m + 1, t0, t1, t5, H => p.len t0 fun t13 =>
      p.bin .lss t5 t13 fun t14 =>
      p.cond t14
      (p.iadr 3 t0 t5 fun t19 =>
      p.load true 3 t19 H fun t20 =>
      p.iadr 3 t1 t5 fun t23 =>
      p.load true 3 t23 H fun t24 =>
      p.call 4 (.fn 97 [] []) [t20, t24] H fun t25 H =>
      p.un .not t25 fun t26 =>
      p.cond t26
      (k (.sc (.bool false)) H)
      (p.bin .add t5 (.sc (.int .i64 1)) fun t16 =>
      f66_l0 p n  k m t0 t1 t16 H))
      (k (.sc (.bool true)) H)
noncomputable def f66 (p : Pr β) (n : Nat) (a0 a1 : AV) (H : Heap) (k : AV → Heap → Option β) : Option β :=
  p.len a0 fun t7 =>
  p.len a1 fun t9 =>
  p.bin .neq t7 t9 fun t10 =>
  p.cond t10
  (k (.sc (.bool false)) H)
  (f66_l0 p n  k n a0 a1 (.sc (.int .i64 0)) H)
noncomputable def f66_L0 (p : Pr β) (n : Nat)  (k : AV → Heap → Option β) (m : Nat) (tm : Tm) (H : Heap) : Option β :=
  iterC 27 (fun tm H k => evalCode ti0 p o66 27 n (cd c66 [1, 1, 0, 1, 0, 0]) tm H k) (blkK 0 (seqK (fun tm H => evalCode ti0 p o66 27 n (cd c66 [1, 1, 1]) tm H (endK ti0 p Go.Proofs.Try.f66.results.toList k)) (endK ti0 p Go.Proofs.Try.f66.results.toList k))) m tm H
theorem f66_L0_step (p : Pr β) (n : Nat)  (k : AV → Heap → Option β) (m0 : Nat) (t0 t1 t2 t3 t4 t5 t6 t7 t8 t9 t10 t11 t12 t13 t14 t15 t16 t17 t18 t19 t20 t21 t22 t23 t24 t25 t26 : AV) (H : Heap) : f66_L0 p n  k (m0 + 1) [(0, t0), (1, t1), (2, t2), (3, t3), (4, t4), (5, t5), (6, t6), (7, t7), (8, t8), (9, t9), (10, t10), (11, t11), (12, t12), (13, t13), (14, t14), (15, t15), (16, t16), (17, t17), (18, t18), (19, t19), (20, t20), (21, t21), (22, t22), (23, t23), (24, t24), (25, t25), (26, t26)] H =
  p.len t0 fun t13 =>
  p.bin .lss t5 t13 fun t14 =>
  p.cond t14
  (p.iadr 3 t0 t5 fun t19 =>
  p.load true 3 t19 H fun t20 =>
  p.iadr 3 t1 t5 fun t23 =>
  p.load true 3 t23 H fun t24 =>
  p.call 4 (.fn 97 [] []) [t20, t24] H fun t25 H =>
  p.un .not t25 fun t26 =>
  p.cond t26
  (k (.sc (.bool false)) H)
  (p.bin .add t5 (.sc (.int .i64 1)) fun t16 =>
  f66_L0 p n  k m0 [(0, t0), (1, t1), (2, t2), (3, t3), (4, t4), (5, t16), (6, t6), (7, t7), (8, t8), (9, t9), (10, t10), (11, t5), (12, t0), (13, t13), (14, t14), (15, t5), (16, t16), (17, t0), (18, t5), (19, t19), (20, t20), (21, t1), (22, t5), (23, t23), (24, t24), (25, t25), (26, t26)] H))
  (k (.sc (.bool true)) H) := by kernel_rfl
theorem f66_l0_eq (p : Pr β) (n : Nat)  (k : AV → Heap → Option β)   (m0 : Nat) : ∀ (t0 t1 t2 t3 t4 t5 t6 t7 t8 t9 t10 t11 t12 t13 t14 t15 t16 t17 t18 t19 t20 t21 t22 t23 t24 t25 t26 : AV) (H : Heap), f66_L0 p n  k m0 [(0, t0), (1, t1), (2, t2), (3, t3), (4, t4), (5, t5), (6, t6), (7, t7), (8, t8), (9, t9), (10, t10), (11, t11), (12, t12), (13, t13), (14, t14), (15, t15), (16, t16), (17, t17), (18, t18), (19, t19), (20, t20), (21, t21), (22, t22), (23, t23), (24, t24), (25, t25), (26, t26)] H = f66_l0 p n  k m0 t0 t1 t5 H := by
  induction m0 with
  | zero => intros; rfl
  | succ m0 ih =>
    intro t0 t1 t2 t3 t4 t5 t6 t7 t8 t9 t10 t11 t12 t13 t14 t15 t16 t17 t18 t19 t20 t21 t22 t23 t24 t25 t26 H
    rw [f66_L0_step]
    simp only [ih]
    rfl
theorem f66_raw (p : Pr β) (n : Nat) (a0 a1 : AV) (H : Heap) (k : AV → Heap → Option β) : evalBody ti0 p n ⟨c66, 27, Go.Proofs.Try.f66.results.toList, o66⟩ [a0, a1] H k =
  p.len a0 fun t7 =>
  p.len a1 fun t9 =>
  p.bin .neq t7 t9 fun t10 =>
  p.cond t10
  (k (.sc (.bool false)) H)
  (f66_L0 p n  k n [(0, a0), (1, a1), (2, (.sc undef)), (3, (.sc undef)), (4, (.sc (.bool false))), (5, (.sc (.int .i64 0))), (6, a0), (7, t7), (8, a1), (9, t9), (10, t10), (11, (.sc undef)), (12, (.sc undef)), (13, (.sc undef)), (14, (.sc undef)), (15, (.sc undef)), (16, (.sc undef)), (17, (.sc undef)), (18, (.sc undef)), (19, (.sc undef)), (20, (.sc undef)), (21, (.sc undef)), (22, (.sc undef)), (23, (.sc undef)), (24, (.sc undef)), (25, (.sc undef)), (26, (.sc undef))] H) := by kernel_rfl
theorem f66_body (p : Pr β) (n : Nat) (a0 a1 : AV) (H : Heap) (k : AV → Heap → Option β) : evalBody ti0 p n ⟨c66, 27, Go.Proofs.Try.f66.results.toList, o66⟩ [a0, a1] H k = f66 p n a0 a1 H k := by
  rw [f66_raw]
  simp only [f66_l0_eq]
  rfl

/-! 25 loop.example/g00480/laws.eqTask -/
noncomputable def f25 (p : Pr β) (n : Nat) (a0 a1 : AV) (H : Heap) (k : AV → Heap → Option β) : Option β :=
  p.box a0 H fun t2 H =>
  p.box a1 H fun t3 H =>
  p.fadr 0 t2 fun t5 =>
  p.load false 1 t5 H fun t6 =>
  p.fadr 0 t3 fun t7 =>
  p.load false 1 t7 H fun t8 =>
  p.bin .neq t6 t8 fun t9 =>
  p.cond t9
  (k (.sc (.bool false)) H)
  (p.fadr 1 t2 fun t10 =>
  p.load false 1 t10 H fun t11 =>
  p.fadr 1 t3 fun t12 =>
  p.load false 1 t12 H fun t13 =>
  p.bin .neq t11 t13 fun t14 =>
  p.cond t14
  (k (.sc (.bool false)) H)
  (p.fadr 2 t2 fun t15 =>
  p.load false 1 t15 H fun t16 =>
  p.fadr 2 t3 fun t17 =>
  p.load false 1 t17 H fun t18 =>
  p.bin .neq t16 t18 fun t19 =>
  p.cond t19
  (k (.sc (.bool false)) H)
  (p.fadr 3 t2 fun t20 =>
  p.load true 25 t20 H fun t21 =>
  p.fadr 3 t3 fun t22 =>
  p.load true 25 t22 H fun t23 =>
  p.call 4 (.fn 65 [] []) [t21, t23] H fun t24 H =>
  p.un .not t24 fun t25 =>
  p.cond t25
  (k (.sc (.bool false)) H)
  (p.fadr 28 t2 fun t26 =>
  p.load false 1 t26 H fun t27 =>
  p.fadr 28 t3 fun t28 =>
  p.load false 1 t28 H fun t29 =>
  p.call 4 (.fn 66 [] []) [t27, t29] H fun t30 H =>
  p.un .not t30 fun t31 =>
  p.cond t31
  (k (.sc (.bool false)) H)
  (p.fadr 29 t2 fun t32 =>
  p.load true 4 t32 H fun t33 =>
  p.fadr 29 t3 fun t34 =>
  p.load true 4 t34 H fun t35 =>
  p.call 4 (.fn 56 [] []) [t33, t35] H fun t36 H =>
  p.un .not t36 fun t37 =>
  p.cond t37
  (k (.sc (.bool false)) H)
  (p.fadr 33 t2 fun t38 =>
  p.load false 1 t38 H fun t39 =>
  p.fadr 33 t3 fun t40 =>
  p.load false 1 t40 H fun t41 =>
  p.call 4 (.fn 67 [] []) [t39, t41] H fun t42 H =>
  p.un .not t42 fun t43 =>
  p.cond t43
  (k (.sc (.bool false)) H)
  (p.fadr 34 t2 fun t44 =>
  p.load false 1 t44 H fun t45 =>
  p.fadr 34 t3 fun t46 =>
  p.load false 1 t46 H fun t47 =>
  p.bin .neq t45 t47 fun t48 =>
  p.cond t48
  (k (.sc (.bool false)) H)
  (k (.sc (.bool true)) H))))))))
theorem f25_body (p : Pr β) (n : Nat) (a0 a1 : AV) (H : Heap) (k : AV → Heap → Option β) : evalBody ti0 p n ⟨c25, 49, Go.Proofs.Try.f25.results.toList, o25⟩ [a0, a1] H k = f25 p n a0 a1 H k := by kernel_rfl

/-! 5 loop.example/g00480/laws.FnExactHoldsRoot -/
noncomputable def f5 (p : Pr β) (n : Nat) (a0 : AV) (H : Heap) (k : AV → Heap → Option β) : Option β :=
  p.box a0 H fun t1 H =>
  p.load true 35 t1 H fun t7 =>
  p.call 3 (.fn 21 [] []) [t7, (.sc (.int .i64 1048576))] H fun t9 H =>
  p.bin .lss t9 (.sc (.int .i64 0)) fun t11 =>
  p.cond t11
  (k (.sc (.bool true)) H)
  (p.load true 35 t1 H fun t12 =>
  p.call 68 (.fn 23 [] []) [t12] H fun t13 H =>
  p.call 4 (.fn 22 [] []) [t13] H fun t14 H =>
  p.load true 35 t1 H fun t15 =>
  p.call 68 (.fn 23 [] []) [t15] H fun t16 H =>
  p.new [(.sc (.int .i64 0)), (.sc (.int .i64 0)), (.sc (.string ⟨#[]⟩)), (.sc (.int .i64 0)), (.sc (.bool false)), (.sc (.int .i64 0)), (.sc (.bool false)), (.sc (.int .i64 0)), (.sc (.string ⟨#[]⟩)), .nl, (.sc (.string ⟨#[]⟩)), (.sc (.int .i64 0)), (.sc (.bool false)), (.sc (.int .i64 0)), (.sc (.bool false)), (.sc (.string ⟨#[]⟩)), .nl, (.sc (.int .i64 0)), (.sc (.bool false)), (.sc (.bool false)), (.sc (.string ⟨#[]⟩)), (.sc (.bool false)), .nl, (.sc (.int .i64 0)), (.sc (.bool false)), .nl, .nl, .nl, .nl, (.sc (.string ⟨#[]⟩)), .nl, (.sc (.int .i64 0)), (.sc (.bool false)), .nl, (.sc (.int .i64 0))] H fun t5 H =>
  p.store 35 t5 t16 H fun H =>
  p.load true 35 t5 H fun t17 =>
  p.call 4 (.fn 24 [] []) [t17] H fun t18 H =>
  p.binB .neq t18 t14 fun t21 =>
  p.cond t21
  (k (.sc (.bool false)) H)
  (p.load true 35 t5 H fun t22 =>
  p.load true 35 t1 H fun t23 =>
  p.call 68 (.fn 23 [] []) [t23] H fun t24 H =>
  p.call 4 (.fn 25 [] []) [t22, t24] H fun t25 H =>
  p.un .not t25 fun t26 =>
  p.cond t26
  (k (.sc (.bool false)) H)
  (k (.sc (.bool true)) H)))
theorem f5_body (p : Pr β) (n : Nat) (a0 : AV) (H : Heap) (k : AV → Heap → Option β) : evalBody ti0 p n ⟨c5, 27, Go.Proofs.Try.f5.results.toList, o5⟩ [a0] H k = f5 p n a0 H k := by kernel_rfl

/-! 26 loop.example/g00480/laws.szDeed -/
noncomputable def f26 (p : Pr β) (n : Nat) (a0 a1 : AV) (H : Heap) (k : AV → Heap → Option β) : Option β :=
  p.box a0 H fun t2 H =>
  p.fadr 3 t2 fun t6 =>
  p.load false 1 t6 H fun t7 =>
  p.lenS t7 fun t8 =>
  p.bin .sub a1 t8 fun t9 =>
  p.bin .lss t9 (.sc (.int .i64 0)) fun t11 =>
  p.cond t11
  (k (.sc (.int .i64 (-1))) H)
  (p.fadr 4 t2 fun t12 =>
  p.load true 25 t12 H fun t13 =>
  p.call 3 (.fn 58 [] []) [t13, t9] H fun t15 H =>
  p.bin .lss t15 (.sc (.int .i64 0)) fun t17 =>
  p.cond t17
  (k (.sc (.int .i64 (-1))) H)
  (p.fadr 37 t2 fun t18 =>
  p.load false 1 t18 H fun t19 =>
  p.call 3 (.fn 59 [] []) [t19, t15] H fun t21 H =>
  p.bin .lss t21 (.sc (.int .i64 0)) fun t23 =>
  p.cond t23
  (k (.sc (.int .i64 (-1))) H)
  (p.fadr 38 t2 fun t24 =>
  p.load false 1 t24 H fun t25 =>
  p.call 3 (.fn 68 [] []) [t25, t21] H fun t27 H =>
  p.bin .lss t27 (.sc (.int .i64 0)) fun t29 =>
  p.cond t29
  (k (.sc (.int .i64 (-1))) H)
  (p.fadr 39 t2 fun t30 =>
  p.load false 1 t30 H fun t31 =>
  p.call 3 (.fn 60 [] []) [t31, t27] H fun t33 H =>
  p.bin .lss t33 (.sc (.int .i64 0)) fun t35 =>
  p.cond t35
  (k (.sc (.int .i64 (-1))) H)
  (k t33 H)))))
theorem f26_body (p : Pr β) (n : Nat) (a0 a1 : AV) (H : Heap) (k : AV → Heap → Option β) : evalBody ti0 p n ⟨c26, 37, Go.Proofs.Try.f26.results.toList, o26⟩ [a0, a1] H k = f26 p n a0 a1 H k := by kernel_rfl

/-! 28 loop.example/g00480/laws.toDeed -/
noncomputable def f28 (p : Pr β) (n : Nat) (a0 : AV) (H : Heap) (k : AV → Heap → Option β) : Option β :=
  p.box a0 H fun t1 H =>
  p.new [(.sc (.int .i64 0)), (.sc (.int .i64 0)), (.sc (.int .i64 0)), (.sc (.string ⟨#[]⟩)), (.sc (.int .i64 0)), (.sc (.bool false)), (.sc (.int .i64 0)), (.sc (.bool false)), (.sc (.int .i64 0)), (.sc (.string ⟨#[]⟩)), .nl, (.sc (.string ⟨#[]⟩)), (.sc (.int .i64 0)), (.sc (.bool false)), (.sc (.int .i64 0)), (.sc (.bool false)), (.sc (.string ⟨#[]⟩)), .nl, (.sc (.int .i64 0)), (.sc (.bool false)), (.sc (.bool false)), (.sc (.string ⟨#[]⟩)), (.sc (.bool false)), .nl, (.sc (.int .i64 0)), (.sc (.bool false)), .nl, .nl, .nl, (.sc (.int .i64 0)), (.sc (.int .i64 0)), (.sc (.int .i64 0)), (.sc (.bool false)), (.sc (.int .i64 0)), (.sc (.int .i64 0)), (.sc (.bool false)), (.sc (.bool false)), .nl, .nl, .nl] H fun t2 H =>
  p.new [(.sc (.int .i64 0)), (.sc (.int .i64 0)), (.sc (.int .i64 0)), (.sc (.string ⟨#[]⟩)), (.sc (.int .i64 0)), (.sc (.bool false)), (.sc (.int .i64 0)), (.sc (.bool false)), (.sc (.int .i64 0)), (.sc (.string ⟨#[]⟩)), .nl, (.sc (.string ⟨#[]⟩)), (.sc (.int .i64 0)), (.sc (.bool false)), (.sc (.int .i64 0)), (.sc (.bool false)), (.sc (.string ⟨#[]⟩)), .nl, (.sc (.int .i64 0)), (.sc (.bool false)), (.sc (.bool false)), (.sc (.string ⟨#[]⟩)), (.sc (.bool false)), .nl, (.sc (.int .i64 0)), (.sc (.bool false)), .nl, .nl, .nl, (.sc (.int .i64 0)), (.sc (.int .i64 0)), (.sc (.int .i64 0)), (.sc (.bool false)), (.sc (.int .i64 0)), (.sc (.int .i64 0)), (.sc (.bool false)), (.sc (.bool false)), .nl, .nl, .nl] H fun t3 H =>
  p.fadr 0 t1 fun t4 =>
  p.load false 1 t4 H fun t5 =>
  p.fadr 0 t3 fun t6 =>
  p.store 1 t6 t5 H fun H =>
  p.fadr 1 t1 fun t7 =>
  p.load false 1 t7 H fun t8 =>
  p.fadr 1 t3 fun t9 =>
  p.store 1 t9 t8 H fun H =>
  p.fadr 2 t1 fun t10 =>
  p.load false 1 t10 H fun t11 =>
  p.fadr 2 t3 fun t12 =>
  p.store 1 t12 t11 H fun H =>
  p.fadr 3 t1 fun t13 =>
  p.load false 1 t13 H fun t14 =>
  p.fadr 3 t3 fun t15 =>
  p.store 1 t15 t14 H fun H =>
  p.fadr 4 t1 fun t16 =>
  p.load true 25 t16 H fun t17 =>
  p.call 64 (.fn 62 [] []) [t17] H fun t18 H =>
  p.fadr 4 t3 fun t19 =>
  p.store 25 t19 t18 H fun H =>
  p.fadr 29 t1 fun t20 =>
  p.load false 1 t20 H fun t21 =>
  p.fadr 29 t3 fun t22 =>
  p.store 1 t22 t21 H fun H =>
  p.fadr 30 t1 fun t23 =>
  p.load false 1 t23 H fun t24 =>
  p.fadr 30 t3 fun t25 =>
  p.store 1 t25 t24 H fun H =>
  p.fadr 31 t1 fun t26 =>
  p.load false 1 t26 H fun t27 =>
  p.fadr 31 t3 fun t28 =>
  p.store 1 t28 t27 H fun H =>
  p.fadr 32 t1 fun t29 =>
  p.load false 1 t29 H fun t30 =>
  p.fadr 32 t3 fun t31 =>
  p.store 1 t31 t30 H fun H =>
  p.fadr 33 t1 fun t32 =>
  p.load false 1 t32 H fun t33 =>
  p.fadr 33 t3 fun t34 =>
  p.store 1 t34 t33 H fun H =>
  p.fadr 34 t1 fun t35 =>
  p.load false 1 t35 H fun t36 =>
  p.fadr 34 t3 fun t37 =>
  p.store 1 t37 t36 H fun H =>
  p.fadr 35 t1 fun t38 =>
  p.load false 1 t38 H fun t39 =>
  p.fadr 35 t3 fun t40 =>
  p.store 1 t40 t39 H fun H =>
  p.fadr 36 t1 fun t41 =>
  p.load false 1 t41 H fun t42 =>
  p.fadr 36 t3 fun t43 =>
  p.store 1 t43 t42 H fun H =>
  p.fadr 37 t1 fun t44 =>
  p.load false 1 t44 H fun t45 =>
  p.call 65 (.fn 63 [] []) [t45] H fun t46 H =>
  p.fadr 37 t3 fun t47 =>
  p.store 1 t47 t46 H fun H =>
  p.fadr 38 t1 fun t48 =>
  p.load false 1 t48 H fun t49 =>
  p.call 53 (.fn 69 [] []) [t49] H fun t50 H =>
  p.fadr 38 t3 fun t51 =>
  p.store 1 t51 t50 H fun H =>
  p.fadr 39 t1 fun t52 =>
  p.load false 1 t52 H fun t53 =>
  p.call 66 (.fn 64 [] []) [t53] H fun t54 H =>
  p.fadr 39 t3 fun t55 =>
  p.store 1 t55 t54 H fun H =>
  p.load true 40 t3 H fun t56 =>
  p.store 40 t2 t56 H fun H =>
  p.load true 40 t2 H fun r0 =>
  k r0 H
theorem f28_body (p : Pr β) (n : Nat) (a0 : AV) (H : Heap) (k : AV → Heap → Option β) : evalBody ti0 p n ⟨c28, 57, Go.Proofs.Try.f28.results.toList, o28⟩ [a0] H k = f28 p n a0 H k := by kernel_rfl

/-! 27 loop.example/g00480/spec.Ahead -/
noncomputable def f27 (p : Pr β) (n : Nat) (a0 a1 : AV) (H : Heap) (k : AV → Heap → Option β) : Option β :=
  p.box a0 H fun t2 H =>
  p.box a1 H fun t3 H =>
  p.fadr 31 t2 fun t5 =>
  p.load false 1 t5 H fun t6 =>
  p.bin .neq t6 (.sc (.int .i64 (-1))) fun t7 =>
  p.guard t7 true H (fun k' => p.fadr 31 t2 fun t' => k' t' H) fun t9 H =>
  p.guard t7 true H (fun k' => p.load false 1 t9 H fun t' => k' t' H) fun t10 H =>
  p.guard t7 true H (fun k' => p.fadr 29 t3 fun t' => k' t' H) fun t11 H =>
  p.guard t7 true H (fun k' => p.load false 1 t11 H fun t' => k' t' H) fun t12 H =>
  p.guard t7 true H (fun k' => p.bin .lss t10 t12 fun t' => k' t' H) fun t13 H =>
  p.pick t7 t13 (.sc (.bool false)) fun t14 =>
  k t14 H
theorem f27_body (p : Pr β) (n : Nat) (a0 a1 : AV) (H : Heap) (k : AV → Heap → Option β) : evalBody ti0 p n ⟨c27, 15, Go.Proofs.Try.f27.results.toList, o27⟩ [a0, a1] H k = f27 p n a0 a1 H k := by kernel_rfl

/-! 29 loop.example/g00480/impl.Ahead -/
noncomputable def f29 (p : Pr β) (n : Nat) (a0 a1 : AV) (H : Heap) (k : AV → Heap → Option β) : Option β :=
  p.box a0 H fun t2 H =>
  p.box a1 H fun t3 H =>
  p.fadr 31 t2 fun t5 =>
  p.load false 1 t5 H fun t6 =>
  p.bin .neq t6 (.sc (.int .i64 (-1))) fun t7 =>
  p.guard t7 true H (fun k' => p.fadr 29 t3 fun t' => k' t' H) fun t9 H =>
  p.guard t7 true H (fun k' => p.load false 1 t9 H fun t' => k' t' H) fun t10 H =>
  p.guard t7 true H (fun k' => p.fadr 31 t2 fun t' => k' t' H) fun t11 H =>
  p.guard t7 true H (fun k' => p.load false 1 t11 H fun t' => k' t' H) fun t12 H =>
  p.guard t7 true H (fun k' => p.bin .gtr t10 t12 fun t' => k' t' H) fun t13 H =>
  p.pick t7 t13 (.sc (.bool false)) fun t14 =>
  k t14 H
theorem f29_body (p : Pr β) (n : Nat) (a0 a1 : AV) (H : Heap) (k : AV → Heap → Option β) : evalBody ti0 p n ⟨c29, 15, Go.Proofs.Try.f29.results.toList, o29⟩ [a0, a1] H k = f29 p n a0 a1 H k := by kernel_rfl

/-! 30 loop.example/g00480/laws.eqDeed -/
noncomputable def f30 (p : Pr β) (n : Nat) (a0 a1 : AV) (H : Heap) (k : AV → Heap → Option β) : Option β :=
  p.box a0 H fun t2 H =>
  p.box a1 H fun t3 H =>
  p.fadr 0 t2 fun t5 =>
  p.load false 1 t5 H fun t6 =>
  p.fadr 0 t3 fun t7 =>
  p.load false 1 t7 H fun t8 =>
  p.bin .neq t6 t8 fun t9 =>
  p.cond t9
  (k (.sc (.bool false)) H)
  (p.fadr 1 t2 fun t10 =>
  p.load false 1 t10 H fun t11 =>
  p.fadr 1 t3 fun t12 =>
  p.load false 1 t12 H fun t13 =>
  p.bin .neq t11 t13 fun t14 =>
  p.cond t14
  (k (.sc (.bool false)) H)
  (p.fadr 2 t2 fun t15 =>
  p.load false 1 t15 H fun t16 =>
  p.fadr 2 t3 fun t17 =>
  p.load false 1 t17 H fun t18 =>
  p.bin .neq t16 t18 fun t19 =>
  p.cond t19
  (k (.sc (.bool false)) H)
  (p.fadr 3 t2 fun t20 =>
  p.load false 1 t20 H fun t21 =>
  p.fadr 3 t3 fun t22 =>
  p.load false 1 t22 H fun t23 =>
  p.bin .neq t21 t23 fun t24 =>
  p.cond t24
  (k (.sc (.bool false)) H)
  (p.fadr 4 t2 fun t25 =>
  p.load true 25 t25 H fun t26 =>
  p.fadr 4 t3 fun t27 =>
  p.load true 25 t27 H fun t28 =>
  p.call 4 (.fn 65 [] []) [t26, t28] H fun t29 H =>
  p.un .not t29 fun t30 =>
  p.cond t30
  (k (.sc (.bool false)) H)
  (p.fadr 29 t2 fun t31 =>
  p.load false 1 t31 H fun t32 =>
  p.fadr 29 t3 fun t33 =>
  p.load false 1 t33 H fun t34 =>
  p.bin .neq t32 t34 fun t35 =>
  p.cond t35
  (k (.sc (.bool false)) H)
  (p.fadr 30 t2 fun t36 =>
  p.load false 1 t36 H fun t37 =>
  p.fadr 30 t3 fun t38 =>
  p.load false 1 t38 H fun t39 =>
  p.bin .neq t37 t39 fun t40 =>
  p.cond t40
  (k (.sc (.bool false)) H)
  (p.fadr 31 t2 fun t41 =>
  p.load false 1 t41 H fun t42 =>
  p.fadr 31 t3 fun t43 =>
  p.load false 1 t43 H fun t44 =>
  p.bin .neq t42 t44 fun t45 =>
  p.cond t45
  (k (.sc (.bool false)) H)
  (p.fadr 32 t2 fun t46 =>
  p.load false 1 t46 H fun t47 =>
  p.fadr 32 t3 fun t48 =>
  p.load false 1 t48 H fun t49 =>
  p.binB .neq t47 t49 fun t50 =>
  p.cond t50
  (k (.sc (.bool false)) H)
  (p.fadr 33 t2 fun t51 =>
  p.load false 1 t51 H fun t52 =>
  p.fadr 33 t3 fun t53 =>
  p.load false 1 t53 H fun t54 =>
  p.bin .neq t52 t54 fun t55 =>
  p.cond t55
  (k (.sc (.bool false)) H)
  (p.fadr 34 t2 fun t56 =>
  p.load false 1 t56 H fun t57 =>
  p.fadr 34 t3 fun t58 =>
  p.load false 1 t58 H fun t59 =>
  p.bin .neq t57 t59 fun t60 =>
  p.cond t60
  (k (.sc (.bool false)) H)
  (p.fadr 35 t2 fun t61 =>
  p.load false 1 t61 H fun t62 =>
  p.fadr 35 t3 fun t63 =>
  p.load false 1 t63 H fun t64 =>
  p.binB .neq t62 t64 fun t65 =>
  p.cond t65
  (k (.sc (.bool false)) H)
  (p.fadr 36 t2 fun t66 =>
  p.load false 1 t66 H fun t67 =>
  p.fadr 36 t3 fun t68 =>
  p.load false 1 t68 H fun t69 =>
  p.binB .neq t67 t69 fun t70 =>
  p.cond t70
  (k (.sc (.bool false)) H)
  (p.fadr 37 t2 fun t71 =>
  p.load false 1 t71 H fun t72 =>
  p.fadr 37 t3 fun t73 =>
  p.load false 1 t73 H fun t74 =>
  p.call 4 (.fn 66 [] []) [t72, t74] H fun t75 H =>
  p.un .not t75 fun t76 =>
  p.cond t76
  (k (.sc (.bool false)) H)
  (p.fadr 38 t2 fun t77 =>
  p.load false 1 t77 H fun t78 =>
  p.fadr 38 t3 fun t79 =>
  p.load false 1 t79 H fun t80 =>
  p.call 4 (.fn 70 [] []) [t78, t80] H fun t81 H =>
  p.un .not t81 fun t82 =>
  p.cond t82
  (k (.sc (.bool false)) H)
  (p.fadr 39 t2 fun t83 =>
  p.load false 1 t83 H fun t84 =>
  p.fadr 39 t3 fun t85 =>
  p.load false 1 t85 H fun t86 =>
  p.call 4 (.fn 67 [] []) [t84, t86] H fun t87 H =>
  p.un .not t87 fun t88 =>
  p.cond t88
  (k (.sc (.bool false)) H)
  (k (.sc (.bool true)) H))))))))))))))))
theorem f30_body (p : Pr β) (n : Nat) (a0 a1 : AV) (H : Heap) (k : AV → Heap → Option β) : evalBody ti0 p n ⟨c30, 89, Go.Proofs.Try.f30.results.toList, o30⟩ [a0, a1] H k = f30 p n a0 a1 H k := by kernel_rfl

/-! 6 loop.example/g00480/laws.FnExactAhead -/
noncomputable def f6 (p : Pr β) (n : Nat) (a0 a1 : AV) (H : Heap) (k : AV → Heap → Option β) : Option β :=
  p.box a0 H fun t2 H =>
  p.box a1 H fun t3 H =>
  p.load true 40 t2 H fun t10 =>
  p.call 3 (.fn 26 [] []) [t10, (.sc (.int .i64 1048576))] H fun t12 H =>
  p.bin .lss t12 (.sc (.int .i64 0)) fun t14 =>
  p.cond t14
  (k (.sc (.bool true)) H)
  (p.load true 40 t3 H fun t15 =>
  p.call 3 (.fn 26 [] []) [t15, t12] H fun t17 H =>
  p.bin .lss t17 (.sc (.int .i64 0)) fun t19 =>
  p.cond t19
  (k (.sc (.bool true)) H)
  (p.load true 40 t2 H fun t20 =>
  p.load true 40 t3 H fun t22 =>
  p.call 77 (.fn 28 [] []) [t20] H fun t21 H =>
  p.call 77 (.fn 28 [] []) [t22] H fun t23 H =>
  p.call 4 (.fn 27 [] []) [t21, t23] H fun t24 H =>
  p.load true 40 t2 H fun t25 =>
  p.call 77 (.fn 28 [] []) [t25] H fun t26 H =>
  p.new [(.sc (.int .i64 0)), (.sc (.int .i64 0)), (.sc (.int .i64 0)), (.sc (.string ⟨#[]⟩)), (.sc (.int .i64 0)), (.sc (.bool false)), (.sc (.int .i64 0)), (.sc (.bool false)), (.sc (.int .i64 0)), (.sc (.string ⟨#[]⟩)), .nl, (.sc (.string ⟨#[]⟩)), (.sc (.int .i64 0)), (.sc (.bool false)), (.sc (.int .i64 0)), (.sc (.bool false)), (.sc (.string ⟨#[]⟩)), .nl, (.sc (.int .i64 0)), (.sc (.bool false)), (.sc (.bool false)), (.sc (.string ⟨#[]⟩)), (.sc (.bool false)), .nl, (.sc (.int .i64 0)), (.sc (.bool false)), .nl, .nl, .nl, (.sc (.int .i64 0)), (.sc (.int .i64 0)), (.sc (.int .i64 0)), (.sc (.bool false)), (.sc (.int .i64 0)), (.sc (.int .i64 0)), (.sc (.bool false)), (.sc (.bool false)), .nl, .nl, .nl] H fun t7 H =>
  p.store 40 t7 t26 H fun H =>
  p.load true 40 t3 H fun t27 =>
  p.call 77 (.fn 28 [] []) [t27] H fun t28 H =>
  p.new [(.sc (.int .i64 0)), (.sc (.int .i64 0)), (.sc (.int .i64 0)), (.sc (.string ⟨#[]⟩)), (.sc (.int .i64 0)), (.sc (.bool false)), (.sc (.int .i64 0)), (.sc (.bool false)), (.sc (.int .i64 0)), (.sc (.string ⟨#[]⟩)), .nl, (.sc (.string ⟨#[]⟩)), (.sc (.int .i64 0)), (.sc (.bool false)), (.sc (.int .i64 0)), (.sc (.bool false)), (.sc (.string ⟨#[]⟩)), .nl, (.sc (.int .i64 0)), (.sc (.bool false)), (.sc (.bool false)), (.sc (.string ⟨#[]⟩)), (.sc (.bool false)), .nl, (.sc (.int .i64 0)), (.sc (.bool false)), .nl, .nl, .nl, (.sc (.int .i64 0)), (.sc (.int .i64 0)), (.sc (.int .i64 0)), (.sc (.bool false)), (.sc (.int .i64 0)), (.sc (.int .i64 0)), (.sc (.bool false)), (.sc (.bool false)), .nl, .nl, .nl] H fun t8 H =>
  p.store 40 t8 t28 H fun H =>
  p.load true 40 t7 H fun t29 =>
  p.load true 40 t8 H fun t30 =>
  p.call 4 (.fn 29 [] []) [t29, t30] H fun t31 H =>
  p.binB .neq t31 t24 fun t34 =>
  p.cond t34
  (k (.sc (.bool false)) H)
  (p.load true 40 t7 H fun t35 =>
  p.load true 40 t2 H fun t36 =>
  p.call 77 (.fn 28 [] []) [t36] H fun t37 H =>
  p.call 4 (.fn 30 [] []) [t35, t37] H fun t38 H =>
  p.un .not t38 fun t39 =>
  p.cond t39
  (k (.sc (.bool false)) H)
  (p.load true 40 t8 H fun t40 =>
  p.load true 40 t3 H fun t41 =>
  p.call 77 (.fn 28 [] []) [t41] H fun t42 H =>
  p.call 4 (.fn 30 [] []) [t40, t42] H fun t43 H =>
  p.un .not t43 fun t44 =>
  p.cond t44
  (k (.sc (.bool false)) H)
  (k (.sc (.bool true)) H)))))
theorem f6_body (p : Pr β) (n : Nat) (a0 a1 : AV) (H : Heap) (k : AV → Heap → Option β) : evalBody ti0 p n ⟨c6, 45, Go.Proofs.Try.f6.results.toList, o6⟩ [a0, a1] H k = f6 p n a0 a1 H k := by kernel_rfl

/-! 71 loop.example/g00480/spec.StripeOf -/
noncomputable def f71_l0 (p : Pr β) (n : Nat)  (k : AV → Heap → Option β) : Nat → AV → AV → AV → Heap → Option β
  | 0, _, _, _, _ => none
  | m + 1, t0, t3, t4, H => p.lenS t0 fun t7 =>
      p.bin .lss t4 t7 fun t8 =>
      p.cond t8
      (p.idx t0 t4 fun t14 =>
      p.cvI .i64 t14 fun t15 =>
      p.bin .add t3 t15 fun t16 =>
      p.bin .rem t16 (.sc (.int .i64 3)) fun t17 =>
      p.bin .add t4 (.sc (.int .i64 1)) fun t10 =>
      f71_l0 p n  k m t0 t17 t10 H)
      (k t3 H)
noncomputable def f71 (p : Pr β) (n : Nat) (a0 : AV) (H : Heap) (k : AV → Heap → Option β) : Option β :=
  f71_l0 p n  k n a0 (.sc (.int .i64 0)) (.sc (.int .i64 0)) H
noncomputable def f71_L0 (p : Pr β) (n : Nat)  (k : AV → Heap → Option β) (m : Nat) (tm : Tm) (H : Heap) : Option β :=
  iterC 19 (fun tm H k => evalCode ti0 p o71 19 n (cd c71 [1, 1, 0, 1, 0, 0]) tm H k) (blkK 0 (seqK (fun tm H => evalCode ti0 p o71 19 n (cd c71 [1, 1, 1]) tm H (endK ti0 p Go.Proofs.Try.f71.results.toList k)) (endK ti0 p Go.Proofs.Try.f71.results.toList k))) m tm H
theorem f71_L0_step (p : Pr β) (n : Nat)  (k : AV → Heap → Option β) (m0 : Nat) (t0 t1 t2 t3 t4 t5 t6 t7 t8 t9 t10 t11 t12 t13 t14 t15 t16 t17 t18 : AV) (H : Heap) : f71_L0 p n  k (m0 + 1) [(0, t0), (1, t1), (2, t2), (3, t3), (4, t4), (5, t5), (6, t6), (7, t7), (8, t8), (9, t9), (10, t10), (11, t11), (12, t12), (13, t13), (14, t14), (15, t15), (16, t16), (17, t17), (18, t18)] H =
  p.lenS t0 fun t7 =>
  p.bin .lss t4 t7 fun t8 =>
  p.cond t8
  (p.idx t0 t4 fun t14 =>
  p.cvI .i64 t14 fun t15 =>
  p.bin .add t3 t15 fun t16 =>
  p.bin .rem t16 (.sc (.int .i64 3)) fun t17 =>
  p.bin .add t4 (.sc (.int .i64 1)) fun t10 =>
  f71_L0 p n  k m0 [(0, t0), (1, t1), (2, t2), (3, t17), (4, t10), (5, t4), (6, t0), (7, t7), (8, t8), (9, t4), (10, t10), (11, t3), (12, t0), (13, t4), (14, t14), (15, t15), (16, t16), (17, t17), (18, t18)] H)
  (k t3 H) := by kernel_rfl
theorem f71_l0_eq (p : Pr β) (n : Nat)  (k : AV → Heap → Option β)   (m0 : Nat) : ∀ (t0 t1 t2 t3 t4 t5 t6 t7 t8 t9 t10 t11 t12 t13 t14 t15 t16 t17 t18 : AV) (H : Heap), f71_L0 p n  k m0 [(0, t0), (1, t1), (2, t2), (3, t3), (4, t4), (5, t5), (6, t6), (7, t7), (8, t8), (9, t9), (10, t10), (11, t11), (12, t12), (13, t13), (14, t14), (15, t15), (16, t16), (17, t17), (18, t18)] H = f71_l0 p n  k m0 t0 t3 t4 H := by
  induction m0 with
  | zero => intros; rfl
  | succ m0 ih =>
    intro t0 t1 t2 t3 t4 t5 t6 t7 t8 t9 t10 t11 t12 t13 t14 t15 t16 t17 t18 H
    rw [f71_L0_step]
    simp only [ih]
    rfl
theorem f71_raw (p : Pr β) (n : Nat) (a0 : AV) (H : Heap) (k : AV → Heap → Option β) : evalBody ti0 p n ⟨c71, 19, Go.Proofs.Try.f71.results.toList, o71⟩ [a0] H k =
  f71_L0 p n  k n [(0, a0), (1, (.sc undef)), (2, (.sc (.int .i64 0))), (3, (.sc (.int .i64 0))), (4, (.sc (.int .i64 0))), (5, (.sc undef)), (6, (.sc undef)), (7, (.sc undef)), (8, (.sc undef)), (9, (.sc undef)), (10, (.sc undef)), (11, (.sc undef)), (12, (.sc undef)), (13, (.sc undef)), (14, (.sc undef)), (15, (.sc undef)), (16, (.sc undef)), (17, (.sc undef)), (18, (.sc undef))] H := by kernel_rfl
theorem f71_body (p : Pr β) (n : Nat) (a0 : AV) (H : Heap) (k : AV → Heap → Option β) : evalBody ti0 p n ⟨c71, 19, Go.Proofs.Try.f71.results.toList, o71⟩ [a0] H k = f71 p n a0 H k := by
  rw [f71_raw]
  simp only [f71_l0_eq]
  rfl
end Go.Proofs.Ytnkelipioodhjaa.Abs
