/- The facts of the program's tables (written by gen.py). -/
import Derived.Test.YtpcgppelelfmiaaDoorChecked
import Derived.Test.YtpcgppelelfmiaaDoorExt
import Derived.Test.YtpcgppelelfmiaaDoorFns
import Derived.Test.YtpcgppelelfmiaaDoorEnv
set_option linter.unusedVariables false
set_option linter.unusedSimpArgs false
set_option maxRecDepth 100000
namespace Go.Proofs.YtpcgppelelfmiaaDoor.Abs
open Go
theorem tab0 : tabB Go.Proofs.Tryd.prog 0 tis = true := by kernel_rfl
theorem code0 : fnsB E0 fss = true := by kernel_rfl
theorem tabOk0 : TabOk Go.Proofs.Tryd.prog ti0 := by
  intro t i h
  unfold ti0 at h
  cases hl : tis[t]? with
  | none => rw [hl] at h; cases h
  | some o =>
    rw [hl] at h
    simp only [Option.getD_some] at h
    subst h
    simpa using (tabB_ok tis 0 t i tab0 hl).1
theorem byte0 : ∀ t i, ti0 t = some i → i.ik = some .u8 → i.size = 1 := by
  intro t i h
  unfold ti0 at h
  cases hl : tis[t]? with
  | none => rw [hl] at h; cases h
  | some o =>
    rw [hl] at h
    simp only [Option.getD_some] at h
    subst h
    exact (tabB_ok tis 0 t i tab0 hl).2
theorem fn52 : ∃ fn, Go.Proofs.Tryd.prog.funcs[52]? = some fn ∧ (fn.name == "runtime.NumGoroutine") = false ∧ fn.body = some c52 ∧ fn.ntmps = 12 ∧ fn.results.toList = Go.Proofs.Tryd.f52.results.toList := ⟨Go.Proofs.Tryd.f52, Go.Proofs.Tryd.func52, by kernel_rfl, by kernel_rfl, rfl, rfl⟩
theorem fn12 : ∃ fn, Go.Proofs.Tryd.prog.funcs[12]? = some fn ∧ (fn.name == "runtime.NumGoroutine") = false ∧ fn.body = some c12 ∧ fn.ntmps = 19 ∧ fn.results.toList = Go.Proofs.Tryd.f12.results.toList := ⟨Go.Proofs.Tryd.f12, Go.Proofs.Tryd.func12, by kernel_rfl, by kernel_rfl, rfl, rfl⟩
theorem fn55 : ∃ fn, Go.Proofs.Tryd.prog.funcs[55]? = some fn ∧ (fn.name == "runtime.NumGoroutine") = false ∧ fn.body = some c55 ∧ fn.ntmps = 22 ∧ fn.results.toList = Go.Proofs.Tryd.f55.results.toList := ⟨Go.Proofs.Tryd.f55, Go.Proofs.Tryd.func55, by kernel_rfl, by kernel_rfl, rfl, rfl⟩
theorem fn14 : ∃ fn, Go.Proofs.Tryd.prog.funcs[14]? = some fn ∧ (fn.name == "runtime.NumGoroutine") = false ∧ fn.body = some c14 ∧ fn.ntmps = 18 ∧ fn.results.toList = Go.Proofs.Tryd.f14.results.toList := ⟨Go.Proofs.Tryd.f14, Go.Proofs.Tryd.func14, by kernel_rfl, by kernel_rfl, rfl, rfl⟩
theorem fn54 : ∃ fn, Go.Proofs.Tryd.prog.funcs[54]? = some fn ∧ (fn.name == "runtime.NumGoroutine") = false ∧ fn.body = some c54 ∧ fn.ntmps = 15 ∧ fn.results.toList = Go.Proofs.Tryd.f54.results.toList := ⟨Go.Proofs.Tryd.f54, Go.Proofs.Tryd.func54, by kernel_rfl, by kernel_rfl, rfl, rfl⟩
theorem fn109 : ∃ fn, Go.Proofs.Tryd.prog.funcs[109]? = some fn ∧ (fn.name == "runtime.NumGoroutine") = false ∧ fn.body = some c109 ∧ fn.ntmps = 104 ∧ fn.results.toList = Go.Proofs.Tryd.f109.results.toList := ⟨Go.Proofs.Tryd.f109, Go.Proofs.Tryd.func109, by kernel_rfl, by kernel_rfl, rfl, rfl⟩
theorem fn104 : ∃ fn, Go.Proofs.Tryd.prog.funcs[104]? = some fn ∧ (fn.name == "runtime.NumGoroutine") = false ∧ fn.body = some c104 ∧ fn.ntmps = 35 ∧ fn.results.toList = Go.Proofs.Tryd.f104.results.toList := ⟨Go.Proofs.Tryd.f104, Go.Proofs.Tryd.func104, by kernel_rfl, by kernel_rfl, rfl, rfl⟩
theorem fn69 : ∃ fn, Go.Proofs.Tryd.prog.funcs[69]? = some fn ∧ (fn.name == "runtime.NumGoroutine") = false ∧ fn.body = some c69 ∧ fn.ntmps = 6 ∧ fn.results.toList = Go.Proofs.Tryd.f69.results.toList := ⟨Go.Proofs.Tryd.f69, Go.Proofs.Tryd.func69, by kernel_rfl, by kernel_rfl, rfl, rfl⟩
theorem fn94 : ∃ fn, Go.Proofs.Tryd.prog.funcs[94]? = some fn ∧ (fn.name == "runtime.NumGoroutine") = false ∧ fn.body = some c94 ∧ fn.ntmps = 17 ∧ fn.results.toList = Go.Proofs.Tryd.f94.results.toList := ⟨Go.Proofs.Tryd.f94, Go.Proofs.Tryd.func94, by kernel_rfl, by kernel_rfl, rfl, rfl⟩
theorem fn95 : ∃ fn, Go.Proofs.Tryd.prog.funcs[95]? = some fn ∧ (fn.name == "runtime.NumGoroutine") = false ∧ fn.body = some c95 ∧ fn.ntmps = 33 ∧ fn.results.toList = Go.Proofs.Tryd.f95.results.toList := ⟨Go.Proofs.Tryd.f95, Go.Proofs.Tryd.func95, by kernel_rfl, by kernel_rfl, rfl, rfl⟩
theorem fn53 : ∃ fn, Go.Proofs.Tryd.prog.funcs[53]? = some fn ∧ (fn.name == "runtime.NumGoroutine") = false ∧ fn.body = some c53 ∧ fn.ntmps = 25 ∧ fn.results.toList = Go.Proofs.Tryd.f53.results.toList := ⟨Go.Proofs.Tryd.f53, Go.Proofs.Tryd.func53, by kernel_rfl, by kernel_rfl, rfl, rfl⟩
theorem fn13 : ∃ fn, Go.Proofs.Tryd.prog.funcs[13]? = some fn ∧ (fn.name == "runtime.NumGoroutine") = false ∧ fn.body = some c13 ∧ fn.ntmps = 17 ∧ fn.results.toList = Go.Proofs.Tryd.f13.results.toList := ⟨Go.Proofs.Tryd.f13, Go.Proofs.Tryd.func13, by kernel_rfl, by kernel_rfl, rfl, rfl⟩
theorem fn98 : ∃ fn, Go.Proofs.Tryd.prog.funcs[98]? = some fn ∧ (fn.name == "runtime.NumGoroutine") = false ∧ fn.body = some c98 ∧ fn.ntmps = 5 ∧ fn.results.toList = Go.Proofs.Tryd.f98.results.toList := ⟨Go.Proofs.Tryd.f98, Go.Proofs.Tryd.func98, by kernel_rfl, by kernel_rfl, rfl, rfl⟩
theorem fn56 : ∃ fn, Go.Proofs.Tryd.prog.funcs[56]? = some fn ∧ (fn.name == "runtime.NumGoroutine") = false ∧ fn.body = some c56 ∧ fn.ntmps = 20 ∧ fn.results.toList = Go.Proofs.Tryd.f56.results.toList := ⟨Go.Proofs.Tryd.f56, Go.Proofs.Tryd.func56, by kernel_rfl, by kernel_rfl, rfl, rfl⟩
theorem fn65 : ∃ fn, Go.Proofs.Tryd.prog.funcs[65]? = some fn ∧ (fn.name == "runtime.NumGoroutine") = false ∧ fn.body = some c65 ∧ fn.ntmps = 15 ∧ fn.results.toList = Go.Proofs.Tryd.f65.results.toList := ⟨Go.Proofs.Tryd.f65, Go.Proofs.Tryd.func65, by kernel_rfl, by kernel_rfl, rfl, rfl⟩
theorem fn57 : ∃ fn, Go.Proofs.Tryd.prog.funcs[57]? = some fn ∧ (fn.name == "runtime.NumGoroutine") = false ∧ fn.body = some c57 ∧ fn.ntmps = 5 ∧ fn.results.toList = Go.Proofs.Tryd.f57.results.toList := ⟨Go.Proofs.Tryd.f57, Go.Proofs.Tryd.func57, by kernel_rfl, by kernel_rfl, rfl, rfl⟩
theorem fn15 : ∃ fn, Go.Proofs.Tryd.prog.funcs[15]? = some fn ∧ (fn.name == "runtime.NumGoroutine") = false ∧ fn.body = some c15 ∧ fn.ntmps = 17 ∧ fn.results.toList = Go.Proofs.Tryd.f15.results.toList := ⟨Go.Proofs.Tryd.f15, Go.Proofs.Tryd.func15, by kernel_rfl, by kernel_rfl, rfl, rfl⟩
theorem fn58 : ∃ fn, Go.Proofs.Tryd.prog.funcs[58]? = some fn ∧ (fn.name == "runtime.NumGoroutine") = false ∧ fn.body = some c58 ∧ fn.ntmps = 26 ∧ fn.results.toList = Go.Proofs.Tryd.f58.results.toList := ⟨Go.Proofs.Tryd.f58, Go.Proofs.Tryd.func58, by kernel_rfl, by kernel_rfl, rfl, rfl⟩
theorem fn16 : ∃ fn, Go.Proofs.Tryd.prog.funcs[16]? = some fn ∧ (fn.name == "runtime.NumGoroutine") = false ∧ fn.body = some c16 ∧ fn.ntmps = 26 ∧ fn.results.toList = Go.Proofs.Tryd.f16.results.toList := ⟨Go.Proofs.Tryd.f16, Go.Proofs.Tryd.func16, by kernel_rfl, by kernel_rfl, rfl, rfl⟩
theorem fn3 : ∃ fn, Go.Proofs.Tryd.prog.funcs[3]? = some fn ∧ (fn.name == "runtime.NumGoroutine") = false ∧ fn.body = some c3 ∧ fn.ntmps = 27 ∧ fn.results.toList = Go.Proofs.Tryd.f3.results.toList := ⟨Go.Proofs.Tryd.f3, Go.Proofs.Tryd.func3, by kernel_rfl, by kernel_rfl, rfl, rfl⟩
theorem fn17 : ∃ fn, Go.Proofs.Tryd.prog.funcs[17]? = some fn ∧ (fn.name == "runtime.NumGoroutine") = false ∧ fn.body = some c17 ∧ fn.ntmps = 27 ∧ fn.results.toList = Go.Proofs.Tryd.f17.results.toList := ⟨Go.Proofs.Tryd.f17, Go.Proofs.Tryd.func17, by kernel_rfl, by kernel_rfl, rfl, rfl⟩
theorem fn19 : ∃ fn, Go.Proofs.Tryd.prog.funcs[19]? = some fn ∧ (fn.name == "runtime.NumGoroutine") = false ∧ fn.body = some c19 ∧ fn.ntmps = 23 ∧ fn.results.toList = Go.Proofs.Tryd.f19.results.toList := ⟨Go.Proofs.Tryd.f19, Go.Proofs.Tryd.func19, by kernel_rfl, by kernel_rfl, rfl, rfl⟩
theorem fn18 : ∃ fn, Go.Proofs.Tryd.prog.funcs[18]? = some fn ∧ (fn.name == "runtime.NumGoroutine") = false ∧ fn.body = some c18 ∧ fn.ntmps = 19 ∧ fn.results.toList = Go.Proofs.Tryd.f18.results.toList := ⟨Go.Proofs.Tryd.f18, Go.Proofs.Tryd.func18, by kernel_rfl, by kernel_rfl, rfl, rfl⟩
theorem fn59 : ∃ fn, Go.Proofs.Tryd.prog.funcs[59]? = some fn ∧ (fn.name == "runtime.NumGoroutine") = false ∧ fn.body = some c59 ∧ fn.ntmps = 15 ∧ fn.results.toList = Go.Proofs.Tryd.f59.results.toList := ⟨Go.Proofs.Tryd.f59, Go.Proofs.Tryd.func59, by kernel_rfl, by kernel_rfl, rfl, rfl⟩
theorem fn20 : ∃ fn, Go.Proofs.Tryd.prog.funcs[20]? = some fn ∧ (fn.name == "runtime.NumGoroutine") = false ∧ fn.body = some c20 ∧ fn.ntmps = 10 ∧ fn.results.toList = Go.Proofs.Tryd.f20.results.toList := ⟨Go.Proofs.Tryd.f20, Go.Proofs.Tryd.func20, by kernel_rfl, by kernel_rfl, rfl, rfl⟩
theorem fn21 : ∃ fn, Go.Proofs.Tryd.prog.funcs[21]? = some fn ∧ (fn.name == "runtime.NumGoroutine") = false ∧ fn.body = some c21 ∧ fn.ntmps = 27 ∧ fn.results.toList = Go.Proofs.Tryd.f21.results.toList := ⟨Go.Proofs.Tryd.f21, Go.Proofs.Tryd.func21, by kernel_rfl, by kernel_rfl, rfl, rfl⟩
theorem fn4 : ∃ fn, Go.Proofs.Tryd.prog.funcs[4]? = some fn ∧ (fn.name == "runtime.NumGoroutine") = false ∧ fn.body = some c4 ∧ fn.ntmps = 27 ∧ fn.results.toList = Go.Proofs.Tryd.f4.results.toList := ⟨Go.Proofs.Tryd.f4, Go.Proofs.Tryd.func4, by kernel_rfl, by kernel_rfl, rfl, rfl⟩
theorem fn99 : ∃ fn, Go.Proofs.Tryd.prog.funcs[99]? = some fn ∧ (fn.name == "runtime.NumGoroutine") = false ∧ fn.body = some c99 ∧ fn.ntmps = 12 ∧ fn.results.toList = Go.Proofs.Tryd.f99.results.toList := ⟨Go.Proofs.Tryd.f99, Go.Proofs.Tryd.func99, by kernel_rfl, by kernel_rfl, rfl, rfl⟩
theorem fn60 : ∃ fn, Go.Proofs.Tryd.prog.funcs[60]? = some fn ∧ (fn.name == "runtime.NumGoroutine") = false ∧ fn.body = some c60 ∧ fn.ntmps = 27 ∧ fn.results.toList = Go.Proofs.Tryd.f60.results.toList := ⟨Go.Proofs.Tryd.f60, Go.Proofs.Tryd.func60, by kernel_rfl, by kernel_rfl, rfl, rfl⟩
theorem fn22 : ∃ fn, Go.Proofs.Tryd.prog.funcs[22]? = some fn ∧ (fn.name == "runtime.NumGoroutine") = false ∧ fn.body = some c22 ∧ fn.ntmps = 18 ∧ fn.results.toList = Go.Proofs.Tryd.f22.results.toList := ⟨Go.Proofs.Tryd.f22, Go.Proofs.Tryd.func22, by kernel_rfl, by kernel_rfl, rfl, rfl⟩
theorem fn100 : ∃ fn, Go.Proofs.Tryd.prog.funcs[100]? = some fn ∧ (fn.name == "runtime.NumGoroutine") = false ∧ fn.body = some c100 ∧ fn.ntmps = 15 ∧ fn.results.toList = Go.Proofs.Tryd.f100.results.toList := ⟨Go.Proofs.Tryd.f100, Go.Proofs.Tryd.func100, by kernel_rfl, by kernel_rfl, rfl, rfl⟩
theorem fn62 : ∃ fn, Go.Proofs.Tryd.prog.funcs[62]? = some fn ∧ (fn.name == "runtime.NumGoroutine") = false ∧ fn.body = some c62 ∧ fn.ntmps = 23 ∧ fn.results.toList = Go.Proofs.Tryd.f62.results.toList := ⟨Go.Proofs.Tryd.f62, Go.Proofs.Tryd.func62, by kernel_rfl, by kernel_rfl, rfl, rfl⟩
theorem fn24 : ∃ fn, Go.Proofs.Tryd.prog.funcs[24]? = some fn ∧ (fn.name == "runtime.NumGoroutine") = false ∧ fn.body = some c24 ∧ fn.ntmps = 16 ∧ fn.results.toList = Go.Proofs.Tryd.f24.results.toList := ⟨Go.Proofs.Tryd.f24, Go.Proofs.Tryd.func24, by kernel_rfl, by kernel_rfl, rfl, rfl⟩
theorem fn61 : ∃ fn, Go.Proofs.Tryd.prog.funcs[61]? = some fn ∧ (fn.name == "runtime.NumGoroutine") = false ∧ fn.body = some c61 ∧ fn.ntmps = 24 ∧ fn.results.toList = Go.Proofs.Tryd.f61.results.toList := ⟨Go.Proofs.Tryd.f61, Go.Proofs.Tryd.func61, by kernel_rfl, by kernel_rfl, rfl, rfl⟩
theorem fn23 : ∃ fn, Go.Proofs.Tryd.prog.funcs[23]? = some fn ∧ (fn.name == "runtime.NumGoroutine") = false ∧ fn.body = some c23 ∧ fn.ntmps = 71 ∧ fn.results.toList = Go.Proofs.Tryd.f23.results.toList := ⟨Go.Proofs.Tryd.f23, Go.Proofs.Tryd.func23, by kernel_rfl, by kernel_rfl, rfl, rfl⟩
theorem fn63 : ∃ fn, Go.Proofs.Tryd.prog.funcs[63]? = some fn ∧ (fn.name == "runtime.NumGoroutine") = false ∧ fn.body = some c63 ∧ fn.ntmps = 5 ∧ fn.results.toList = Go.Proofs.Tryd.f63.results.toList := ⟨Go.Proofs.Tryd.f63, Go.Proofs.Tryd.func63, by kernel_rfl, by kernel_rfl, rfl, rfl⟩
theorem fn102 : ∃ fn, Go.Proofs.Tryd.prog.funcs[102]? = some fn ∧ (fn.name == "runtime.NumGoroutine") = false ∧ fn.body = some c102 ∧ fn.ntmps = 8 ∧ fn.results.toList = Go.Proofs.Tryd.f102.results.toList := ⟨Go.Proofs.Tryd.f102, Go.Proofs.Tryd.func102, by kernel_rfl, by kernel_rfl, rfl, rfl⟩
theorem fn101 : ∃ fn, Go.Proofs.Tryd.prog.funcs[101]? = some fn ∧ (fn.name == "runtime.NumGoroutine") = false ∧ fn.body = some c101 ∧ fn.ntmps = 19 ∧ fn.results.toList = Go.Proofs.Tryd.f101.results.toList := ⟨Go.Proofs.Tryd.f101, Go.Proofs.Tryd.func101, by kernel_rfl, by kernel_rfl, rfl, rfl⟩
theorem fn64 : ∃ fn, Go.Proofs.Tryd.prog.funcs[64]? = some fn ∧ (fn.name == "runtime.NumGoroutine") = false ∧ fn.body = some c64 ∧ fn.ntmps = 8 ∧ fn.results.toList = Go.Proofs.Tryd.f64.results.toList := ⟨Go.Proofs.Tryd.f64, Go.Proofs.Tryd.func64, by kernel_rfl, by kernel_rfl, rfl, rfl⟩
theorem fn66 : ∃ fn, Go.Proofs.Tryd.prog.funcs[66]? = some fn ∧ (fn.name == "runtime.NumGoroutine") = false ∧ fn.body = some c66 ∧ fn.ntmps = 5 ∧ fn.results.toList = Go.Proofs.Tryd.f66.results.toList := ⟨Go.Proofs.Tryd.f66, Go.Proofs.Tryd.func66, by kernel_rfl, by kernel_rfl, rfl, rfl⟩
theorem fn25 : ∃ fn, Go.Proofs.Tryd.prog.funcs[25]? = some fn ∧ (fn.name == "runtime.NumGoroutine") = false ∧ fn.body = some c25 ∧ fn.ntmps = 67 ∧ fn.results.toList = Go.Proofs.Tryd.f25.results.toList := ⟨Go.Proofs.Tryd.f25, Go.Proofs.Tryd.func25, by kernel_rfl, by kernel_rfl, rfl, rfl⟩
theorem fn103 : ∃ fn, Go.Proofs.Tryd.prog.funcs[103]? = some fn ∧ (fn.name == "runtime.NumGoroutine") = false ∧ fn.body = some c103 ∧ fn.ntmps = 21 ∧ fn.results.toList = Go.Proofs.Tryd.f103.results.toList := ⟨Go.Proofs.Tryd.f103, Go.Proofs.Tryd.func103, by kernel_rfl, by kernel_rfl, rfl, rfl⟩
theorem fn67 : ∃ fn, Go.Proofs.Tryd.prog.funcs[67]? = some fn ∧ (fn.name == "runtime.NumGoroutine") = false ∧ fn.body = some c67 ∧ fn.ntmps = 27 ∧ fn.results.toList = Go.Proofs.Tryd.f67.results.toList := ⟨Go.Proofs.Tryd.f67, Go.Proofs.Tryd.func67, by kernel_rfl, by kernel_rfl, rfl, rfl⟩
theorem fn26 : ∃ fn, Go.Proofs.Tryd.prog.funcs[26]? = some fn ∧ (fn.name == "runtime.NumGoroutine") = false ∧ fn.body = some c26 ∧ fn.ntmps = 22 ∧ fn.results.toList = Go.Proofs.Tryd.f26.results.toList := ⟨Go.Proofs.Tryd.f26, Go.Proofs.Tryd.func26, by kernel_rfl, by kernel_rfl, rfl, rfl⟩
theorem fn5 : ∃ fn, Go.Proofs.Tryd.prog.funcs[5]? = some fn ∧ (fn.name == "runtime.NumGoroutine") = false ∧ fn.body = some c5 ∧ fn.ntmps = 27 ∧ fn.results.toList = Go.Proofs.Tryd.f5.results.toList := ⟨Go.Proofs.Tryd.f5, Go.Proofs.Tryd.func5, by kernel_rfl, by kernel_rfl, rfl, rfl⟩
theorem fn27 : ∃ fn, Go.Proofs.Tryd.prog.funcs[27]? = some fn ∧ (fn.name == "runtime.NumGoroutine") = false ∧ fn.body = some c27 ∧ fn.ntmps = 25 ∧ fn.results.toList = Go.Proofs.Tryd.f27.results.toList := ⟨Go.Proofs.Tryd.f27, Go.Proofs.Tryd.func27, by kernel_rfl, by kernel_rfl, rfl, rfl⟩
theorem fn28 : ∃ fn, Go.Proofs.Tryd.prog.funcs[28]? = some fn ∧ (fn.name == "runtime.NumGoroutine") = false ∧ fn.body = some c28 ∧ fn.ntmps = 25 ∧ fn.results.toList = Go.Proofs.Tryd.f28.results.toList := ⟨Go.Proofs.Tryd.f28, Go.Proofs.Tryd.func28, by kernel_rfl, by kernel_rfl, rfl, rfl⟩
theorem fn6 : ∃ fn, Go.Proofs.Tryd.prog.funcs[6]? = some fn ∧ (fn.name == "runtime.NumGoroutine") = false ∧ fn.body = some c6 ∧ fn.ntmps = 27 ∧ fn.results.toList = Go.Proofs.Tryd.f6.results.toList := ⟨Go.Proofs.Tryd.f6, Go.Proofs.Tryd.func6, by kernel_rfl, by kernel_rfl, rfl, rfl⟩
theorem fn68 : ∃ fn, Go.Proofs.Tryd.prog.funcs[68]? = some fn ∧ (fn.name == "runtime.NumGoroutine") = false ∧ fn.body = some c68 ∧ fn.ntmps = 12 ∧ fn.results.toList = Go.Proofs.Tryd.f68.results.toList := ⟨Go.Proofs.Tryd.f68, Go.Proofs.Tryd.func68, by kernel_rfl, by kernel_rfl, rfl, rfl⟩
theorem fn29 : ∃ fn, Go.Proofs.Tryd.prog.funcs[29]? = some fn ∧ (fn.name == "runtime.NumGoroutine") = false ∧ fn.body = some c29 ∧ fn.ntmps = 25 ∧ fn.results.toList = Go.Proofs.Tryd.f29.results.toList := ⟨Go.Proofs.Tryd.f29, Go.Proofs.Tryd.func29, by kernel_rfl, by kernel_rfl, rfl, rfl⟩
theorem fn71 : ∃ fn, Go.Proofs.Tryd.prog.funcs[71]? = some fn ∧ (fn.name == "runtime.NumGoroutine") = false ∧ fn.body = some c71 ∧ fn.ntmps = 22 ∧ fn.results.toList = Go.Proofs.Tryd.f71.results.toList := ⟨Go.Proofs.Tryd.f71, Go.Proofs.Tryd.func71, by kernel_rfl, by kernel_rfl, rfl, rfl⟩
theorem fn31 : ∃ fn, Go.Proofs.Tryd.prog.funcs[31]? = some fn ∧ (fn.name == "runtime.NumGoroutine") = false ∧ fn.body = some c31 ∧ fn.ntmps = 28 ∧ fn.results.toList = Go.Proofs.Tryd.f31.results.toList := ⟨Go.Proofs.Tryd.f31, Go.Proofs.Tryd.func31, by kernel_rfl, by kernel_rfl, rfl, rfl⟩
theorem fn70 : ∃ fn, Go.Proofs.Tryd.prog.funcs[70]? = some fn ∧ (fn.name == "runtime.NumGoroutine") = false ∧ fn.body = some c70 ∧ fn.ntmps = 35 ∧ fn.results.toList = Go.Proofs.Tryd.f70.results.toList := ⟨Go.Proofs.Tryd.f70, Go.Proofs.Tryd.func70, by kernel_rfl, by kernel_rfl, rfl, rfl⟩
theorem fn30 : ∃ fn, Go.Proofs.Tryd.prog.funcs[30]? = some fn ∧ (fn.name == "runtime.NumGoroutine") = false ∧ fn.body = some c30 ∧ fn.ntmps = 48 ∧ fn.results.toList = Go.Proofs.Tryd.f30.results.toList := ⟨Go.Proofs.Tryd.f30, Go.Proofs.Tryd.func30, by kernel_rfl, by kernel_rfl, rfl, rfl⟩
theorem fn72 : ∃ fn, Go.Proofs.Tryd.prog.funcs[72]? = some fn ∧ (fn.name == "runtime.NumGoroutine") = false ∧ fn.body = some c72 ∧ fn.ntmps = 9 ∧ fn.results.toList = Go.Proofs.Tryd.f72.results.toList := ⟨Go.Proofs.Tryd.f72, Go.Proofs.Tryd.func72, by kernel_rfl, by kernel_rfl, rfl, rfl⟩
theorem fn73 : ∃ fn, Go.Proofs.Tryd.prog.funcs[73]? = some fn ∧ (fn.name == "runtime.NumGoroutine") = false ∧ fn.body = some c73 ∧ fn.ntmps = 21 ∧ fn.results.toList = Go.Proofs.Tryd.f73.results.toList := ⟨Go.Proofs.Tryd.f73, Go.Proofs.Tryd.func73, by kernel_rfl, by kernel_rfl, rfl, rfl⟩
theorem fn74 : ∃ fn, Go.Proofs.Tryd.prog.funcs[74]? = some fn ∧ (fn.name == "runtime.NumGoroutine") = false ∧ fn.body = some c74 ∧ fn.ntmps = 32 ∧ fn.results.toList = Go.Proofs.Tryd.f74.results.toList := ⟨Go.Proofs.Tryd.f74, Go.Proofs.Tryd.func74, by kernel_rfl, by kernel_rfl, rfl, rfl⟩
theorem fn32 : ∃ fn, Go.Proofs.Tryd.prog.funcs[32]? = some fn ∧ (fn.name == "runtime.NumGoroutine") = false ∧ fn.body = some c32 ∧ fn.ntmps = 30 ∧ fn.results.toList = Go.Proofs.Tryd.f32.results.toList := ⟨Go.Proofs.Tryd.f32, Go.Proofs.Tryd.func32, by kernel_rfl, by kernel_rfl, rfl, rfl⟩
theorem fn75 : ∃ fn, Go.Proofs.Tryd.prog.funcs[75]? = some fn ∧ (fn.name == "runtime.NumGoroutine") = false ∧ fn.body = some c75 ∧ fn.ntmps = 26 ∧ fn.results.toList = Go.Proofs.Tryd.f75.results.toList := ⟨Go.Proofs.Tryd.f75, Go.Proofs.Tryd.func75, by kernel_rfl, by kernel_rfl, rfl, rfl⟩
theorem fn33 : ∃ fn, Go.Proofs.Tryd.prog.funcs[33]? = some fn ∧ (fn.name == "runtime.NumGoroutine") = false ∧ fn.body = some c33 ∧ fn.ntmps = 42 ∧ fn.results.toList = Go.Proofs.Tryd.f33.results.toList := ⟨Go.Proofs.Tryd.f33, Go.Proofs.Tryd.func33, by kernel_rfl, by kernel_rfl, rfl, rfl⟩
theorem fn7 : ∃ fn, Go.Proofs.Tryd.prog.funcs[7]? = some fn ∧ (fn.name == "runtime.NumGoroutine") = false ∧ fn.body = some c7 ∧ fn.ntmps = 27 ∧ fn.results.toList = Go.Proofs.Tryd.f7.results.toList := ⟨Go.Proofs.Tryd.f7, Go.Proofs.Tryd.func7, by kernel_rfl, by kernel_rfl, rfl, rfl⟩
theorem fn76 : ∃ fn, Go.Proofs.Tryd.prog.funcs[76]? = some fn ∧ (fn.name == "runtime.NumGoroutine") = false ∧ fn.body = some c76 ∧ fn.ntmps = 27 ∧ fn.results.toList = Go.Proofs.Tryd.f76.results.toList := ⟨Go.Proofs.Tryd.f76, Go.Proofs.Tryd.func76, by kernel_rfl, by kernel_rfl, rfl, rfl⟩
theorem fn34 : ∃ fn, Go.Proofs.Tryd.prog.funcs[34]? = some fn ∧ (fn.name == "runtime.NumGoroutine") = false ∧ fn.body = some c34 ∧ fn.ntmps = 12 ∧ fn.results.toList = Go.Proofs.Tryd.f34.results.toList := ⟨Go.Proofs.Tryd.f34, Go.Proofs.Tryd.func34, by kernel_rfl, by kernel_rfl, rfl, rfl⟩
theorem fn78 : ∃ fn, Go.Proofs.Tryd.prog.funcs[78]? = some fn ∧ (fn.name == "runtime.NumGoroutine") = false ∧ fn.body = some c78 ∧ fn.ntmps = 23 ∧ fn.results.toList = Go.Proofs.Tryd.f78.results.toList := ⟨Go.Proofs.Tryd.f78, Go.Proofs.Tryd.func78, by kernel_rfl, by kernel_rfl, rfl, rfl⟩
theorem fn36 : ∃ fn, Go.Proofs.Tryd.prog.funcs[36]? = some fn ∧ (fn.name == "runtime.NumGoroutine") = false ∧ fn.body = some c36 ∧ fn.ntmps = 12 ∧ fn.results.toList = Go.Proofs.Tryd.f36.results.toList := ⟨Go.Proofs.Tryd.f36, Go.Proofs.Tryd.func36, by kernel_rfl, by kernel_rfl, rfl, rfl⟩
theorem fn77 : ∃ fn, Go.Proofs.Tryd.prog.funcs[77]? = some fn ∧ (fn.name == "runtime.NumGoroutine") = false ∧ fn.body = some c77 ∧ fn.ntmps = 19 ∧ fn.results.toList = Go.Proofs.Tryd.f77.results.toList := ⟨Go.Proofs.Tryd.f77, Go.Proofs.Tryd.func77, by kernel_rfl, by kernel_rfl, rfl, rfl⟩
theorem fn35 : ∃ fn, Go.Proofs.Tryd.prog.funcs[35]? = some fn ∧ (fn.name == "runtime.NumGoroutine") = false ∧ fn.body = some c35 ∧ fn.ntmps = 60 ∧ fn.results.toList = Go.Proofs.Tryd.f35.results.toList := ⟨Go.Proofs.Tryd.f35, Go.Proofs.Tryd.func35, by kernel_rfl, by kernel_rfl, rfl, rfl⟩
theorem fn79 : ∃ fn, Go.Proofs.Tryd.prog.funcs[79]? = some fn ∧ (fn.name == "runtime.NumGoroutine") = false ∧ fn.body = some c79 ∧ fn.ntmps = 19 ∧ fn.results.toList = Go.Proofs.Tryd.f79.results.toList := ⟨Go.Proofs.Tryd.f79, Go.Proofs.Tryd.func79, by kernel_rfl, by kernel_rfl, rfl, rfl⟩
theorem fn37 : ∃ fn, Go.Proofs.Tryd.prog.funcs[37]? = some fn ∧ (fn.name == "runtime.NumGoroutine") = false ∧ fn.body = some c37 ∧ fn.ntmps = 51 ∧ fn.results.toList = Go.Proofs.Tryd.f37.results.toList := ⟨Go.Proofs.Tryd.f37, Go.Proofs.Tryd.func37, by kernel_rfl, by kernel_rfl, rfl, rfl⟩
theorem fn80 : ∃ fn, Go.Proofs.Tryd.prog.funcs[80]? = some fn ∧ (fn.name == "runtime.NumGoroutine") = false ∧ fn.body = some c80 ∧ fn.ntmps = 27 ∧ fn.results.toList = Go.Proofs.Tryd.f80.results.toList := ⟨Go.Proofs.Tryd.f80, Go.Proofs.Tryd.func80, by kernel_rfl, by kernel_rfl, rfl, rfl⟩
theorem fn38 : ∃ fn, Go.Proofs.Tryd.prog.funcs[38]? = some fn ∧ (fn.name == "runtime.NumGoroutine") = false ∧ fn.body = some c38 ∧ fn.ntmps = 16 ∧ fn.results.toList = Go.Proofs.Tryd.f38.results.toList := ⟨Go.Proofs.Tryd.f38, Go.Proofs.Tryd.func38, by kernel_rfl, by kernel_rfl, rfl, rfl⟩
theorem fn8 : ∃ fn, Go.Proofs.Tryd.prog.funcs[8]? = some fn ∧ (fn.name == "runtime.NumGoroutine") = false ∧ fn.body = some c8 ∧ fn.ntmps = 31 ∧ fn.results.toList = Go.Proofs.Tryd.f8.results.toList := ⟨Go.Proofs.Tryd.f8, Go.Proofs.Tryd.func8, by kernel_rfl, by kernel_rfl, rfl, rfl⟩
theorem fnAll : ∀ (f : Nat) (i : FnI), f < 110 → fss[f]? = some (some i) → ∃ fn, Go.Proofs.Tryd.prog.funcs[f]? = some fn ∧ (fn.name == "runtime.NumGoroutine") = false ∧ fn.body = some i.body ∧ fn.ntmps = i.ntmps ∧ fn.results.toList = i.results
  | 0, i, _, h => by
    have e : (none : Option FnI) = some i := Option.some.inj (show some none = some (some i) from h)
    cases e
  | 1, i, _, h => by
    have e : (none : Option FnI) = some i := Option.some.inj (show some none = some (some i) from h)
    cases e
  | 2, i, _, h => by
    have e : (none : Option FnI) = some i := Option.some.inj (show some none = some (some i) from h)
    cases e
  | 3, i, _, h => by
    have e : some (⟨c3, 27, Go.Proofs.Tryd.f3.results.toList, o3⟩ : FnI) = some i := Option.some.inj (show some (some _) = some (some i) from h)
    cases e
    exact fn3
  | 4, i, _, h => by
    have e : some (⟨c4, 27, Go.Proofs.Tryd.f4.results.toList, o4⟩ : FnI) = some i := Option.some.inj (show some (some _) = some (some i) from h)
    cases e
    exact fn4
  | 5, i, _, h => by
    have e : some (⟨c5, 27, Go.Proofs.Tryd.f5.results.toList, o5⟩ : FnI) = some i := Option.some.inj (show some (some _) = some (some i) from h)
    cases e
    exact fn5
  | 6, i, _, h => by
    have e : some (⟨c6, 27, Go.Proofs.Tryd.f6.results.toList, o6⟩ : FnI) = some i := Option.some.inj (show some (some _) = some (some i) from h)
    cases e
    exact fn6
  | 7, i, _, h => by
    have e : some (⟨c7, 27, Go.Proofs.Tryd.f7.results.toList, o7⟩ : FnI) = some i := Option.some.inj (show some (some _) = some (some i) from h)
    cases e
    exact fn7
  | 8, i, _, h => by
    have e : some (⟨c8, 31, Go.Proofs.Tryd.f8.results.toList, o8⟩ : FnI) = some i := Option.some.inj (show some (some _) = some (some i) from h)
    cases e
    exact fn8
  | 9, i, _, h => by
    have e : (none : Option FnI) = some i := Option.some.inj (show some none = some (some i) from h)
    cases e
  | 10, i, _, h => by
    have e : (none : Option FnI) = some i := Option.some.inj (show some none = some (some i) from h)
    cases e
  | 11, i, _, h => by
    have e : (none : Option FnI) = some i := Option.some.inj (show some none = some (some i) from h)
    cases e
  | 12, i, _, h => by
    have e : some (⟨c12, 19, Go.Proofs.Tryd.f12.results.toList, o12⟩ : FnI) = some i := Option.some.inj (show some (some _) = some (some i) from h)
    cases e
    exact fn12
  | 13, i, _, h => by
    have e : some (⟨c13, 17, Go.Proofs.Tryd.f13.results.toList, o13⟩ : FnI) = some i := Option.some.inj (show some (some _) = some (some i) from h)
    cases e
    exact fn13
  | 14, i, _, h => by
    have e : some (⟨c14, 18, Go.Proofs.Tryd.f14.results.toList, o14⟩ : FnI) = some i := Option.some.inj (show some (some _) = some (some i) from h)
    cases e
    exact fn14
  | 15, i, _, h => by
    have e : some (⟨c15, 17, Go.Proofs.Tryd.f15.results.toList, o15⟩ : FnI) = some i := Option.some.inj (show some (some _) = some (some i) from h)
    cases e
    exact fn15
  | 16, i, _, h => by
    have e : some (⟨c16, 26, Go.Proofs.Tryd.f16.results.toList, o16⟩ : FnI) = some i := Option.some.inj (show some (some _) = some (some i) from h)
    cases e
    exact fn16
  | 17, i, _, h => by
    have e : some (⟨c17, 27, Go.Proofs.Tryd.f17.results.toList, o17⟩ : FnI) = some i := Option.some.inj (show some (some _) = some (some i) from h)
    cases e
    exact fn17
  | 18, i, _, h => by
    have e : some (⟨c18, 19, Go.Proofs.Tryd.f18.results.toList, o18⟩ : FnI) = some i := Option.some.inj (show some (some _) = some (some i) from h)
    cases e
    exact fn18
  | 19, i, _, h => by
    have e : some (⟨c19, 23, Go.Proofs.Tryd.f19.results.toList, o19⟩ : FnI) = some i := Option.some.inj (show some (some _) = some (some i) from h)
    cases e
    exact fn19
  | 20, i, _, h => by
    have e : some (⟨c20, 10, Go.Proofs.Tryd.f20.results.toList, o20⟩ : FnI) = some i := Option.some.inj (show some (some _) = some (some i) from h)
    cases e
    exact fn20
  | 21, i, _, h => by
    have e : some (⟨c21, 27, Go.Proofs.Tryd.f21.results.toList, o21⟩ : FnI) = some i := Option.some.inj (show some (some _) = some (some i) from h)
    cases e
    exact fn21
  | 22, i, _, h => by
    have e : some (⟨c22, 18, Go.Proofs.Tryd.f22.results.toList, o22⟩ : FnI) = some i := Option.some.inj (show some (some _) = some (some i) from h)
    cases e
    exact fn22
  | 23, i, _, h => by
    have e : some (⟨c23, 71, Go.Proofs.Tryd.f23.results.toList, o23⟩ : FnI) = some i := Option.some.inj (show some (some _) = some (some i) from h)
    cases e
    exact fn23
  | 24, i, _, h => by
    have e : some (⟨c24, 16, Go.Proofs.Tryd.f24.results.toList, o24⟩ : FnI) = some i := Option.some.inj (show some (some _) = some (some i) from h)
    cases e
    exact fn24
  | 25, i, _, h => by
    have e : some (⟨c25, 67, Go.Proofs.Tryd.f25.results.toList, o25⟩ : FnI) = some i := Option.some.inj (show some (some _) = some (some i) from h)
    cases e
    exact fn25
  | 26, i, _, h => by
    have e : some (⟨c26, 22, Go.Proofs.Tryd.f26.results.toList, o26⟩ : FnI) = some i := Option.some.inj (show some (some _) = some (some i) from h)
    cases e
    exact fn26
  | 27, i, _, h => by
    have e : some (⟨c27, 25, Go.Proofs.Tryd.f27.results.toList, o27⟩ : FnI) = some i := Option.some.inj (show some (some _) = some (some i) from h)
    cases e
    exact fn27
  | 28, i, _, h => by
    have e : some (⟨c28, 25, Go.Proofs.Tryd.f28.results.toList, o28⟩ : FnI) = some i := Option.some.inj (show some (some _) = some (some i) from h)
    cases e
    exact fn28
  | 29, i, _, h => by
    have e : some (⟨c29, 25, Go.Proofs.Tryd.f29.results.toList, o29⟩ : FnI) = some i := Option.some.inj (show some (some _) = some (some i) from h)
    cases e
    exact fn29
  | 30, i, _, h => by
    have e : some (⟨c30, 48, Go.Proofs.Tryd.f30.results.toList, o30⟩ : FnI) = some i := Option.some.inj (show some (some _) = some (some i) from h)
    cases e
    exact fn30
  | 31, i, _, h => by
    have e : some (⟨c31, 28, Go.Proofs.Tryd.f31.results.toList, o31⟩ : FnI) = some i := Option.some.inj (show some (some _) = some (some i) from h)
    cases e
    exact fn31
  | 32, i, _, h => by
    have e : some (⟨c32, 30, Go.Proofs.Tryd.f32.results.toList, o32⟩ : FnI) = some i := Option.some.inj (show some (some _) = some (some i) from h)
    cases e
    exact fn32
  | 33, i, _, h => by
    have e : some (⟨c33, 42, Go.Proofs.Tryd.f33.results.toList, o33⟩ : FnI) = some i := Option.some.inj (show some (some _) = some (some i) from h)
    cases e
    exact fn33
  | 34, i, _, h => by
    have e : some (⟨c34, 12, Go.Proofs.Tryd.f34.results.toList, o34⟩ : FnI) = some i := Option.some.inj (show some (some _) = some (some i) from h)
    cases e
    exact fn34
  | 35, i, _, h => by
    have e : some (⟨c35, 60, Go.Proofs.Tryd.f35.results.toList, o35⟩ : FnI) = some i := Option.some.inj (show some (some _) = some (some i) from h)
    cases e
    exact fn35
  | 36, i, _, h => by
    have e : some (⟨c36, 12, Go.Proofs.Tryd.f36.results.toList, o36⟩ : FnI) = some i := Option.some.inj (show some (some _) = some (some i) from h)
    cases e
    exact fn36
  | 37, i, _, h => by
    have e : some (⟨c37, 51, Go.Proofs.Tryd.f37.results.toList, o37⟩ : FnI) = some i := Option.some.inj (show some (some _) = some (some i) from h)
    cases e
    exact fn37
  | 38, i, _, h => by
    have e : some (⟨c38, 16, Go.Proofs.Tryd.f38.results.toList, o38⟩ : FnI) = some i := Option.some.inj (show some (some _) = some (some i) from h)
    cases e
    exact fn38
  | 39, i, _, h => by
    have e : (none : Option FnI) = some i := Option.some.inj (show some none = some (some i) from h)
    cases e
  | 40, i, _, h => by
    have e : (none : Option FnI) = some i := Option.some.inj (show some none = some (some i) from h)
    cases e
  | 41, i, _, h => by
    have e : (none : Option FnI) = some i := Option.some.inj (show some none = some (some i) from h)
    cases e
  | 42, i, _, h => by
    have e : (none : Option FnI) = some i := Option.some.inj (show some none = some (some i) from h)
    cases e
  | 43, i, _, h => by
    have e : (none : Option FnI) = some i := Option.some.inj (show some none = some (some i) from h)
    cases e
  | 44, i, _, h => by
    have e : (none : Option FnI) = some i := Option.some.inj (show some none = some (some i) from h)
    cases e
  | 45, i, _, h => by
    have e : (none : Option FnI) = some i := Option.some.inj (show some none = some (some i) from h)
    cases e
  | 46, i, _, h => by
    have e : (none : Option FnI) = some i := Option.some.inj (show some none = some (some i) from h)
    cases e
  | 47, i, _, h => by
    have e : (none : Option FnI) = some i := Option.some.inj (show some none = some (some i) from h)
    cases e
  | 48, i, _, h => by
    have e : (none : Option FnI) = some i := Option.some.inj (show some none = some (some i) from h)
    cases e
  | 49, i, _, h => by
    have e : (none : Option FnI) = some i := Option.some.inj (show some none = some (some i) from h)
    cases e
  | 50, i, _, h => by
    have e : (none : Option FnI) = some i := Option.some.inj (show some none = some (some i) from h)
    cases e
  | 51, i, _, h => by
    have e : (none : Option FnI) = some i := Option.some.inj (show some none = some (some i) from h)
    cases e
  | 52, i, _, h => by
    have e : some (⟨c52, 12, Go.Proofs.Tryd.f52.results.toList, o52⟩ : FnI) = some i := Option.some.inj (show some (some _) = some (some i) from h)
    cases e
    exact fn52
  | 53, i, _, h => by
    have e : some (⟨c53, 25, Go.Proofs.Tryd.f53.results.toList, o53⟩ : FnI) = some i := Option.some.inj (show some (some _) = some (some i) from h)
    cases e
    exact fn53
  | 54, i, _, h => by
    have e : some (⟨c54, 15, Go.Proofs.Tryd.f54.results.toList, o54⟩ : FnI) = some i := Option.some.inj (show some (some _) = some (some i) from h)
    cases e
    exact fn54
  | 55, i, _, h => by
    have e : some (⟨c55, 22, Go.Proofs.Tryd.f55.results.toList, o55⟩ : FnI) = some i := Option.some.inj (show some (some _) = some (some i) from h)
    cases e
    exact fn55
  | 56, i, _, h => by
    have e : some (⟨c56, 20, Go.Proofs.Tryd.f56.results.toList, o56⟩ : FnI) = some i := Option.some.inj (show some (some _) = some (some i) from h)
    cases e
    exact fn56
  | 57, i, _, h => by
    have e : some (⟨c57, 5, Go.Proofs.Tryd.f57.results.toList, o57⟩ : FnI) = some i := Option.some.inj (show some (some _) = some (some i) from h)
    cases e
    exact fn57
  | 58, i, _, h => by
    have e : some (⟨c58, 26, Go.Proofs.Tryd.f58.results.toList, o58⟩ : FnI) = some i := Option.some.inj (show some (some _) = some (some i) from h)
    cases e
    exact fn58
  | 59, i, _, h => by
    have e : some (⟨c59, 15, Go.Proofs.Tryd.f59.results.toList, o59⟩ : FnI) = some i := Option.some.inj (show some (some _) = some (some i) from h)
    cases e
    exact fn59
  | 60, i, _, h => by
    have e : some (⟨c60, 27, Go.Proofs.Tryd.f60.results.toList, o60⟩ : FnI) = some i := Option.some.inj (show some (some _) = some (some i) from h)
    cases e
    exact fn60
  | 61, i, _, h => by
    have e : some (⟨c61, 24, Go.Proofs.Tryd.f61.results.toList, o61⟩ : FnI) = some i := Option.some.inj (show some (some _) = some (some i) from h)
    cases e
    exact fn61
  | 62, i, _, h => by
    have e : some (⟨c62, 23, Go.Proofs.Tryd.f62.results.toList, o62⟩ : FnI) = some i := Option.some.inj (show some (some _) = some (some i) from h)
    cases e
    exact fn62
  | 63, i, _, h => by
    have e : some (⟨c63, 5, Go.Proofs.Tryd.f63.results.toList, o63⟩ : FnI) = some i := Option.some.inj (show some (some _) = some (some i) from h)
    cases e
    exact fn63
  | 64, i, _, h => by
    have e : some (⟨c64, 8, Go.Proofs.Tryd.f64.results.toList, o64⟩ : FnI) = some i := Option.some.inj (show some (some _) = some (some i) from h)
    cases e
    exact fn64
  | 65, i, _, h => by
    have e : some (⟨c65, 15, Go.Proofs.Tryd.f65.results.toList, o65⟩ : FnI) = some i := Option.some.inj (show some (some _) = some (some i) from h)
    cases e
    exact fn65
  | 66, i, _, h => by
    have e : some (⟨c66, 5, Go.Proofs.Tryd.f66.results.toList, o66⟩ : FnI) = some i := Option.some.inj (show some (some _) = some (some i) from h)
    cases e
    exact fn66
  | 67, i, _, h => by
    have e : some (⟨c67, 27, Go.Proofs.Tryd.f67.results.toList, o67⟩ : FnI) = some i := Option.some.inj (show some (some _) = some (some i) from h)
    cases e
    exact fn67
  | 68, i, _, h => by
    have e : some (⟨c68, 12, Go.Proofs.Tryd.f68.results.toList, o68⟩ : FnI) = some i := Option.some.inj (show some (some _) = some (some i) from h)
    cases e
    exact fn68
  | 69, i, _, h => by
    have e : some (⟨c69, 6, Go.Proofs.Tryd.f69.results.toList, o69⟩ : FnI) = some i := Option.some.inj (show some (some _) = some (some i) from h)
    cases e
    exact fn69
  | 70, i, _, h => by
    have e : some (⟨c70, 35, Go.Proofs.Tryd.f70.results.toList, o70⟩ : FnI) = some i := Option.some.inj (show some (some _) = some (some i) from h)
    cases e
    exact fn70
  | 71, i, _, h => by
    have e : some (⟨c71, 22, Go.Proofs.Tryd.f71.results.toList, o71⟩ : FnI) = some i := Option.some.inj (show some (some _) = some (some i) from h)
    cases e
    exact fn71
  | 72, i, _, h => by
    have e : some (⟨c72, 9, Go.Proofs.Tryd.f72.results.toList, o72⟩ : FnI) = some i := Option.some.inj (show some (some _) = some (some i) from h)
    cases e
    exact fn72
  | 73, i, _, h => by
    have e : some (⟨c73, 21, Go.Proofs.Tryd.f73.results.toList, o73⟩ : FnI) = some i := Option.some.inj (show some (some _) = some (some i) from h)
    cases e
    exact fn73
  | 74, i, _, h => by
    have e : some (⟨c74, 32, Go.Proofs.Tryd.f74.results.toList, o74⟩ : FnI) = some i := Option.some.inj (show some (some _) = some (some i) from h)
    cases e
    exact fn74
  | 75, i, _, h => by
    have e : some (⟨c75, 26, Go.Proofs.Tryd.f75.results.toList, o75⟩ : FnI) = some i := Option.some.inj (show some (some _) = some (some i) from h)
    cases e
    exact fn75
  | 76, i, _, h => by
    have e : some (⟨c76, 27, Go.Proofs.Tryd.f76.results.toList, o76⟩ : FnI) = some i := Option.some.inj (show some (some _) = some (some i) from h)
    cases e
    exact fn76
  | 77, i, _, h => by
    have e : some (⟨c77, 19, Go.Proofs.Tryd.f77.results.toList, o77⟩ : FnI) = some i := Option.some.inj (show some (some _) = some (some i) from h)
    cases e
    exact fn77
  | 78, i, _, h => by
    have e : some (⟨c78, 23, Go.Proofs.Tryd.f78.results.toList, o78⟩ : FnI) = some i := Option.some.inj (show some (some _) = some (some i) from h)
    cases e
    exact fn78
  | 79, i, _, h => by
    have e : some (⟨c79, 19, Go.Proofs.Tryd.f79.results.toList, o79⟩ : FnI) = some i := Option.some.inj (show some (some _) = some (some i) from h)
    cases e
    exact fn79
  | 80, i, _, h => by
    have e : some (⟨c80, 27, Go.Proofs.Tryd.f80.results.toList, o80⟩ : FnI) = some i := Option.some.inj (show some (some _) = some (some i) from h)
    cases e
    exact fn80
  | 81, i, _, h => by
    have e : (none : Option FnI) = some i := Option.some.inj (show some none = some (some i) from h)
    cases e
  | 82, i, _, h => by
    have e : (none : Option FnI) = some i := Option.some.inj (show some none = some (some i) from h)
    cases e
  | 83, i, _, h => by
    have e : (none : Option FnI) = some i := Option.some.inj (show some none = some (some i) from h)
    cases e
  | 84, i, _, h => by
    have e : (none : Option FnI) = some i := Option.some.inj (show some none = some (some i) from h)
    cases e
  | 85, i, _, h => by
    have e : (none : Option FnI) = some i := Option.some.inj (show some none = some (some i) from h)
    cases e
  | 86, i, _, h => by
    have e : (none : Option FnI) = some i := Option.some.inj (show some none = some (some i) from h)
    cases e
  | 87, i, _, h => by
    have e : (none : Option FnI) = some i := Option.some.inj (show some none = some (some i) from h)
    cases e
  | 88, i, _, h => by
    have e : (none : Option FnI) = some i := Option.some.inj (show some none = some (some i) from h)
    cases e
  | 89, i, _, h => by
    have e : (none : Option FnI) = some i := Option.some.inj (show some none = some (some i) from h)
    cases e
  | 90, i, _, h => by
    have e : (none : Option FnI) = some i := Option.some.inj (show some none = some (some i) from h)
    cases e
  | 91, i, _, h => by
    have e : (none : Option FnI) = some i := Option.some.inj (show some none = some (some i) from h)
    cases e
  | 92, i, _, h => by
    have e : (none : Option FnI) = some i := Option.some.inj (show some none = some (some i) from h)
    cases e
  | 93, i, _, h => by
    have e : (none : Option FnI) = some i := Option.some.inj (show some none = some (some i) from h)
    cases e
  | 94, i, _, h => by
    have e : some (⟨c94, 17, Go.Proofs.Tryd.f94.results.toList, o94⟩ : FnI) = some i := Option.some.inj (show some (some _) = some (some i) from h)
    cases e
    exact fn94
  | 95, i, _, h => by
    have e : some (⟨c95, 33, Go.Proofs.Tryd.f95.results.toList, o95⟩ : FnI) = some i := Option.some.inj (show some (some _) = some (some i) from h)
    cases e
    exact fn95
  | 96, i, _, h => by
    have e : (none : Option FnI) = some i := Option.some.inj (show some none = some (some i) from h)
    cases e
  | 97, i, _, h => by
    have e : (none : Option FnI) = some i := Option.some.inj (show some none = some (some i) from h)
    cases e
  | 98, i, _, h => by
    have e : some (⟨c98, 5, Go.Proofs.Tryd.f98.results.toList, o98⟩ : FnI) = some i := Option.some.inj (show some (some _) = some (some i) from h)
    cases e
    exact fn98
  | 99, i, _, h => by
    have e : some (⟨c99, 12, Go.Proofs.Tryd.f99.results.toList, o99⟩ : FnI) = some i := Option.some.inj (show some (some _) = some (some i) from h)
    cases e
    exact fn99
  | 100, i, _, h => by
    have e : some (⟨c100, 15, Go.Proofs.Tryd.f100.results.toList, o100⟩ : FnI) = some i := Option.some.inj (show some (some _) = some (some i) from h)
    cases e
    exact fn100
  | 101, i, _, h => by
    have e : some (⟨c101, 19, Go.Proofs.Tryd.f101.results.toList, o101⟩ : FnI) = some i := Option.some.inj (show some (some _) = some (some i) from h)
    cases e
    exact fn101
  | 102, i, _, h => by
    have e : some (⟨c102, 8, Go.Proofs.Tryd.f102.results.toList, o102⟩ : FnI) = some i := Option.some.inj (show some (some _) = some (some i) from h)
    cases e
    exact fn102
  | 103, i, _, h => by
    have e : some (⟨c103, 21, Go.Proofs.Tryd.f103.results.toList, o103⟩ : FnI) = some i := Option.some.inj (show some (some _) = some (some i) from h)
    cases e
    exact fn103
  | 104, i, _, h => by
    have e : some (⟨c104, 35, Go.Proofs.Tryd.f104.results.toList, o104⟩ : FnI) = some i := Option.some.inj (show some (some _) = some (some i) from h)
    cases e
    exact fn104
  | 105, i, _, h => by
    have e : (none : Option FnI) = some i := Option.some.inj (show some none = some (some i) from h)
    cases e
  | 106, i, _, h => by
    have e : (none : Option FnI) = some i := Option.some.inj (show some none = some (some i) from h)
    cases e
  | 107, i, _, h => by
    have e : (none : Option FnI) = some i := Option.some.inj (show some none = some (some i) from h)
    cases e
  | 108, i, _, h => by
    have e : (none : Option FnI) = some i := Option.some.inj (show some none = some (some i) from h)
    cases e
  | 109, i, _, h => by
    have e : some (⟨c109, 104, Go.Proofs.Tryd.f109.results.toList, o109⟩ : FnI) = some i := Option.some.inj (show some (some _) = some (some i) from h)
    cases e
    exact fn109
  | n + 110, i, hlt, h => by omega
theorem fns0 : ∀ f i, E0.fs f = some i → FnOk Go.Proofs.Tryd.prog E0 f i := by
  intro f i h
  have hl : fss[f]? = some (some i) := by
    have h : (fss[f]?).getD none = some i := h
    cases hl : fss[f]? with
    | none => rw [hl] at h; cases h
    | some o => rw [hl] at h; simp only [Option.getD_some] at h; rw [h]
  refine ⟨?_, fnsB_ok code0 hl⟩
  have hlt : f < 110 := (List.getElem?_eq_some_iff.1 hl).1
  exact fnAll f i hlt hl
theorem env0 : EnvOk Go.Proofs.Tryd.prog E0 J0 := ⟨tabOk0, byte0, by kernel_rfl, fns0, ext0, j0_stays⟩
end Go.Proofs.YtpcgppelelfmiaaDoor.Abs
