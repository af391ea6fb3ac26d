/- The facts of the program's tables (written by gen.py). -/
import Derived.Test.YtnkelipioodhjaaChecked
import Derived.Test.YtnkelipioodhjaaFns
import Derived.Test.YtnkelipioodhjaaEnv
set_option linter.unusedVariables false
set_option linter.unusedSimpArgs false
set_option maxRecDepth 100000
namespace Go.Proofs.Ytnkelipioodhjaa.Abs
open Go
theorem tab0 : tabB Go.Proofs.Try.prog 0 tis = true := by kernel_rfl
theorem code0 : fnsB E0 fss = true := by kernel_rfl
theorem tabOk0 : TabOk Go.Proofs.Try.prog ti0 := by
  intro t i h
  unfold ti0 at h
  cases hl : tis[t]? with
  | none => rw [hl] at h; cases h
  | some o =>
    rw [hl] at h
    simp only [Option.getD_some] at h
    subst h
    simpa using (tabB_ok tis 0 t i tab0 hl).1
theorem byte0 : ∀ t i, ti0 t = some i → i.ik = some .u8 → i.size = 1 := by
  intro t i h
  unfold ti0 at h
  cases hl : tis[t]? with
  | none => rw [hl] at h; cases h
  | some o =>
    rw [hl] at h
    simp only [Option.getD_some] at h
    subst h
    exact (tabB_ok tis 0 t i tab0 hl).2
theorem fn49 : ∃ fn, Go.Proofs.Try.prog.funcs[49]? = some fn ∧ (fn.name == "runtime.NumGoroutine") = false ∧ fn.body = some c49 ∧ fn.ntmps = 12 ∧ fn.results.toList = Go.Proofs.Try.f49.results.toList := ⟨Go.Proofs.Try.f49, Go.Proofs.Try.func49, by kernel_rfl, by kernel_rfl, rfl, rfl⟩
theorem fn48 : ∃ fn, Go.Proofs.Try.prog.funcs[48]? = some fn ∧ (fn.name == "runtime.NumGoroutine") = false ∧ fn.body = some c48 ∧ fn.ntmps = 19 ∧ fn.results.toList = Go.Proofs.Try.f48.results.toList := ⟨Go.Proofs.Try.f48, Go.Proofs.Try.func48, by kernel_rfl, by kernel_rfl, rfl, rfl⟩
theorem fn133 : ∃ fn, Go.Proofs.Try.prog.funcs[133]? = some fn ∧ (fn.name == "runtime.NumGoroutine") = false ∧ fn.body = some c133 ∧ fn.ntmps = 12 ∧ fn.results.toList = Go.Proofs.Try.f133.results.toList := ⟨Go.Proofs.Try.f133, Go.Proofs.Try.func133, by kernel_rfl, by kernel_rfl, rfl, rfl⟩
theorem fn126 : ∃ fn, Go.Proofs.Try.prog.funcs[126]? = some fn ∧ (fn.name == "runtime.NumGoroutine") = false ∧ fn.body = some c126 ∧ fn.ntmps = 27 ∧ fn.results.toList = Go.Proofs.Try.f126.results.toList := ⟨Go.Proofs.Try.f126, Go.Proofs.Try.func126, by kernel_rfl, by kernel_rfl, rfl, rfl⟩
theorem fn60 : ∃ fn, Go.Proofs.Try.prog.funcs[60]? = some fn ∧ (fn.name == "runtime.NumGoroutine") = false ∧ fn.body = some c60 ∧ fn.ntmps = 27 ∧ fn.results.toList = Go.Proofs.Try.f60.results.toList := ⟨Go.Proofs.Try.f60, Go.Proofs.Try.func60, by kernel_rfl, by kernel_rfl, rfl, rfl⟩
theorem fn114 : ∃ fn, Go.Proofs.Try.prog.funcs[114]? = some fn ∧ (fn.name == "runtime.NumGoroutine") = false ∧ fn.body = some c114 ∧ fn.ntmps = 18 ∧ fn.results.toList = Go.Proofs.Try.f114.results.toList := ⟨Go.Proofs.Try.f114, Go.Proofs.Try.func114, by kernel_rfl, by kernel_rfl, rfl, rfl⟩
theorem fn68 : ∃ fn, Go.Proofs.Try.prog.funcs[68]? = some fn ∧ (fn.name == "runtime.NumGoroutine") = false ∧ fn.body = some c68 ∧ fn.ntmps = 12 ∧ fn.results.toList = Go.Proofs.Try.f68.results.toList := ⟨Go.Proofs.Try.f68, Go.Proofs.Try.func68, by kernel_rfl, by kernel_rfl, rfl, rfl⟩
theorem fn86 : ∃ fn, Go.Proofs.Try.prog.funcs[86]? = some fn ∧ (fn.name == "runtime.NumGoroutine") = false ∧ fn.body = some c86 ∧ fn.ntmps = 25 ∧ fn.results.toList = Go.Proofs.Try.f86.results.toList := ⟨Go.Proofs.Try.f86, Go.Proofs.Try.func86, by kernel_rfl, by kernel_rfl, rfl, rfl⟩
theorem fn41 : ∃ fn, Go.Proofs.Try.prog.funcs[41]? = some fn ∧ (fn.name == "runtime.NumGoroutine") = false ∧ fn.body = some c41 ∧ fn.ntmps = 27 ∧ fn.results.toList = Go.Proofs.Try.f41.results.toList := ⟨Go.Proofs.Try.f41, Go.Proofs.Try.func41, by kernel_rfl, by kernel_rfl, rfl, rfl⟩
theorem fn11 : ∃ fn, Go.Proofs.Try.prog.funcs[11]? = some fn ∧ (fn.name == "runtime.NumGoroutine") = false ∧ fn.body = some c11 ∧ fn.ntmps = 12 ∧ fn.results.toList = Go.Proofs.Try.f11.results.toList := ⟨Go.Proofs.Try.f11, Go.Proofs.Try.func11, by kernel_rfl, by kernel_rfl, rfl, rfl⟩
theorem fn53 : ∃ fn, Go.Proofs.Try.prog.funcs[53]? = some fn ∧ (fn.name == "runtime.NumGoroutine") = false ∧ fn.body = some c53 ∧ fn.ntmps = 22 ∧ fn.results.toList = Go.Proofs.Try.f53.results.toList := ⟨Go.Proofs.Try.f53, Go.Proofs.Try.func53, by kernel_rfl, by kernel_rfl, rfl, rfl⟩
theorem fn52 : ∃ fn, Go.Proofs.Try.prog.funcs[52]? = some fn ∧ (fn.name == "runtime.NumGoroutine") = false ∧ fn.body = some c52 ∧ fn.ntmps = 18 ∧ fn.results.toList = Go.Proofs.Try.f52.results.toList := ⟨Go.Proofs.Try.f52, Go.Proofs.Try.func52, by kernel_rfl, by kernel_rfl, rfl, rfl⟩
theorem fn134 : ∃ fn, Go.Proofs.Try.prog.funcs[134]? = some fn ∧ (fn.name == "runtime.NumGoroutine") = false ∧ fn.body = some c134 ∧ fn.ntmps = 15 ∧ fn.results.toList = Go.Proofs.Try.f134.results.toList := ⟨Go.Proofs.Try.f134, Go.Proofs.Try.func134, by kernel_rfl, by kernel_rfl, rfl, rfl⟩
theorem fn127 : ∃ fn, Go.Proofs.Try.prog.funcs[127]? = some fn ∧ (fn.name == "runtime.NumGoroutine") = false ∧ fn.body = some c127 ∧ fn.ntmps = 23 ∧ fn.results.toList = Go.Proofs.Try.f127.results.toList := ⟨Go.Proofs.Try.f127, Go.Proofs.Try.func127, by kernel_rfl, by kernel_rfl, rfl, rfl⟩
theorem fn64 : ∃ fn, Go.Proofs.Try.prog.funcs[64]? = some fn ∧ (fn.name == "runtime.NumGoroutine") = false ∧ fn.body = some c64 ∧ fn.ntmps = 23 ∧ fn.results.toList = Go.Proofs.Try.f64.results.toList := ⟨Go.Proofs.Try.f64, Go.Proofs.Try.func64, by kernel_rfl, by kernel_rfl, rfl, rfl⟩
theorem fn115 : ∃ fn, Go.Proofs.Try.prog.funcs[115]? = some fn ∧ (fn.name == "runtime.NumGoroutine") = false ∧ fn.body = some c115 ∧ fn.ntmps = 16 ∧ fn.results.toList = Go.Proofs.Try.f115.results.toList := ⟨Go.Proofs.Try.f115, Go.Proofs.Try.func115, by kernel_rfl, by kernel_rfl, rfl, rfl⟩
theorem fn69 : ∃ fn, Go.Proofs.Try.prog.funcs[69]? = some fn ∧ (fn.name == "runtime.NumGoroutine") = false ∧ fn.body = some c69 ∧ fn.ntmps = 22 ∧ fn.results.toList = Go.Proofs.Try.f69.results.toList := ⟨Go.Proofs.Try.f69, Go.Proofs.Try.func69, by kernel_rfl, by kernel_rfl, rfl, rfl⟩
theorem fn87 : ∃ fn, Go.Proofs.Try.prog.funcs[87]? = some fn ∧ (fn.name == "runtime.NumGoroutine") = false ∧ fn.body = some c87 ∧ fn.ntmps = 28 ∧ fn.results.toList = Go.Proofs.Try.f87.results.toList := ⟨Go.Proofs.Try.f87, Go.Proofs.Try.func87, by kernel_rfl, by kernel_rfl, rfl, rfl⟩
theorem fn42 : ∃ fn, Go.Proofs.Try.prog.funcs[42]? = some fn ∧ (fn.name == "runtime.NumGoroutine") = false ∧ fn.body = some c42 ∧ fn.ntmps = 23 ∧ fn.results.toList = Go.Proofs.Try.f42.results.toList := ⟨Go.Proofs.Try.f42, Go.Proofs.Try.func42, by kernel_rfl, by kernel_rfl, rfl, rfl⟩
theorem fn13 : ∃ fn, Go.Proofs.Try.prog.funcs[13]? = some fn ∧ (fn.name == "runtime.NumGoroutine") = false ∧ fn.body = some c13 ∧ fn.ntmps = 12 ∧ fn.results.toList = Go.Proofs.Try.f13.results.toList := ⟨Go.Proofs.Try.f13, Go.Proofs.Try.func13, by kernel_rfl, by kernel_rfl, rfl, rfl⟩
theorem fn12 : ∃ fn, Go.Proofs.Try.prog.funcs[12]? = some fn ∧ (fn.name == "runtime.NumGoroutine") = false ∧ fn.body = some c12 ∧ fn.ntmps = 22 ∧ fn.results.toList = Go.Proofs.Try.f12.results.toList := ⟨Go.Proofs.Try.f12, Go.Proofs.Try.func12, by kernel_rfl, by kernel_rfl, rfl, rfl⟩
theorem fn44 : ∃ fn, Go.Proofs.Try.prog.funcs[44]? = some fn ∧ (fn.name == "runtime.NumGoroutine") = false ∧ fn.body = some c44 ∧ fn.ntmps = 8 ∧ fn.results.toList = Go.Proofs.Try.f44.results.toList := ⟨Go.Proofs.Try.f44, Go.Proofs.Try.func44, by kernel_rfl, by kernel_rfl, rfl, rfl⟩
theorem fn43 : ∃ fn, Go.Proofs.Try.prog.funcs[43]? = some fn ∧ (fn.name == "runtime.NumGoroutine") = false ∧ fn.body = some c43 ∧ fn.ntmps = 19 ∧ fn.results.toList = Go.Proofs.Try.f43.results.toList := ⟨Go.Proofs.Try.f43, Go.Proofs.Try.func43, by kernel_rfl, by kernel_rfl, rfl, rfl⟩
theorem fn14 : ∃ fn, Go.Proofs.Try.prog.funcs[14]? = some fn ∧ (fn.name == "runtime.NumGoroutine") = false ∧ fn.body = some c14 ∧ fn.ntmps = 9 ∧ fn.results.toList = Go.Proofs.Try.f14.results.toList := ⟨Go.Proofs.Try.f14, Go.Proofs.Try.func14, by kernel_rfl, by kernel_rfl, rfl, rfl⟩
theorem fn57 : ∃ fn, Go.Proofs.Try.prog.funcs[57]? = some fn ∧ (fn.name == "runtime.NumGoroutine") = false ∧ fn.body = some c57 ∧ fn.ntmps = 26 ∧ fn.results.toList = Go.Proofs.Try.f57.results.toList := ⟨Go.Proofs.Try.f57, Go.Proofs.Try.func57, by kernel_rfl, by kernel_rfl, rfl, rfl⟩
theorem fn56 : ∃ fn, Go.Proofs.Try.prog.funcs[56]? = some fn ∧ (fn.name == "runtime.NumGoroutine") = false ∧ fn.body = some c56 ∧ fn.ntmps = 26 ∧ fn.results.toList = Go.Proofs.Try.f56.results.toList := ⟨Go.Proofs.Try.f56, Go.Proofs.Try.func56, by kernel_rfl, by kernel_rfl, rfl, rfl⟩
theorem fn135 : ∃ fn, Go.Proofs.Try.prog.funcs[135]? = some fn ∧ (fn.name == "runtime.NumGoroutine") = false ∧ fn.body = some c135 ∧ fn.ntmps = 21 ∧ fn.results.toList = Go.Proofs.Try.f135.results.toList := ⟨Go.Proofs.Try.f135, Go.Proofs.Try.func135, by kernel_rfl, by kernel_rfl, rfl, rfl⟩
theorem fn128 : ∃ fn, Go.Proofs.Try.prog.funcs[128]? = some fn ∧ (fn.name == "runtime.NumGoroutine") = false ∧ fn.body = some c128 ∧ fn.ntmps = 27 ∧ fn.results.toList = Go.Proofs.Try.f128.results.toList := ⟨Go.Proofs.Try.f128, Go.Proofs.Try.func128, by kernel_rfl, by kernel_rfl, rfl, rfl⟩
theorem fn67 : ∃ fn, Go.Proofs.Try.prog.funcs[67]? = some fn ∧ (fn.name == "runtime.NumGoroutine") = false ∧ fn.body = some c67 ∧ fn.ntmps = 27 ∧ fn.results.toList = Go.Proofs.Try.f67.results.toList := ⟨Go.Proofs.Try.f67, Go.Proofs.Try.func67, by kernel_rfl, by kernel_rfl, rfl, rfl⟩
theorem fn116 : ∃ fn, Go.Proofs.Try.prog.funcs[116]? = some fn ∧ (fn.name == "runtime.NumGoroutine") = false ∧ fn.body = some c116 ∧ fn.ntmps = 22 ∧ fn.results.toList = Go.Proofs.Try.f116.results.toList := ⟨Go.Proofs.Try.f116, Go.Proofs.Try.func116, by kernel_rfl, by kernel_rfl, rfl, rfl⟩
theorem fn70 : ∃ fn, Go.Proofs.Try.prog.funcs[70]? = some fn ∧ (fn.name == "runtime.NumGoroutine") = false ∧ fn.body = some c70 ∧ fn.ntmps = 26 ∧ fn.results.toList = Go.Proofs.Try.f70.results.toList := ⟨Go.Proofs.Try.f70, Go.Proofs.Try.func70, by kernel_rfl, by kernel_rfl, rfl, rfl⟩
theorem fn88 : ∃ fn, Go.Proofs.Try.prog.funcs[88]? = some fn ∧ (fn.name == "runtime.NumGoroutine") = false ∧ fn.body = some c88 ∧ fn.ntmps = 42 ∧ fn.results.toList = Go.Proofs.Try.f88.results.toList := ⟨Go.Proofs.Try.f88, Go.Proofs.Try.func88, by kernel_rfl, by kernel_rfl, rfl, rfl⟩
theorem fn45 : ∃ fn, Go.Proofs.Try.prog.funcs[45]? = some fn ∧ (fn.name == "runtime.NumGoroutine") = false ∧ fn.body = some c45 ∧ fn.ntmps = 27 ∧ fn.results.toList = Go.Proofs.Try.f45.results.toList := ⟨Go.Proofs.Try.f45, Go.Proofs.Try.func45, by kernel_rfl, by kernel_rfl, rfl, rfl⟩
theorem fn15 : ∃ fn, Go.Proofs.Try.prog.funcs[15]? = some fn ∧ (fn.name == "runtime.NumGoroutine") = false ∧ fn.body = some c15 ∧ fn.ntmps = 16 ∧ fn.results.toList = Go.Proofs.Try.f15.results.toList := ⟨Go.Proofs.Try.f15, Go.Proofs.Try.func15, by kernel_rfl, by kernel_rfl, rfl, rfl⟩
theorem fn3 : ∃ fn, Go.Proofs.Try.prog.funcs[3]? = some fn ∧ (fn.name == "runtime.NumGoroutine") = false ∧ fn.body = some c3 ∧ fn.ntmps = 34 ∧ fn.results.toList = Go.Proofs.Try.f3.results.toList := ⟨Go.Proofs.Try.f3, Go.Proofs.Try.func3, by kernel_rfl, by kernel_rfl, rfl, rfl⟩
theorem fn46 : ∃ fn, Go.Proofs.Try.prog.funcs[46]? = some fn ∧ (fn.name == "runtime.NumGoroutine") = false ∧ fn.body = some c46 ∧ fn.ntmps = 12 ∧ fn.results.toList = Go.Proofs.Try.f46.results.toList := ⟨Go.Proofs.Try.f46, Go.Proofs.Try.func46, by kernel_rfl, by kernel_rfl, rfl, rfl⟩
theorem fn117 : ∃ fn, Go.Proofs.Try.prog.funcs[117]? = some fn ∧ (fn.name == "runtime.NumGoroutine") = false ∧ fn.body = some c117 ∧ fn.ntmps = 13 ∧ fn.results.toList = Go.Proofs.Try.f117.results.toList := ⟨Go.Proofs.Try.f117, Go.Proofs.Try.func117, by kernel_rfl, by kernel_rfl, rfl, rfl⟩
theorem fn89 : ∃ fn, Go.Proofs.Try.prog.funcs[89]? = some fn ∧ (fn.name == "runtime.NumGoroutine") = false ∧ fn.body = some c89 ∧ fn.ntmps = 27 ∧ fn.results.toList = Go.Proofs.Try.f89.results.toList := ⟨Go.Proofs.Try.f89, Go.Proofs.Try.func89, by kernel_rfl, by kernel_rfl, rfl, rfl⟩
theorem fn90 : ∃ fn, Go.Proofs.Try.prog.funcs[90]? = some fn ∧ (fn.name == "runtime.NumGoroutine") = false ∧ fn.body = some c90 ∧ fn.ntmps = 28 ∧ fn.results.toList = Go.Proofs.Try.f90.results.toList := ⟨Go.Proofs.Try.f90, Go.Proofs.Try.func90, by kernel_rfl, by kernel_rfl, rfl, rfl⟩
theorem fn58 : ∃ fn, Go.Proofs.Try.prog.funcs[58]? = some fn ∧ (fn.name == "runtime.NumGoroutine") = false ∧ fn.body = some c58 ∧ fn.ntmps = 70 ∧ fn.results.toList = Go.Proofs.Try.f58.results.toList := ⟨Go.Proofs.Try.f58, Go.Proofs.Try.func58, by kernel_rfl, by kernel_rfl, rfl, rfl⟩
theorem fn47 : ∃ fn, Go.Proofs.Try.prog.funcs[47]? = some fn ∧ (fn.name == "runtime.NumGoroutine") = false ∧ fn.body = some c47 ∧ fn.ntmps = 27 ∧ fn.results.toList = Go.Proofs.Try.f47.results.toList := ⟨Go.Proofs.Try.f47, Go.Proofs.Try.func47, by kernel_rfl, by kernel_rfl, rfl, rfl⟩
theorem fn16 : ∃ fn, Go.Proofs.Try.prog.funcs[16]? = some fn ∧ (fn.name == "runtime.NumGoroutine") = false ∧ fn.body = some c16 ∧ fn.ntmps = 37 ∧ fn.results.toList = Go.Proofs.Try.f16.results.toList := ⟨Go.Proofs.Try.f16, Go.Proofs.Try.func16, by kernel_rfl, by kernel_rfl, rfl, rfl⟩
theorem fn50 : ∃ fn, Go.Proofs.Try.prog.funcs[50]? = some fn ∧ (fn.name == "runtime.NumGoroutine") = false ∧ fn.body = some c50 ∧ fn.ntmps = 12 ∧ fn.results.toList = Go.Proofs.Try.f50.results.toList := ⟨Go.Proofs.Try.f50, Go.Proofs.Try.func50, by kernel_rfl, by kernel_rfl, rfl, rfl⟩
theorem fn118 : ∃ fn, Go.Proofs.Try.prog.funcs[118]? = some fn ∧ (fn.name == "runtime.NumGoroutine") = false ∧ fn.body = some c118 ∧ fn.ntmps = 11 ∧ fn.results.toList = Go.Proofs.Try.f118.results.toList := ⟨Go.Proofs.Try.f118, Go.Proofs.Try.func118, by kernel_rfl, by kernel_rfl, rfl, rfl⟩
theorem fn92 : ∃ fn, Go.Proofs.Try.prog.funcs[92]? = some fn ∧ (fn.name == "runtime.NumGoroutine") = false ∧ fn.body = some c92 ∧ fn.ntmps = 23 ∧ fn.results.toList = Go.Proofs.Try.f92.results.toList := ⟨Go.Proofs.Try.f92, Go.Proofs.Try.func92, by kernel_rfl, by kernel_rfl, rfl, rfl⟩
theorem fn93 : ∃ fn, Go.Proofs.Try.prog.funcs[93]? = some fn ∧ (fn.name == "runtime.NumGoroutine") = false ∧ fn.body = some c93 ∧ fn.ntmps = 22 ∧ fn.results.toList = Go.Proofs.Try.f93.results.toList := ⟨Go.Proofs.Try.f93, Go.Proofs.Try.func93, by kernel_rfl, by kernel_rfl, rfl, rfl⟩
theorem fn62 : ∃ fn, Go.Proofs.Try.prog.funcs[62]? = some fn ∧ (fn.name == "runtime.NumGoroutine") = false ∧ fn.body = some c62 ∧ fn.ntmps = 86 ∧ fn.results.toList = Go.Proofs.Try.f62.results.toList := ⟨Go.Proofs.Try.f62, Go.Proofs.Try.func62, by kernel_rfl, by kernel_rfl, rfl, rfl⟩
theorem fn51 : ∃ fn, Go.Proofs.Try.prog.funcs[51]? = some fn ∧ (fn.name == "runtime.NumGoroutine") = false ∧ fn.body = some c51 ∧ fn.ntmps = 23 ∧ fn.results.toList = Go.Proofs.Try.f51.results.toList := ⟨Go.Proofs.Try.f51, Go.Proofs.Try.func51, by kernel_rfl, by kernel_rfl, rfl, rfl⟩
theorem fn18 : ∃ fn, Go.Proofs.Try.prog.funcs[18]? = some fn ∧ (fn.name == "runtime.NumGoroutine") = false ∧ fn.body = some c18 ∧ fn.ntmps = 45 ∧ fn.results.toList = Go.Proofs.Try.f18.results.toList := ⟨Go.Proofs.Try.f18, Go.Proofs.Try.func18, by kernel_rfl, by kernel_rfl, rfl, rfl⟩
theorem fn17 : ∃ fn, Go.Proofs.Try.prog.funcs[17]? = some fn ∧ (fn.name == "runtime.NumGoroutine") = false ∧ fn.body = some c17 ∧ fn.ntmps = 20 ∧ fn.results.toList = Go.Proofs.Try.f17.results.toList := ⟨Go.Proofs.Try.f17, Go.Proofs.Try.func17, by kernel_rfl, by kernel_rfl, rfl, rfl⟩
theorem fn19 : ∃ fn, Go.Proofs.Try.prog.funcs[19]? = some fn ∧ (fn.name == "runtime.NumGoroutine") = false ∧ fn.body = some c19 ∧ fn.ntmps = 20 ∧ fn.results.toList = Go.Proofs.Try.f19.results.toList := ⟨Go.Proofs.Try.f19, Go.Proofs.Try.func19, by kernel_rfl, by kernel_rfl, rfl, rfl⟩
theorem fn54 : ∃ fn, Go.Proofs.Try.prog.funcs[54]? = some fn ∧ (fn.name == "runtime.NumGoroutine") = false ∧ fn.body = some c54 ∧ fn.ntmps = 16 ∧ fn.results.toList = Go.Proofs.Try.f54.results.toList := ⟨Go.Proofs.Try.f54, Go.Proofs.Try.func54, by kernel_rfl, by kernel_rfl, rfl, rfl⟩
theorem fn119 : ∃ fn, Go.Proofs.Try.prog.funcs[119]? = some fn ∧ (fn.name == "runtime.NumGoroutine") = false ∧ fn.body = some c119 ∧ fn.ntmps = 15 ∧ fn.results.toList = Go.Proofs.Try.f119.results.toList := ⟨Go.Proofs.Try.f119, Go.Proofs.Try.func119, by kernel_rfl, by kernel_rfl, rfl, rfl⟩
theorem fn95 : ∃ fn, Go.Proofs.Try.prog.funcs[95]? = some fn ∧ (fn.name == "runtime.NumGoroutine") = false ∧ fn.body = some c95 ∧ fn.ntmps = 27 ∧ fn.results.toList = Go.Proofs.Try.f95.results.toList := ⟨Go.Proofs.Try.f95, Go.Proofs.Try.func95, by kernel_rfl, by kernel_rfl, rfl, rfl⟩
theorem fn96 : ∃ fn, Go.Proofs.Try.prog.funcs[96]? = some fn ∧ (fn.name == "runtime.NumGoroutine") = false ∧ fn.body = some c96 ∧ fn.ntmps = 26 ∧ fn.results.toList = Go.Proofs.Try.f96.results.toList := ⟨Go.Proofs.Try.f96, Go.Proofs.Try.func96, by kernel_rfl, by kernel_rfl, rfl, rfl⟩
theorem fn65 : ∃ fn, Go.Proofs.Try.prog.funcs[65]? = some fn ∧ (fn.name == "runtime.NumGoroutine") = false ∧ fn.body = some c65 ∧ fn.ntmps = 136 ∧ fn.results.toList = Go.Proofs.Try.f65.results.toList := ⟨Go.Proofs.Try.f65, Go.Proofs.Try.func65, by kernel_rfl, by kernel_rfl, rfl, rfl⟩
theorem fn55 : ∃ fn, Go.Proofs.Try.prog.funcs[55]? = some fn ∧ (fn.name == "runtime.NumGoroutine") = false ∧ fn.body = some c55 ∧ fn.ntmps = 27 ∧ fn.results.toList = Go.Proofs.Try.f55.results.toList := ⟨Go.Proofs.Try.f55, Go.Proofs.Try.func55, by kernel_rfl, by kernel_rfl, rfl, rfl⟩
theorem fn20 : ∃ fn, Go.Proofs.Try.prog.funcs[20]? = some fn ∧ (fn.name == "runtime.NumGoroutine") = false ∧ fn.body = some c20 ∧ fn.ntmps = 69 ∧ fn.results.toList = Go.Proofs.Try.f20.results.toList := ⟨Go.Proofs.Try.f20, Go.Proofs.Try.func20, by kernel_rfl, by kernel_rfl, rfl, rfl⟩
theorem fn4 : ∃ fn, Go.Proofs.Try.prog.funcs[4]? = some fn ∧ (fn.name == "runtime.NumGoroutine") = false ∧ fn.body = some c4 ∧ fn.ntmps = 27 ∧ fn.results.toList = Go.Proofs.Try.f4.results.toList := ⟨Go.Proofs.Try.f4, Go.Proofs.Try.func4, by kernel_rfl, by kernel_rfl, rfl, rfl⟩
theorem fn91 : ∃ fn, Go.Proofs.Try.prog.funcs[91]? = some fn ∧ (fn.name == "runtime.NumGoroutine") = false ∧ fn.body = some c91 ∧ fn.ntmps = 13 ∧ fn.results.toList = Go.Proofs.Try.f91.results.toList := ⟨Go.Proofs.Try.f91, Go.Proofs.Try.func91, by kernel_rfl, by kernel_rfl, rfl, rfl⟩
theorem fn59 : ∃ fn, Go.Proofs.Try.prog.funcs[59]? = some fn ∧ (fn.name == "runtime.NumGoroutine") = false ∧ fn.body = some c59 ∧ fn.ntmps = 27 ∧ fn.results.toList = Go.Proofs.Try.f59.results.toList := ⟨Go.Proofs.Try.f59, Go.Proofs.Try.func59, by kernel_rfl, by kernel_rfl, rfl, rfl⟩
theorem fn21 : ∃ fn, Go.Proofs.Try.prog.funcs[21]? = some fn ∧ (fn.name == "runtime.NumGoroutine") = false ∧ fn.body = some c21 ∧ fn.ntmps = 37 ∧ fn.results.toList = Go.Proofs.Try.f21.results.toList := ⟨Go.Proofs.Try.f21, Go.Proofs.Try.func21, by kernel_rfl, by kernel_rfl, rfl, rfl⟩
theorem fn94 : ∃ fn, Go.Proofs.Try.prog.funcs[94]? = some fn ∧ (fn.name == "runtime.NumGoroutine") = false ∧ fn.body = some c94 ∧ fn.ntmps = 14 ∧ fn.results.toList = Go.Proofs.Try.f94.results.toList := ⟨Go.Proofs.Try.f94, Go.Proofs.Try.func94, by kernel_rfl, by kernel_rfl, rfl, rfl⟩
theorem fn63 : ∃ fn, Go.Proofs.Try.prog.funcs[63]? = some fn ∧ (fn.name == "runtime.NumGoroutine") = false ∧ fn.body = some c63 ∧ fn.ntmps = 23 ∧ fn.results.toList = Go.Proofs.Try.f63.results.toList := ⟨Go.Proofs.Try.f63, Go.Proofs.Try.func63, by kernel_rfl, by kernel_rfl, rfl, rfl⟩
theorem fn23 : ∃ fn, Go.Proofs.Try.prog.funcs[23]? = some fn ∧ (fn.name == "runtime.NumGoroutine") = false ∧ fn.body = some c23 ∧ fn.ntmps = 33 ∧ fn.results.toList = Go.Proofs.Try.f23.results.toList := ⟨Go.Proofs.Try.f23, Go.Proofs.Try.func23, by kernel_rfl, by kernel_rfl, rfl, rfl⟩
theorem fn61 : ∃ fn, Go.Proofs.Try.prog.funcs[61]? = some fn ∧ (fn.name == "runtime.NumGoroutine") = false ∧ fn.body = some c61 ∧ fn.ntmps = 15 ∧ fn.results.toList = Go.Proofs.Try.f61.results.toList := ⟨Go.Proofs.Try.f61, Go.Proofs.Try.func61, by kernel_rfl, by kernel_rfl, rfl, rfl⟩
theorem fn22 : ∃ fn, Go.Proofs.Try.prog.funcs[22]? = some fn ∧ (fn.name == "runtime.NumGoroutine") = false ∧ fn.body = some c22 ∧ fn.ntmps = 26 ∧ fn.results.toList = Go.Proofs.Try.f22.results.toList := ⟨Go.Proofs.Try.f22, Go.Proofs.Try.func22, by kernel_rfl, by kernel_rfl, rfl, rfl⟩
theorem fn24 : ∃ fn, Go.Proofs.Try.prog.funcs[24]? = some fn ∧ (fn.name == "runtime.NumGoroutine") = false ∧ fn.body = some c24 ∧ fn.ntmps = 26 ∧ fn.results.toList = Go.Proofs.Try.f24.results.toList := ⟨Go.Proofs.Try.f24, Go.Proofs.Try.func24, by kernel_rfl, by kernel_rfl, rfl, rfl⟩
theorem fn97 : ∃ fn, Go.Proofs.Try.prog.funcs[97]? = some fn ∧ (fn.name == "runtime.NumGoroutine") = false ∧ fn.body = some c97 ∧ fn.ntmps = 20 ∧ fn.results.toList = Go.Proofs.Try.f97.results.toList := ⟨Go.Proofs.Try.f97, Go.Proofs.Try.func97, by kernel_rfl, by kernel_rfl, rfl, rfl⟩
theorem fn66 : ∃ fn, Go.Proofs.Try.prog.funcs[66]? = some fn ∧ (fn.name == "runtime.NumGoroutine") = false ∧ fn.body = some c66 ∧ fn.ntmps = 27 ∧ fn.results.toList = Go.Proofs.Try.f66.results.toList := ⟨Go.Proofs.Try.f66, Go.Proofs.Try.func66, by kernel_rfl, by kernel_rfl, rfl, rfl⟩
theorem fn25 : ∃ fn, Go.Proofs.Try.prog.funcs[25]? = some fn ∧ (fn.name == "runtime.NumGoroutine") = false ∧ fn.body = some c25 ∧ fn.ntmps = 49 ∧ fn.results.toList = Go.Proofs.Try.f25.results.toList := ⟨Go.Proofs.Try.f25, Go.Proofs.Try.func25, by kernel_rfl, by kernel_rfl, rfl, rfl⟩
theorem fn5 : ∃ fn, Go.Proofs.Try.prog.funcs[5]? = some fn ∧ (fn.name == "runtime.NumGoroutine") = false ∧ fn.body = some c5 ∧ fn.ntmps = 27 ∧ fn.results.toList = Go.Proofs.Try.f5.results.toList := ⟨Go.Proofs.Try.f5, Go.Proofs.Try.func5, by kernel_rfl, by kernel_rfl, rfl, rfl⟩
theorem fn26 : ∃ fn, Go.Proofs.Try.prog.funcs[26]? = some fn ∧ (fn.name == "runtime.NumGoroutine") = false ∧ fn.body = some c26 ∧ fn.ntmps = 37 ∧ fn.results.toList = Go.Proofs.Try.f26.results.toList := ⟨Go.Proofs.Try.f26, Go.Proofs.Try.func26, by kernel_rfl, by kernel_rfl, rfl, rfl⟩
theorem fn28 : ∃ fn, Go.Proofs.Try.prog.funcs[28]? = some fn ∧ (fn.name == "runtime.NumGoroutine") = false ∧ fn.body = some c28 ∧ fn.ntmps = 57 ∧ fn.results.toList = Go.Proofs.Try.f28.results.toList := ⟨Go.Proofs.Try.f28, Go.Proofs.Try.func28, by kernel_rfl, by kernel_rfl, rfl, rfl⟩
theorem fn27 : ∃ fn, Go.Proofs.Try.prog.funcs[27]? = some fn ∧ (fn.name == "runtime.NumGoroutine") = false ∧ fn.body = some c27 ∧ fn.ntmps = 15 ∧ fn.results.toList = Go.Proofs.Try.f27.results.toList := ⟨Go.Proofs.Try.f27, Go.Proofs.Try.func27, by kernel_rfl, by kernel_rfl, rfl, rfl⟩
theorem fn29 : ∃ fn, Go.Proofs.Try.prog.funcs[29]? = some fn ∧ (fn.name == "runtime.NumGoroutine") = false ∧ fn.body = some c29 ∧ fn.ntmps = 15 ∧ fn.results.toList = Go.Proofs.Try.f29.results.toList := ⟨Go.Proofs.Try.f29, Go.Proofs.Try.func29, by kernel_rfl, by kernel_rfl, rfl, rfl⟩
theorem fn30 : ∃ fn, Go.Proofs.Try.prog.funcs[30]? = some fn ∧ (fn.name == "runtime.NumGoroutine") = false ∧ fn.body = some c30 ∧ fn.ntmps = 89 ∧ fn.results.toList = Go.Proofs.Try.f30.results.toList := ⟨Go.Proofs.Try.f30, Go.Proofs.Try.func30, by kernel_rfl, by kernel_rfl, rfl, rfl⟩
theorem fn6 : ∃ fn, Go.Proofs.Try.prog.funcs[6]? = some fn ∧ (fn.name == "runtime.NumGoroutine") = false ∧ fn.body = some c6 ∧ fn.ntmps = 45 ∧ fn.results.toList = Go.Proofs.Try.f6.results.toList := ⟨Go.Proofs.Try.f6, Go.Proofs.Try.func6, by kernel_rfl, by kernel_rfl, rfl, rfl⟩
theorem fn71 : ∃ fn, Go.Proofs.Try.prog.funcs[71]? = some fn ∧ (fn.name == "runtime.NumGoroutine") = false ∧ fn.body = some c71 ∧ fn.ntmps = 19 ∧ fn.results.toList = Go.Proofs.Try.f71.results.toList := ⟨Go.Proofs.Try.f71, Go.Proofs.Try.func71, by kernel_rfl, by kernel_rfl, rfl, rfl⟩
theorem fn31 : ∃ fn, Go.Proofs.Try.prog.funcs[31]? = some fn ∧ (fn.name == "runtime.NumGoroutine") = false ∧ fn.body = some c31 ∧ fn.ntmps = 50 ∧ fn.results.toList = Go.Proofs.Try.f31.results.toList := ⟨Go.Proofs.Try.f31, Go.Proofs.Try.func31, by kernel_rfl, by kernel_rfl, rfl, rfl⟩
theorem fn72 : ∃ fn, Go.Proofs.Try.prog.funcs[72]? = some fn ∧ (fn.name == "runtime.NumGoroutine") = false ∧ fn.body = some c72 ∧ fn.ntmps = 15 ∧ fn.results.toList = Go.Proofs.Try.f72.results.toList := ⟨Go.Proofs.Try.f72, Go.Proofs.Try.func72, by kernel_rfl, by kernel_rfl, rfl, rfl⟩
theorem fn73 : ∃ fn, Go.Proofs.Try.prog.funcs[73]? = some fn ∧ (fn.name == "runtime.NumGoroutine") = false ∧ fn.body = some c73 ∧ fn.ntmps = 19 ∧ fn.results.toList = Go.Proofs.Try.f73.results.toList := ⟨Go.Proofs.Try.f73, Go.Proofs.Try.func73, by kernel_rfl, by kernel_rfl, rfl, rfl⟩
theorem fn32 : ∃ fn, Go.Proofs.Try.prog.funcs[32]? = some fn ∧ (fn.name == "runtime.NumGoroutine") = false ∧ fn.body = some c32 ∧ fn.ntmps = 56 ∧ fn.results.toList = Go.Proofs.Try.f32.results.toList := ⟨Go.Proofs.Try.f32, Go.Proofs.Try.func32, by kernel_rfl, by kernel_rfl, rfl, rfl⟩
theorem fn7 : ∃ fn, Go.Proofs.Try.prog.funcs[7]? = some fn ∧ (fn.name == "runtime.NumGoroutine") = false ∧ fn.body = some c7 ∧ fn.ntmps = 27 ∧ fn.results.toList = Go.Proofs.Try.f7.results.toList := ⟨Go.Proofs.Try.f7, Go.Proofs.Try.func7, by kernel_rfl, by kernel_rfl, rfl, rfl⟩
theorem fn107 : ∃ fn, Go.Proofs.Try.prog.funcs[107]? = some fn ∧ (fn.name == "runtime.NumGoroutine") = false ∧ fn.body = some c107 ∧ fn.ntmps = 10 ∧ fn.results.toList = Go.Proofs.Try.f107.results.toList := ⟨Go.Proofs.Try.f107, Go.Proofs.Try.func107, by kernel_rfl, by kernel_rfl, rfl, rfl⟩
theorem fn78 : ∃ fn, Go.Proofs.Try.prog.funcs[78]? = some fn ∧ (fn.name == "runtime.NumGoroutine") = false ∧ fn.body = some c78 ∧ fn.ntmps = 239 ∧ fn.results.toList = Go.Proofs.Try.f78.results.toList := ⟨Go.Proofs.Try.f78, Go.Proofs.Try.func78, by kernel_rfl, by kernel_rfl, rfl, rfl⟩
theorem fn79 : ∃ fn, Go.Proofs.Try.prog.funcs[79]? = some fn ∧ (fn.name == "runtime.NumGoroutine") = false ∧ fn.body = some c79 ∧ fn.ntmps = 26 ∧ fn.results.toList = Go.Proofs.Try.f79.results.toList := ⟨Go.Proofs.Try.f79, Go.Proofs.Try.func79, by kernel_rfl, by kernel_rfl, rfl, rfl⟩
theorem fn80 : ∃ fn, Go.Proofs.Try.prog.funcs[80]? = some fn ∧ (fn.name == "runtime.NumGoroutine") = false ∧ fn.body = some c80 ∧ fn.ntmps = 26 ∧ fn.results.toList = Go.Proofs.Try.f80.results.toList := ⟨Go.Proofs.Try.f80, Go.Proofs.Try.func80, by kernel_rfl, by kernel_rfl, rfl, rfl⟩
theorem fn125 : ∃ fn, Go.Proofs.Try.prog.funcs[125]? = some fn ∧ (fn.name == "runtime.NumGoroutine") = false ∧ fn.body = some c125 ∧ fn.ntmps = 31 ∧ fn.results.toList = Go.Proofs.Try.f125.results.toList := ⟨Go.Proofs.Try.f125, Go.Proofs.Try.func125, by kernel_rfl, by kernel_rfl, rfl, rfl⟩
theorem fn108 : ∃ fn, Go.Proofs.Try.prog.funcs[108]? = some fn ∧ (fn.name == "runtime.NumGoroutine") = false ∧ fn.body = some c108 ∧ fn.ntmps = 33 ∧ fn.results.toList = Go.Proofs.Try.f108.results.toList := ⟨Go.Proofs.Try.f108, Go.Proofs.Try.func108, by kernel_rfl, by kernel_rfl, rfl, rfl⟩
theorem fn81 : ∃ fn, Go.Proofs.Try.prog.funcs[81]? = some fn ∧ (fn.name == "runtime.NumGoroutine") = false ∧ fn.body = some c81 ∧ fn.ntmps = 15 ∧ fn.results.toList = Go.Proofs.Try.f81.results.toList := ⟨Go.Proofs.Try.f81, Go.Proofs.Try.func81, by kernel_rfl, by kernel_rfl, rfl, rfl⟩
theorem fn39 : ∃ fn, Go.Proofs.Try.prog.funcs[39]? = some fn ∧ (fn.name == "runtime.NumGoroutine") = false ∧ fn.body = some c39 ∧ fn.ntmps = 115 ∧ fn.results.toList = Go.Proofs.Try.f39.results.toList := ⟨Go.Proofs.Try.f39, Go.Proofs.Try.func39, by kernel_rfl, by kernel_rfl, rfl, rfl⟩
theorem fn109 : ∃ fn, Go.Proofs.Try.prog.funcs[109]? = some fn ∧ (fn.name == "runtime.NumGoroutine") = false ∧ fn.body = some c109 ∧ fn.ntmps = 10 ∧ fn.results.toList = Go.Proofs.Try.f109.results.toList := ⟨Go.Proofs.Try.f109, Go.Proofs.Try.func109, by kernel_rfl, by kernel_rfl, rfl, rfl⟩
theorem fn110 : ∃ fn, Go.Proofs.Try.prog.funcs[110]? = some fn ∧ (fn.name == "runtime.NumGoroutine") = false ∧ fn.body = some c110 ∧ fn.ntmps = 26 ∧ fn.results.toList = Go.Proofs.Try.f110.results.toList := ⟨Go.Proofs.Try.f110, Go.Proofs.Try.func110, by kernel_rfl, by kernel_rfl, rfl, rfl⟩
theorem fn111 : ∃ fn, Go.Proofs.Try.prog.funcs[111]? = some fn ∧ (fn.name == "runtime.NumGoroutine") = false ∧ fn.body = some c111 ∧ fn.ntmps = 26 ∧ fn.results.toList = Go.Proofs.Try.f111.results.toList := ⟨Go.Proofs.Try.f111, Go.Proofs.Try.func111, by kernel_rfl, by kernel_rfl, rfl, rfl⟩
theorem fn84 : ∃ fn, Go.Proofs.Try.prog.funcs[84]? = some fn ∧ (fn.name == "runtime.NumGoroutine") = false ∧ fn.body = some c84 ∧ fn.ntmps = 26 ∧ fn.results.toList = Go.Proofs.Try.f84.results.toList := ⟨Go.Proofs.Try.f84, Go.Proofs.Try.func84, by kernel_rfl, by kernel_rfl, rfl, rfl⟩
theorem fn82 : ∃ fn, Go.Proofs.Try.prog.funcs[82]? = some fn ∧ (fn.name == "runtime.NumGoroutine") = false ∧ fn.body = some c82 ∧ fn.ntmps = 186 ∧ fn.results.toList = Go.Proofs.Try.f82.results.toList := ⟨Go.Proofs.Try.f82, Go.Proofs.Try.func82, by kernel_rfl, by kernel_rfl, rfl, rfl⟩
theorem fn83 : ∃ fn, Go.Proofs.Try.prog.funcs[83]? = some fn ∧ (fn.name == "runtime.NumGoroutine") = false ∧ fn.body = some c83 ∧ fn.ntmps = 26 ∧ fn.results.toList = Go.Proofs.Try.f83.results.toList := ⟨Go.Proofs.Try.f83, Go.Proofs.Try.func83, by kernel_rfl, by kernel_rfl, rfl, rfl⟩
theorem fn112 : ∃ fn, Go.Proofs.Try.prog.funcs[112]? = some fn ∧ (fn.name == "runtime.NumGoroutine") = false ∧ fn.body = some c112 ∧ fn.ntmps = 32 ∧ fn.results.toList = Go.Proofs.Try.f112.results.toList := ⟨Go.Proofs.Try.f112, Go.Proofs.Try.func112, by kernel_rfl, by kernel_rfl, rfl, rfl⟩
theorem fn113 : ∃ fn, Go.Proofs.Try.prog.funcs[113]? = some fn ∧ (fn.name == "runtime.NumGoroutine") = false ∧ fn.body = some c113 ∧ fn.ntmps = 31 ∧ fn.results.toList = Go.Proofs.Try.f113.results.toList := ⟨Go.Proofs.Try.f113, Go.Proofs.Try.func113, by kernel_rfl, by kernel_rfl, rfl, rfl⟩
theorem fn85 : ∃ fn, Go.Proofs.Try.prog.funcs[85]? = some fn ∧ (fn.name == "runtime.NumGoroutine") = false ∧ fn.body = some c85 ∧ fn.ntmps = 8 ∧ fn.results.toList = Go.Proofs.Try.f85.results.toList := ⟨Go.Proofs.Try.f85, Go.Proofs.Try.func85, by kernel_rfl, by kernel_rfl, rfl, rfl⟩
theorem fn40 : ∃ fn, Go.Proofs.Try.prog.funcs[40]? = some fn ∧ (fn.name == "runtime.NumGoroutine") = false ∧ fn.body = some c40 ∧ fn.ntmps = 119 ∧ fn.results.toList = Go.Proofs.Try.f40.results.toList := ⟨Go.Proofs.Try.f40, Go.Proofs.Try.func40, by kernel_rfl, by kernel_rfl, rfl, rfl⟩
theorem fn10 : ∃ fn, Go.Proofs.Try.prog.funcs[10]? = some fn ∧ (fn.name == "runtime.NumGoroutine") = false ∧ fn.body = some c10 ∧ fn.ntmps = 45 ∧ fn.results.toList = Go.Proofs.Try.f10.results.toList := ⟨Go.Proofs.Try.f10, Go.Proofs.Try.func10, by kernel_rfl, by kernel_rfl, rfl, rfl⟩
theorem fnAll : ∀ (f : Nat) (i : FnI), f < 136 → fss[f]? = some (some i) → ∃ fn, Go.Proofs.Try.prog.funcs[f]? = some fn ∧ (fn.name == "runtime.NumGoroutine") = false ∧ fn.body = some i.body ∧ fn.ntmps = i.ntmps ∧ fn.results.toList = i.results
  | 0, i, _, h => by
    have e : (none : Option FnI) = some i := Option.some.inj (show some none = some (some i) from h)
    cases e
  | 1, i, _, h => by
    have e : (none : Option FnI) = some i := Option.some.inj (show some none = some (some i) from h)
    cases e
  | 2, i, _, h => by
    have e : (none : Option FnI) = some i := Option.some.inj (show some none = some (some i) from h)
    cases e
  | 3, i, _, h => by
    have e : some (⟨c3, 34, Go.Proofs.Try.f3.results.toList, o3⟩ : FnI) = some i := Option.some.inj (show some (some _) = some (some i) from h)
    cases e
    exact fn3
  | 4, i, _, h => by
    have e : some (⟨c4, 27, Go.Proofs.Try.f4.results.toList, o4⟩ : FnI) = some i := Option.some.inj (show some (some _) = some (some i) from h)
    cases e
    exact fn4
  | 5, i, _, h => by
    have e : some (⟨c5, 27, Go.Proofs.Try.f5.results.toList, o5⟩ : FnI) = some i := Option.some.inj (show some (some _) = some (some i) from h)
    cases e
    exact fn5
  | 6, i, _, h => by
    have e : some (⟨c6, 45, Go.Proofs.Try.f6.results.toList, o6⟩ : FnI) = some i := Option.some.inj (show some (some _) = some (some i) from h)
    cases e
    exact fn6
  | 7, i, _, h => by
    have e : some (⟨c7, 27, Go.Proofs.Try.f7.results.toList, o7⟩ : FnI) = some i := Option.some.inj (show some (some _) = some (some i) from h)
    cases e
    exact fn7
  | 8, i, _, h => by
    have e : (none : Option FnI) = some i := Option.some.inj (show some none = some (some i) from h)
    cases e
  | 9, i, _, h => by
    have e : (none : Option FnI) = some i := Option.some.inj (show some none = some (some i) from h)
    cases e
  | 10, i, _, h => by
    have e : some (⟨c10, 45, Go.Proofs.Try.f10.results.toList, o10⟩ : FnI) = some i := Option.some.inj (show some (some _) = some (some i) from h)
    cases e
    exact fn10
  | 11, i, _, h => by
    have e : some (⟨c11, 12, Go.Proofs.Try.f11.results.toList, o11⟩ : FnI) = some i := Option.some.inj (show some (some _) = some (some i) from h)
    cases e
    exact fn11
  | 12, i, _, h => by
    have e : some (⟨c12, 22, Go.Proofs.Try.f12.results.toList, o12⟩ : FnI) = some i := Option.some.inj (show some (some _) = some (some i) from h)
    cases e
    exact fn12
  | 13, i, _, h => by
    have e : some (⟨c13, 12, Go.Proofs.Try.f13.results.toList, o13⟩ : FnI) = some i := Option.some.inj (show some (some _) = some (some i) from h)
    cases e
    exact fn13
  | 14, i, _, h => by
    have e : some (⟨c14, 9, Go.Proofs.Try.f14.results.toList, o14⟩ : FnI) = some i := Option.some.inj (show some (some _) = some (some i) from h)
    cases e
    exact fn14
  | 15, i, _, h => by
    have e : some (⟨c15, 16, Go.Proofs.Try.f15.results.toList, o15⟩ : FnI) = some i := Option.some.inj (show some (some _) = some (some i) from h)
    cases e
    exact fn15
  | 16, i, _, h => by
    have e : some (⟨c16, 37, Go.Proofs.Try.f16.results.toList, o16⟩ : FnI) = some i := Option.some.inj (show some (some _) = some (some i) from h)
    cases e
    exact fn16
  | 17, i, _, h => by
    have e : some (⟨c17, 20, Go.Proofs.Try.f17.results.toList, o17⟩ : FnI) = some i := Option.some.inj (show some (some _) = some (some i) from h)
    cases e
    exact fn17
  | 18, i, _, h => by
    have e : some (⟨c18, 45, Go.Proofs.Try.f18.results.toList, o18⟩ : FnI) = some i := Option.some.inj (show some (some _) = some (some i) from h)
    cases e
    exact fn18
  | 19, i, _, h => by
    have e : some (⟨c19, 20, Go.Proofs.Try.f19.results.toList, o19⟩ : FnI) = some i := Option.some.inj (show some (some _) = some (some i) from h)
    cases e
    exact fn19
  | 20, i, _, h => by
    have e : some (⟨c20, 69, Go.Proofs.Try.f20.results.toList, o20⟩ : FnI) = some i := Option.some.inj (show some (some _) = some (some i) from h)
    cases e
    exact fn20
  | 21, i, _, h => by
    have e : some (⟨c21, 37, Go.Proofs.Try.f21.results.toList, o21⟩ : FnI) = some i := Option.some.inj (show some (some _) = some (some i) from h)
    cases e
    exact fn21
  | 22, i, _, h => by
    have e : some (⟨c22, 26, Go.Proofs.Try.f22.results.toList, o22⟩ : FnI) = some i := Option.some.inj (show some (some _) = some (some i) from h)
    cases e
    exact fn22
  | 23, i, _, h => by
    have e : some (⟨c23, 33, Go.Proofs.Try.f23.results.toList, o23⟩ : FnI) = some i := Option.some.inj (show some (some _) = some (some i) from h)
    cases e
    exact fn23
  | 24, i, _, h => by
    have e : some (⟨c24, 26, Go.Proofs.Try.f24.results.toList, o24⟩ : FnI) = some i := Option.some.inj (show some (some _) = some (some i) from h)
    cases e
    exact fn24
  | 25, i, _, h => by
    have e : some (⟨c25, 49, Go.Proofs.Try.f25.results.toList, o25⟩ : FnI) = some i := Option.some.inj (show some (some _) = some (some i) from h)
    cases e
    exact fn25
  | 26, i, _, h => by
    have e : some (⟨c26, 37, Go.Proofs.Try.f26.results.toList, o26⟩ : FnI) = some i := Option.some.inj (show some (some _) = some (some i) from h)
    cases e
    exact fn26
  | 27, i, _, h => by
    have e : some (⟨c27, 15, Go.Proofs.Try.f27.results.toList, o27⟩ : FnI) = some i := Option.some.inj (show some (some _) = some (some i) from h)
    cases e
    exact fn27
  | 28, i, _, h => by
    have e : some (⟨c28, 57, Go.Proofs.Try.f28.results.toList, o28⟩ : FnI) = some i := Option.some.inj (show some (some _) = some (some i) from h)
    cases e
    exact fn28
  | 29, i, _, h => by
    have e : some (⟨c29, 15, Go.Proofs.Try.f29.results.toList, o29⟩ : FnI) = some i := Option.some.inj (show some (some _) = some (some i) from h)
    cases e
    exact fn29
  | 30, i, _, h => by
    have e : some (⟨c30, 89, Go.Proofs.Try.f30.results.toList, o30⟩ : FnI) = some i := Option.some.inj (show some (some _) = some (some i) from h)
    cases e
    exact fn30
  | 31, i, _, h => by
    have e : some (⟨c31, 50, Go.Proofs.Try.f31.results.toList, o31⟩ : FnI) = some i := Option.some.inj (show some (some _) = some (some i) from h)
    cases e
    exact fn31
  | 32, i, _, h => by
    have e : some (⟨c32, 56, Go.Proofs.Try.f32.results.toList, o32⟩ : FnI) = some i := Option.some.inj (show some (some _) = some (some i) from h)
    cases e
    exact fn32
  | 33, i, _, h => by
    have e : (none : Option FnI) = some i := Option.some.inj (show some none = some (some i) from h)
    cases e
  | 34, i, _, h => by
    have e : (none : Option FnI) = some i := Option.some.inj (show some none = some (some i) from h)
    cases e
  | 35, i, _, h => by
    have e : (none : Option FnI) = some i := Option.some.inj (show some none = some (some i) from h)
    cases e
  | 36, i, _, h => by
    have e : (none : Option FnI) = some i := Option.some.inj (show some none = some (some i) from h)
    cases e
  | 37, i, _, h => by
    have e : (none : Option FnI) = some i := Option.some.inj (show some none = some (some i) from h)
    cases e
  | 38, i, _, h => by
    have e : (none : Option FnI) = some i := Option.some.inj (show some none = some (some i) from h)
    cases e
  | 39, i, _, h => by
    have e : some (⟨c39, 115, Go.Proofs.Try.f39.results.toList, o39⟩ : FnI) = some i := Option.some.inj (show some (some _) = some (some i) from h)
    cases e
    exact fn39
  | 40, i, _, h => by
    have e : some (⟨c40, 119, Go.Proofs.Try.f40.results.toList, o40⟩ : FnI) = some i := Option.some.inj (show some (some _) = some (some i) from h)
    cases e
    exact fn40
  | 41, i, _, h => by
    have e : some (⟨c41, 27, Go.Proofs.Try.f41.results.toList, o41⟩ : FnI) = some i := Option.some.inj (show some (some _) = some (some i) from h)
    cases e
    exact fn41
  | 42, i, _, h => by
    have e : some (⟨c42, 23, Go.Proofs.Try.f42.results.toList, o42⟩ : FnI) = some i := Option.some.inj (show some (some _) = some (some i) from h)
    cases e
    exact fn42
  | 43, i, _, h => by
    have e : some (⟨c43, 19, Go.Proofs.Try.f43.results.toList, o43⟩ : FnI) = some i := Option.some.inj (show some (some _) = some (some i) from h)
    cases e
    exact fn43
  | 44, i, _, h => by
    have e : some (⟨c44, 8, Go.Proofs.Try.f44.results.toList, o44⟩ : FnI) = some i := Option.some.inj (show some (some _) = some (some i) from h)
    cases e
    exact fn44
  | 45, i, _, h => by
    have e : some (⟨c45, 27, Go.Proofs.Try.f45.results.toList, o45⟩ : FnI) = some i := Option.some.inj (show some (some _) = some (some i) from h)
    cases e
    exact fn45
  | 46, i, _, h => by
    have e : some (⟨c46, 12, Go.Proofs.Try.f46.results.toList, o46⟩ : FnI) = some i := Option.some.inj (show some (some _) = some (some i) from h)
    cases e
    exact fn46
  | 47, i, _, h => by
    have e : some (⟨c47, 27, Go.Proofs.Try.f47.results.toList, o47⟩ : FnI) = some i := Option.some.inj (show some (some _) = some (some i) from h)
    cases e
    exact fn47
  | 48, i, _, h => by
    have e : some (⟨c48, 19, Go.Proofs.Try.f48.results.toList, o48⟩ : FnI) = some i := Option.some.inj (show some (some _) = some (some i) from h)
    cases e
    exact fn48
  | 49, i, _, h => by
    have e : some (⟨c49, 12, Go.Proofs.Try.f49.results.toList, o49⟩ : FnI) = some i := Option.some.inj (show some (some _) = some (some i) from h)
    cases e
    exact fn49
  | 50, i, _, h => by
    have e : some (⟨c50, 12, Go.Proofs.Try.f50.results.toList, o50⟩ : FnI) = some i := Option.some.inj (show some (some _) = some (some i) from h)
    cases e
    exact fn50
  | 51, i, _, h => by
    have e : some (⟨c51, 23, Go.Proofs.Try.f51.results.toList, o51⟩ : FnI) = some i := Option.some.inj (show some (some _) = some (some i) from h)
    cases e
    exact fn51
  | 52, i, _, h => by
    have e : some (⟨c52, 18, Go.Proofs.Try.f52.results.toList, o52⟩ : FnI) = some i := Option.some.inj (show some (some _) = some (some i) from h)
    cases e
    exact fn52
  | 53, i, _, h => by
    have e : some (⟨c53, 22, Go.Proofs.Try.f53.results.toList, o53⟩ : FnI) = some i := Option.some.inj (show some (some _) = some (some i) from h)
    cases e
    exact fn53
  | 54, i, _, h => by
    have e : some (⟨c54, 16, Go.Proofs.Try.f54.results.toList, o54⟩ : FnI) = some i := Option.some.inj (show some (some _) = some (some i) from h)
    cases e
    exact fn54
  | 55, i, _, h => by
    have e : some (⟨c55, 27, Go.Proofs.Try.f55.results.toList, o55⟩ : FnI) = some i := Option.some.inj (show some (some _) = some (some i) from h)
    cases e
    exact fn55
  | 56, i, _, h => by
    have e : some (⟨c56, 26, Go.Proofs.Try.f56.results.toList, o56⟩ : FnI) = some i := Option.some.inj (show some (some _) = some (some i) from h)
    cases e
    exact fn56
  | 57, i, _, h => by
    have e : some (⟨c57, 26, Go.Proofs.Try.f57.results.toList, o57⟩ : FnI) = some i := Option.some.inj (show some (some _) = some (some i) from h)
    cases e
    exact fn57
  | 58, i, _, h => by
    have e : some (⟨c58, 70, Go.Proofs.Try.f58.results.toList, o58⟩ : FnI) = some i := Option.some.inj (show some (some _) = some (some i) from h)
    cases e
    exact fn58
  | 59, i, _, h => by
    have e : some (⟨c59, 27, Go.Proofs.Try.f59.results.toList, o59⟩ : FnI) = some i := Option.some.inj (show some (some _) = some (some i) from h)
    cases e
    exact fn59
  | 60, i, _, h => by
    have e : some (⟨c60, 27, Go.Proofs.Try.f60.results.toList, o60⟩ : FnI) = some i := Option.some.inj (show some (some _) = some (some i) from h)
    cases e
    exact fn60
  | 61, i, _, h => by
    have e : some (⟨c61, 15, Go.Proofs.Try.f61.results.toList, o61⟩ : FnI) = some i := Option.some.inj (show some (some _) = some (some i) from h)
    cases e
    exact fn61
  | 62, i, _, h => by
    have e : some (⟨c62, 86, Go.Proofs.Try.f62.results.toList, o62⟩ : FnI) = some i := Option.some.inj (show some (some _) = some (some i) from h)
    cases e
    exact fn62
  | 63, i, _, h => by
    have e : some (⟨c63, 23, Go.Proofs.Try.f63.results.toList, o63⟩ : FnI) = some i := Option.some.inj (show some (some _) = some (some i) from h)
    cases e
    exact fn63
  | 64, i, _, h => by
    have e : some (⟨c64, 23, Go.Proofs.Try.f64.results.toList, o64⟩ : FnI) = some i := Option.some.inj (show some (some _) = some (some i) from h)
    cases e
    exact fn64
  | 65, i, _, h => by
    have e : some (⟨c65, 136, Go.Proofs.Try.f65.results.toList, o65⟩ : FnI) = some i := Option.some.inj (show some (some _) = some (some i) from h)
    cases e
    exact fn65
  | 66, i, _, h => by
    have e : some (⟨c66, 27, Go.Proofs.Try.f66.results.toList, o66⟩ : FnI) = some i := Option.some.inj (show some (some _) = some (some i) from h)
    cases e
    exact fn66
  | 67, i, _, h => by
    have e : some (⟨c67, 27, Go.Proofs.Try.f67.results.toList, o67⟩ : FnI) = some i := Option.some.inj (show some (some _) = some (some i) from h)
    cases e
    exact fn67
  | 68, i, _, h => by
    have e : some (⟨c68, 12, Go.Proofs.Try.f68.results.toList, o68⟩ : FnI) = some i := Option.some.inj (show some (some _) = some (some i) from h)
    cases e
    exact fn68
  | 69, i, _, h => by
    have e : some (⟨c69, 22, Go.Proofs.Try.f69.results.toList, o69⟩ : FnI) = some i := Option.some.inj (show some (some _) = some (some i) from h)
    cases e
    exact fn69
  | 70, i, _, h => by
    have e : some (⟨c70, 26, Go.Proofs.Try.f70.results.toList, o70⟩ : FnI) = some i := Option.some.inj (show some (some _) = some (some i) from h)
    cases e
    exact fn70
  | 71, i, _, h => by
    have e : some (⟨c71, 19, Go.Proofs.Try.f71.results.toList, o71⟩ : FnI) = some i := Option.some.inj (show some (some _) = some (some i) from h)
    cases e
    exact fn71
  | 72, i, _, h => by
    have e : some (⟨c72, 15, Go.Proofs.Try.f72.results.toList, o72⟩ : FnI) = some i := Option.some.inj (show some (some _) = some (some i) from h)
    cases e
    exact fn72
  | 73, i, _, h => by
    have e : some (⟨c73, 19, Go.Proofs.Try.f73.results.toList, o73⟩ : FnI) = some i := Option.some.inj (show some (some _) = some (some i) from h)
    cases e
    exact fn73
  | 74, i, _, h => by
    have e : (none : Option FnI) = some i := Option.some.inj (show some none = some (some i) from h)
    cases e
  | 75, i, _, h => by
    have e : (none : Option FnI) = some i := Option.some.inj (show some none = some (some i) from h)
    cases e
  | 76, i, _, h => by
    have e : (none : Option FnI) = some i := Option.some.inj (show some none = some (some i) from h)
    cases e
  | 77, i, _, h => by
    have e : (none : Option FnI) = some i := Option.some.inj (show some none = some (some i) from h)
    cases e
  | 78, i, _, h => by
    have e : some (⟨c78, 239, Go.Proofs.Try.f78.results.toList, o78⟩ : FnI) = some i := Option.some.inj (show some (some _) = some (some i) from h)
    cases e
    exact fn78
  | 79, i, _, h => by
    have e : some (⟨c79, 26, Go.Proofs.Try.f79.results.toList, o79⟩ : FnI) = some i := Option.some.inj (show some (some _) = some (some i) from h)
    cases e
    exact fn79
  | 80, i, _, h => by
    have e : some (⟨c80, 26, Go.Proofs.Try.f80.results.toList, o80⟩ : FnI) = some i := Option.some.inj (show some (some _) = some (some i) from h)
    cases e
    exact fn80
  | 81, i, _, h => by
    have e : some (⟨c81, 15, Go.Proofs.Try.f81.results.toList, o81⟩ : FnI) = some i := Option.some.inj (show some (some _) = some (some i) from h)
    cases e
    exact fn81
  | 82, i, _, h => by
    have e : some (⟨c82, 186, Go.Proofs.Try.f82.results.toList, o82⟩ : FnI) = some i := Option.some.inj (show some (some _) = some (some i) from h)
    cases e
    exact fn82
  | 83, i, _, h => by
    have e : some (⟨c83, 26, Go.Proofs.Try.f83.results.toList, o83⟩ : FnI) = some i := Option.some.inj (show some (some _) = some (some i) from h)
    cases e
    exact fn83
  | 84, i, _, h => by
    have e : some (⟨c84, 26, Go.Proofs.Try.f84.results.toList, o84⟩ : FnI) = some i := Option.some.inj (show some (some _) = some (some i) from h)
    cases e
    exact fn84
  | 85, i, _, h => by
    have e : some (⟨c85, 8, Go.Proofs.Try.f85.results.toList, o85⟩ : FnI) = some i := Option.some.inj (show some (some _) = some (some i) from h)
    cases e
    exact fn85
  | 86, i, _, h => by
    have e : some (⟨c86, 25, Go.Proofs.Try.f86.results.toList, o86⟩ : FnI) = some i := Option.some.inj (show some (some _) = some (some i) from h)
    cases e
    exact fn86
  | 87, i, _, h => by
    have e : some (⟨c87, 28, Go.Proofs.Try.f87.results.toList, o87⟩ : FnI) = some i := Option.some.inj (show some (some _) = some (some i) from h)
    cases e
    exact fn87
  | 88, i, _, h => by
    have e : some (⟨c88, 42, Go.Proofs.Try.f88.results.toList, o88⟩ : FnI) = some i := Option.some.inj (show some (some _) = some (some i) from h)
    cases e
    exact fn88
  | 89, i, _, h => by
    have e : some (⟨c89, 27, Go.Proofs.Try.f89.results.toList, o89⟩ : FnI) = some i := Option.some.inj (show some (some _) = some (some i) from h)
    cases e
    exact fn89
  | 90, i, _, h => by
    have e : some (⟨c90, 28, Go.Proofs.Try.f90.results.toList, o90⟩ : FnI) = some i := Option.some.inj (show some (some _) = some (some i) from h)
    cases e
    exact fn90
  | 91, i, _, h => by
    have e : some (⟨c91, 13, Go.Proofs.Try.f91.results.toList, o91⟩ : FnI) = some i := Option.some.inj (show some (some _) = some (some i) from h)
    cases e
    exact fn91
  | 92, i, _, h => by
    have e : some (⟨c92, 23, Go.Proofs.Try.f92.results.toList, o92⟩ : FnI) = some i := Option.some.inj (show some (some _) = some (some i) from h)
    cases e
    exact fn92
  | 93, i, _, h => by
    have e : some (⟨c93, 22, Go.Proofs.Try.f93.results.toList, o93⟩ : FnI) = some i := Option.some.inj (show some (some _) = some (some i) from h)
    cases e
    exact fn93
  | 94, i, _, h => by
    have e : some (⟨c94, 14, Go.Proofs.Try.f94.results.toList, o94⟩ : FnI) = some i := Option.some.inj (show some (some _) = some (some i) from h)
    cases e
    exact fn94
  | 95, i, _, h => by
    have e : some (⟨c95, 27, Go.Proofs.Try.f95.results.toList, o95⟩ : FnI) = some i := Option.some.inj (show some (some _) = some (some i) from h)
    cases e
    exact fn95
  | 96, i, _, h => by
    have e : some (⟨c96, 26, Go.Proofs.Try.f96.results.toList, o96⟩ : FnI) = some i := Option.some.inj (show some (some _) = some (some i) from h)
    cases e
    exact fn96
  | 97, i, _, h => by
    have e : some (⟨c97, 20, Go.Proofs.Try.f97.results.toList, o97⟩ : FnI) = some i := Option.some.inj (show some (some _) = some (some i) from h)
    cases e
    exact fn97
  | 98, i, _, h => by
    have e : (none : Option FnI) = some i := Option.some.inj (show some none = some (some i) from h)
    cases e
  | 99, i, _, h => by
    have e : (none : Option FnI) = some i := Option.some.inj (show some none = some (some i) from h)
    cases e
  | 100, i, _, h => by
    have e : (none : Option FnI) = some i := Option.some.inj (show some none = some (some i) from h)
    cases e
  | 101, i, _, h => by
    have e : (none : Option FnI) = some i := Option.some.inj (show some none = some (some i) from h)
    cases e
  | 102, i, _, h => by
    have e : (none : Option FnI) = some i := Option.some.inj (show some none = some (some i) from h)
    cases e
  | 103, i, _, h => by
    have e : (none : Option FnI) = some i := Option.some.inj (show some none = some (some i) from h)
    cases e
  | 104, i, _, h => by
    have e : (none : Option FnI) = some i := Option.some.inj (show some none = some (some i) from h)
    cases e
  | 105, i, _, h => by
    have e : (none : Option FnI) = some i := Option.some.inj (show some none = some (some i) from h)
    cases e
  | 106, i, _, h => by
    have e : (none : Option FnI) = some i := Option.some.inj (show some none = some (some i) from h)
    cases e
  | 107, i, _, h => by
    have e : some (⟨c107, 10, Go.Proofs.Try.f107.results.toList, o107⟩ : FnI) = some i := Option.some.inj (show some (some _) = some (some i) from h)
    cases e
    exact fn107
  | 108, i, _, h => by
    have e : some (⟨c108, 33, Go.Proofs.Try.f108.results.toList, o108⟩ : FnI) = some i := Option.some.inj (show some (some _) = some (some i) from h)
    cases e
    exact fn108
  | 109, i, _, h => by
    have e : some (⟨c109, 10, Go.Proofs.Try.f109.results.toList, o109⟩ : FnI) = some i := Option.some.inj (show some (some _) = some (some i) from h)
    cases e
    exact fn109
  | 110, i, _, h => by
    have e : some (⟨c110, 26, Go.Proofs.Try.f110.results.toList, o110⟩ : FnI) = some i := Option.some.inj (show some (some _) = some (some i) from h)
    cases e
    exact fn110
  | 111, i, _, h => by
    have e : some (⟨c111, 26, Go.Proofs.Try.f111.results.toList, o111⟩ : FnI) = some i := Option.some.inj (show some (some _) = some (some i) from h)
    cases e
    exact fn111
  | 112, i, _, h => by
    have e : some (⟨c112, 32, Go.Proofs.Try.f112.results.toList, o112⟩ : FnI) = some i := Option.some.inj (show some (some _) = some (some i) from h)
    cases e
    exact fn112
  | 113, i, _, h => by
    have e : some (⟨c113, 31, Go.Proofs.Try.f113.results.toList, o113⟩ : FnI) = some i := Option.some.inj (show some (some _) = some (some i) from h)
    cases e
    exact fn113
  | 114, i, _, h => by
    have e : some (⟨c114, 18, Go.Proofs.Try.f114.results.toList, o114⟩ : FnI) = some i := Option.some.inj (show some (some _) = some (some i) from h)
    cases e
    exact fn114
  | 115, i, _, h => by
    have e : some (⟨c115, 16, Go.Proofs.Try.f115.results.toList, o115⟩ : FnI) = some i := Option.some.inj (show some (some _) = some (some i) from h)
    cases e
    exact fn115
  | 116, i, _, h => by
    have e : some (⟨c116, 22, Go.Proofs.Try.f116.results.toList, o116⟩ : FnI) = some i := Option.some.inj (show some (some _) = some (some i) from h)
    cases e
    exact fn116
  | 117, i, _, h => by
    have e : some (⟨c117, 13, Go.Proofs.Try.f117.results.toList, o117⟩ : FnI) = some i := Option.some.inj (show some (some _) = some (some i) from h)
    cases e
    exact fn117
  | 118, i, _, h => by
    have e : some (⟨c118, 11, Go.Proofs.Try.f118.results.toList, o118⟩ : FnI) = some i := Option.some.inj (show some (some _) = some (some i) from h)
    cases e
    exact fn118
  | 119, i, _, h => by
    have e : some (⟨c119, 15, Go.Proofs.Try.f119.results.toList, o119⟩ : FnI) = some i := Option.some.inj (show some (some _) = some (some i) from h)
    cases e
    exact fn119
  | 120, i, _, h => by
    have e : (none : Option FnI) = some i := Option.some.inj (show some none = some (some i) from h)
    cases e
  | 121, i, _, h => by
    have e : (none : Option FnI) = some i := Option.some.inj (show some none = some (some i) from h)
    cases e
  | 122, i, _, h => by
    have e : (none : Option FnI) = some i := Option.some.inj (show some none = some (some i) from h)
    cases e
  | 123, i, _, h => by
    have e : (none : Option FnI) = some i := Option.some.inj (show some none = some (some i) from h)
    cases e
  | 124, i, _, h => by
    have e : (none : Option FnI) = some i := Option.some.inj (show some none = some (some i) from h)
    cases e
  | 125, i, _, h => by
    have e : some (⟨c125, 31, Go.Proofs.Try.f125.results.toList, o125⟩ : FnI) = some i := Option.some.inj (show some (some _) = some (some i) from h)
    cases e
    exact fn125
  | 126, i, _, h => by
    have e : some (⟨c126, 27, Go.Proofs.Try.f126.results.toList, o126⟩ : FnI) = some i := Option.some.inj (show some (some _) = some (some i) from h)
    cases e
    exact fn126
  | 127, i, _, h => by
    have e : some (⟨c127, 23, Go.Proofs.Try.f127.results.toList, o127⟩ : FnI) = some i := Option.some.inj (show some (some _) = some (some i) from h)
    cases e
    exact fn127
  | 128, i, _, h => by
    have e : some (⟨c128, 27, Go.Proofs.Try.f128.results.toList, o128⟩ : FnI) = some i := Option.some.inj (show some (some _) = some (some i) from h)
    cases e
    exact fn128
  | 129, i, _, h => by
    have e : (none : Option FnI) = some i := Option.some.inj (show some none = some (some i) from h)
    cases e
  | 130, i, _, h => by
    have e : (none : Option FnI) = some i := Option.some.inj (show some none = some (some i) from h)
    cases e
  | 131, i, _, h => by
    have e : (none : Option FnI) = some i := Option.some.inj (show some none = some (some i) from h)
    cases e
  | 132, i, _, h => by
    have e : (none : Option FnI) = some i := Option.some.inj (show some none = some (some i) from h)
    cases e
  | 133, i, _, h => by
    have e : some (⟨c133, 12, Go.Proofs.Try.f133.results.toList, o133⟩ : FnI) = some i := Option.some.inj (show some (some _) = some (some i) from h)
    cases e
    exact fn133
  | 134, i, _, h => by
    have e : some (⟨c134, 15, Go.Proofs.Try.f134.results.toList, o134⟩ : FnI) = some i := Option.some.inj (show some (some _) = some (some i) from h)
    cases e
    exact fn134
  | 135, i, _, h => by
    have e : some (⟨c135, 21, Go.Proofs.Try.f135.results.toList, o135⟩ : FnI) = some i := Option.some.inj (show some (some _) = some (some i) from h)
    cases e
    exact fn135
  | n + 136, i, hlt, h => by omega
theorem fns0 : ∀ f i, E0.fs f = some i → FnOk Go.Proofs.Try.prog E0 f i := by
  intro f i h
  have hl : fss[f]? = some (some i) := by
    have h : (fss[f]?).getD none = some i := h
    cases hl : fss[f]? with
    | none => rw [hl] at h; cases h
    | some o => rw [hl] at h; simp only [Option.getD_some] at h; rw [h]
  refine ⟨?_, fnsB_ok code0 hl⟩
  have hlt : f < 136 := (List.getElem?_eq_some_iff.1 hl).1
  exact fnAll f i hlt hl
theorem env0 : EnvOk Go.Proofs.Try.prog E0 := ⟨tabOk0, byte0, by kernel_rfl, fns0, fun f g h => by cases h⟩
end Go.Proofs.Ytnkelipioodhjaa.Abs
