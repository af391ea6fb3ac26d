/- The facts of the program's tables (written by gen.py). -/
import Derived.Test.YtnkelipioodhjaaChecked
import Derived.Test.YtnkelipioodhjaaFns
import Derived.Test.YtnkelipioodhjaaEnv
set_option linter.unusedVariables false
set_option linter.unusedSimpArgs false
set_option maxRecDepth 100000
namespace Go.Proofs.Ytnkelipioodhjaa.Abs
open Go
theorem tab0 : tabB Go.Proofs.Try.prog 0 tis = true := by kernel_rfl
theorem code0 : fnsB E0 fss = true := by kernel_rfl
theorem tabOk0 : TabOk Go.Proofs.Try.prog ti0 := by
  intro t i h
  unfold ti0 at h
  cases hl : tis[t]? with
  | none => rw [hl] at h; cases h
  | some o =>
    rw [hl] at h
    simp only [Option.getD_some] at h
    subst h
    simpa using (tabB_ok tis 0 t i tab0 hl).1
theorem byte0 : ∀ t i, ti0 t = some i → i.ik = some .u8 → i.size = 1 := by
  intro t i h
  unfold ti0 at h
  cases hl : tis[t]? with
  | none => rw [hl] at h; cases h
  | some o =>
    rw [hl] at h
    simp only [Option.getD_some] at h
    subst h
    exact (tabB_ok tis 0 t i tab0 hl).2
theorem fn49 : ∃ fn, Go.Proofs.Try.prog.funcs[49]? = some fn ∧ (fn.name == "runtime.NumGoroutine") = false ∧ fn.body = some c49 ∧ fn.ntmps = 12 ∧ fn.results.toList = Go.Proofs.Try.f49.results.toList := ⟨Go.Proofs.Try.f49, Go.Proofs.Try.func49, by kernel_rfl, by kernel_rfl, rfl, rfl⟩
theorem fn117 : ∃ fn, Go.Proofs.Try.prog.funcs[117]? = some fn ∧ (fn.name == "runtime.NumGoroutine") = false ∧ fn.body = some c117 ∧ fn.ntmps = 13 ∧ fn.results.toList = Go.Proofs.Try.f117.results.toList := ⟨Go.Proofs.Try.f117, Go.Proofs.Try.func117, by kernel_rfl, by kernel_rfl, rfl, rfl⟩
theorem fn89 : ∃ fn, Go.Proofs.Try.prog.funcs[89]? = some fn ∧ (fn.name == "runtime.NumGoroutine") = false ∧ fn.body = some c89 ∧ fn.ntmps = 27 ∧ fn.results.toList = Go.Proofs.Try.f89.results.toList := ⟨Go.Proofs.Try.f89, Go.Proofs.Try.func89, by kernel_rfl, by kernel_rfl, rfl, rfl⟩
theorem fn90 : ∃ fn, Go.Proofs.Try.prog.funcs[90]? = some fn ∧ (fn.name == "runtime.NumGoroutine") = false ∧ fn.body = some c90 ∧ fn.ntmps = 28 ∧ fn.results.toList = Go.Proofs.Try.f90.results.toList := ⟨Go.Proofs.Try.f90, Go.Proofs.Try.func90, by kernel_rfl, by kernel_rfl, rfl, rfl⟩
theorem fn68 : ∃ fn, Go.Proofs.Try.prog.funcs[68]? = some fn ∧ (fn.name == "runtime.NumGoroutine") = false ∧ fn.body = some c68 ∧ fn.ntmps = 12 ∧ fn.results.toList = Go.Proofs.Try.f68.results.toList := ⟨Go.Proofs.Try.f68, Go.Proofs.Try.func68, by kernel_rfl, by kernel_rfl, rfl, rfl⟩
theorem fn58 : ∃ fn, Go.Proofs.Try.prog.funcs[58]? = some fn ∧ (fn.name == "runtime.NumGoroutine") = false ∧ fn.body = some c58 ∧ fn.ntmps = 70 ∧ fn.results.toList = Go.Proofs.Try.f58.results.toList := ⟨Go.Proofs.Try.f58, Go.Proofs.Try.func58, by kernel_rfl, by kernel_rfl, rfl, rfl⟩
theorem fn91 : ∃ fn, Go.Proofs.Try.prog.funcs[91]? = some fn ∧ (fn.name == "runtime.NumGoroutine") = false ∧ fn.body = some c91 ∧ fn.ntmps = 13 ∧ fn.results.toList = Go.Proofs.Try.f91.results.toList := ⟨Go.Proofs.Try.f91, Go.Proofs.Try.func91, by kernel_rfl, by kernel_rfl, rfl, rfl⟩
theorem fn59 : ∃ fn, Go.Proofs.Try.prog.funcs[59]? = some fn ∧ (fn.name == "runtime.NumGoroutine") = false ∧ fn.body = some c59 ∧ fn.ntmps = 27 ∧ fn.results.toList = Go.Proofs.Try.f59.results.toList := ⟨Go.Proofs.Try.f59, Go.Proofs.Try.func59, by kernel_rfl, by kernel_rfl, rfl, rfl⟩
theorem fn48 : ∃ fn, Go.Proofs.Try.prog.funcs[48]? = some fn ∧ (fn.name == "runtime.NumGoroutine") = false ∧ fn.body = some c48 ∧ fn.ntmps = 19 ∧ fn.results.toList = Go.Proofs.Try.f48.results.toList := ⟨Go.Proofs.Try.f48, Go.Proofs.Try.func48, by kernel_rfl, by kernel_rfl, rfl, rfl⟩
theorem fn60 : ∃ fn, Go.Proofs.Try.prog.funcs[60]? = some fn ∧ (fn.name == "runtime.NumGoroutine") = false ∧ fn.body = some c60 ∧ fn.ntmps = 27 ∧ fn.results.toList = Go.Proofs.Try.f60.results.toList := ⟨Go.Proofs.Try.f60, Go.Proofs.Try.func60, by kernel_rfl, by kernel_rfl, rfl, rfl⟩
theorem fn26 : ∃ fn, Go.Proofs.Try.prog.funcs[26]? = some fn ∧ (fn.name == "runtime.NumGoroutine") = false ∧ fn.body = some c26 ∧ fn.ntmps = 37 ∧ fn.results.toList = Go.Proofs.Try.f26.results.toList := ⟨Go.Proofs.Try.f26, Go.Proofs.Try.func26, by kernel_rfl, by kernel_rfl, rfl, rfl⟩
theorem fn53 : ∃ fn, Go.Proofs.Try.prog.funcs[53]? = some fn ∧ (fn.name == "runtime.NumGoroutine") = false ∧ fn.body = some c53 ∧ fn.ntmps = 22 ∧ fn.results.toList = Go.Proofs.Try.f53.results.toList := ⟨Go.Proofs.Try.f53, Go.Proofs.Try.func53, by kernel_rfl, by kernel_rfl, rfl, rfl⟩
theorem fn118 : ∃ fn, Go.Proofs.Try.prog.funcs[118]? = some fn ∧ (fn.name == "runtime.NumGoroutine") = false ∧ fn.body = some c118 ∧ fn.ntmps = 11 ∧ fn.results.toList = Go.Proofs.Try.f118.results.toList := ⟨Go.Proofs.Try.f118, Go.Proofs.Try.func118, by kernel_rfl, by kernel_rfl, rfl, rfl⟩
theorem fn92 : ∃ fn, Go.Proofs.Try.prog.funcs[92]? = some fn ∧ (fn.name == "runtime.NumGoroutine") = false ∧ fn.body = some c92 ∧ fn.ntmps = 23 ∧ fn.results.toList = Go.Proofs.Try.f92.results.toList := ⟨Go.Proofs.Try.f92, Go.Proofs.Try.func92, by kernel_rfl, by kernel_rfl, rfl, rfl⟩
theorem fn93 : ∃ fn, Go.Proofs.Try.prog.funcs[93]? = some fn ∧ (fn.name == "runtime.NumGoroutine") = false ∧ fn.body = some c93 ∧ fn.ntmps = 22 ∧ fn.results.toList = Go.Proofs.Try.f93.results.toList := ⟨Go.Proofs.Try.f93, Go.Proofs.Try.func93, by kernel_rfl, by kernel_rfl, rfl, rfl⟩
theorem fn69 : ∃ fn, Go.Proofs.Try.prog.funcs[69]? = some fn ∧ (fn.name == "runtime.NumGoroutine") = false ∧ fn.body = some c69 ∧ fn.ntmps = 22 ∧ fn.results.toList = Go.Proofs.Try.f69.results.toList := ⟨Go.Proofs.Try.f69, Go.Proofs.Try.func69, by kernel_rfl, by kernel_rfl, rfl, rfl⟩
theorem fn62 : ∃ fn, Go.Proofs.Try.prog.funcs[62]? = some fn ∧ (fn.name == "runtime.NumGoroutine") = false ∧ fn.body = some c62 ∧ fn.ntmps = 86 ∧ fn.results.toList = Go.Proofs.Try.f62.results.toList := ⟨Go.Proofs.Try.f62, Go.Proofs.Try.func62, by kernel_rfl, by kernel_rfl, rfl, rfl⟩
theorem fn94 : ∃ fn, Go.Proofs.Try.prog.funcs[94]? = some fn ∧ (fn.name == "runtime.NumGoroutine") = false ∧ fn.body = some c94 ∧ fn.ntmps = 14 ∧ fn.results.toList = Go.Proofs.Try.f94.results.toList := ⟨Go.Proofs.Try.f94, Go.Proofs.Try.func94, by kernel_rfl, by kernel_rfl, rfl, rfl⟩
theorem fn63 : ∃ fn, Go.Proofs.Try.prog.funcs[63]? = some fn ∧ (fn.name == "runtime.NumGoroutine") = false ∧ fn.body = some c63 ∧ fn.ntmps = 23 ∧ fn.results.toList = Go.Proofs.Try.f63.results.toList := ⟨Go.Proofs.Try.f63, Go.Proofs.Try.func63, by kernel_rfl, by kernel_rfl, rfl, rfl⟩
theorem fn52 : ∃ fn, Go.Proofs.Try.prog.funcs[52]? = some fn ∧ (fn.name == "runtime.NumGoroutine") = false ∧ fn.body = some c52 ∧ fn.ntmps = 18 ∧ fn.results.toList = Go.Proofs.Try.f52.results.toList := ⟨Go.Proofs.Try.f52, Go.Proofs.Try.func52, by kernel_rfl, by kernel_rfl, rfl, rfl⟩
theorem fn64 : ∃ fn, Go.Proofs.Try.prog.funcs[64]? = some fn ∧ (fn.name == "runtime.NumGoroutine") = false ∧ fn.body = some c64 ∧ fn.ntmps = 23 ∧ fn.results.toList = Go.Proofs.Try.f64.results.toList := ⟨Go.Proofs.Try.f64, Go.Proofs.Try.func64, by kernel_rfl, by kernel_rfl, rfl, rfl⟩
theorem fn28 : ∃ fn, Go.Proofs.Try.prog.funcs[28]? = some fn ∧ (fn.name == "runtime.NumGoroutine") = false ∧ fn.body = some c28 ∧ fn.ntmps = 57 ∧ fn.results.toList = Go.Proofs.Try.f28.results.toList := ⟨Go.Proofs.Try.f28, Go.Proofs.Try.func28, by kernel_rfl, by kernel_rfl, rfl, rfl⟩
theorem fn107 : ∃ fn, Go.Proofs.Try.prog.funcs[107]? = some fn ∧ (fn.name == "runtime.NumGoroutine") = false ∧ fn.body = some c107 ∧ fn.ntmps = 10 ∧ fn.results.toList = Go.Proofs.Try.f107.results.toList := ⟨Go.Proofs.Try.f107, Go.Proofs.Try.func107, by kernel_rfl, by kernel_rfl, rfl, rfl⟩
theorem fn78 : ∃ fn, Go.Proofs.Try.prog.funcs[78]? = some fn ∧ (fn.name == "runtime.NumGoroutine") = false ∧ fn.body = some c78 ∧ fn.ntmps = 239 ∧ fn.results.toList = Go.Proofs.Try.f78.results.toList := ⟨Go.Proofs.Try.f78, Go.Proofs.Try.func78, by kernel_rfl, by kernel_rfl, rfl, rfl⟩
theorem fn79 : ∃ fn, Go.Proofs.Try.prog.funcs[79]? = some fn ∧ (fn.name == "runtime.NumGoroutine") = false ∧ fn.body = some c79 ∧ fn.ntmps = 26 ∧ fn.results.toList = Go.Proofs.Try.f79.results.toList := ⟨Go.Proofs.Try.f79, Go.Proofs.Try.func79, by kernel_rfl, by kernel_rfl, rfl, rfl⟩
theorem fn80 : ∃ fn, Go.Proofs.Try.prog.funcs[80]? = some fn ∧ (fn.name == "runtime.NumGoroutine") = false ∧ fn.body = some c80 ∧ fn.ntmps = 26 ∧ fn.results.toList = Go.Proofs.Try.f80.results.toList := ⟨Go.Proofs.Try.f80, Go.Proofs.Try.func80, by kernel_rfl, by kernel_rfl, rfl, rfl⟩
theorem fn125 : ∃ fn, Go.Proofs.Try.prog.funcs[125]? = some fn ∧ (fn.name == "runtime.NumGoroutine") = false ∧ fn.body = some c125 ∧ fn.ntmps = 31 ∧ fn.results.toList = Go.Proofs.Try.f125.results.toList := ⟨Go.Proofs.Try.f125, Go.Proofs.Try.func125, by kernel_rfl, by kernel_rfl, rfl, rfl⟩
theorem fn108 : ∃ fn, Go.Proofs.Try.prog.funcs[108]? = some fn ∧ (fn.name == "runtime.NumGoroutine") = false ∧ fn.body = some c108 ∧ fn.ntmps = 33 ∧ fn.results.toList = Go.Proofs.Try.f108.results.toList := ⟨Go.Proofs.Try.f108, Go.Proofs.Try.func108, by kernel_rfl, by kernel_rfl, rfl, rfl⟩
theorem fn81 : ∃ fn, Go.Proofs.Try.prog.funcs[81]? = some fn ∧ (fn.name == "runtime.NumGoroutine") = false ∧ fn.body = some c81 ∧ fn.ntmps = 15 ∧ fn.results.toList = Go.Proofs.Try.f81.results.toList := ⟨Go.Proofs.Try.f81, Go.Proofs.Try.func81, by kernel_rfl, by kernel_rfl, rfl, rfl⟩
theorem fn39 : ∃ fn, Go.Proofs.Try.prog.funcs[39]? = some fn ∧ (fn.name == "runtime.NumGoroutine") = false ∧ fn.body = some c39 ∧ fn.ntmps = 115 ∧ fn.results.toList = Go.Proofs.Try.f39.results.toList := ⟨Go.Proofs.Try.f39, Go.Proofs.Try.func39, by kernel_rfl, by kernel_rfl, rfl, rfl⟩
theorem fn109 : ∃ fn, Go.Proofs.Try.prog.funcs[109]? = some fn ∧ (fn.name == "runtime.NumGoroutine") = false ∧ fn.body = some c109 ∧ fn.ntmps = 10 ∧ fn.results.toList = Go.Proofs.Try.f109.results.toList := ⟨Go.Proofs.Try.f109, Go.Proofs.Try.func109, by kernel_rfl, by kernel_rfl, rfl, rfl⟩
theorem fn110 : ∃ fn, Go.Proofs.Try.prog.funcs[110]? = some fn ∧ (fn.name == "runtime.NumGoroutine") = false ∧ fn.body = some c110 ∧ fn.ntmps = 26 ∧ fn.results.toList = Go.Proofs.Try.f110.results.toList := ⟨Go.Proofs.Try.f110, Go.Proofs.Try.func110, by kernel_rfl, by kernel_rfl, rfl, rfl⟩
theorem fn111 : ∃ fn, Go.Proofs.Try.prog.funcs[111]? = some fn ∧ (fn.name == "runtime.NumGoroutine") = false ∧ fn.body = some c111 ∧ fn.ntmps = 26 ∧ fn.results.toList = Go.Proofs.Try.f111.results.toList := ⟨Go.Proofs.Try.f111, Go.Proofs.Try.func111, by kernel_rfl, by kernel_rfl, rfl, rfl⟩
theorem fn84 : ∃ fn, Go.Proofs.Try.prog.funcs[84]? = some fn ∧ (fn.name == "runtime.NumGoroutine") = false ∧ fn.body = some c84 ∧ fn.ntmps = 26 ∧ fn.results.toList = Go.Proofs.Try.f84.results.toList := ⟨Go.Proofs.Try.f84, Go.Proofs.Try.func84, by kernel_rfl, by kernel_rfl, rfl, rfl⟩
theorem fn82 : ∃ fn, Go.Proofs.Try.prog.funcs[82]? = some fn ∧ (fn.name == "runtime.NumGoroutine") = false ∧ fn.body = some c82 ∧ fn.ntmps = 186 ∧ fn.results.toList = Go.Proofs.Try.f82.results.toList := ⟨Go.Proofs.Try.f82, Go.Proofs.Try.func82, by kernel_rfl, by kernel_rfl, rfl, rfl⟩
theorem fn83 : ∃ fn, Go.Proofs.Try.prog.funcs[83]? = some fn ∧ (fn.name == "runtime.NumGoroutine") = false ∧ fn.body = some c83 ∧ fn.ntmps = 26 ∧ fn.results.toList = Go.Proofs.Try.f83.results.toList := ⟨Go.Proofs.Try.f83, Go.Proofs.Try.func83, by kernel_rfl, by kernel_rfl, rfl, rfl⟩
theorem fn112 : ∃ fn, Go.Proofs.Try.prog.funcs[112]? = some fn ∧ (fn.name == "runtime.NumGoroutine") = false ∧ fn.body = some c112 ∧ fn.ntmps = 32 ∧ fn.results.toList = Go.Proofs.Try.f112.results.toList := ⟨Go.Proofs.Try.f112, Go.Proofs.Try.func112, by kernel_rfl, by kernel_rfl, rfl, rfl⟩
theorem fn113 : ∃ fn, Go.Proofs.Try.prog.funcs[113]? = some fn ∧ (fn.name == "runtime.NumGoroutine") = false ∧ fn.body = some c113 ∧ fn.ntmps = 31 ∧ fn.results.toList = Go.Proofs.Try.f113.results.toList := ⟨Go.Proofs.Try.f113, Go.Proofs.Try.func113, by kernel_rfl, by kernel_rfl, rfl, rfl⟩
theorem fn85 : ∃ fn, Go.Proofs.Try.prog.funcs[85]? = some fn ∧ (fn.name == "runtime.NumGoroutine") = false ∧ fn.body = some c85 ∧ fn.ntmps = 8 ∧ fn.results.toList = Go.Proofs.Try.f85.results.toList := ⟨Go.Proofs.Try.f85, Go.Proofs.Try.func85, by kernel_rfl, by kernel_rfl, rfl, rfl⟩
theorem fn40 : ∃ fn, Go.Proofs.Try.prog.funcs[40]? = some fn ∧ (fn.name == "runtime.NumGoroutine") = false ∧ fn.body = some c40 ∧ fn.ntmps = 119 ∧ fn.results.toList = Go.Proofs.Try.f40.results.toList := ⟨Go.Proofs.Try.f40, Go.Proofs.Try.func40, by kernel_rfl, by kernel_rfl, rfl, rfl⟩
theorem fn57 : ∃ fn, Go.Proofs.Try.prog.funcs[57]? = some fn ∧ (fn.name == "runtime.NumGoroutine") = false ∧ fn.body = some c57 ∧ fn.ntmps = 26 ∧ fn.results.toList = Go.Proofs.Try.f57.results.toList := ⟨Go.Proofs.Try.f57, Go.Proofs.Try.func57, by kernel_rfl, by kernel_rfl, rfl, rfl⟩
theorem fn119 : ∃ fn, Go.Proofs.Try.prog.funcs[119]? = some fn ∧ (fn.name == "runtime.NumGoroutine") = false ∧ fn.body = some c119 ∧ fn.ntmps = 15 ∧ fn.results.toList = Go.Proofs.Try.f119.results.toList := ⟨Go.Proofs.Try.f119, Go.Proofs.Try.func119, by kernel_rfl, by kernel_rfl, rfl, rfl⟩
theorem fn95 : ∃ fn, Go.Proofs.Try.prog.funcs[95]? = some fn ∧ (fn.name == "runtime.NumGoroutine") = false ∧ fn.body = some c95 ∧ fn.ntmps = 27 ∧ fn.results.toList = Go.Proofs.Try.f95.results.toList := ⟨Go.Proofs.Try.f95, Go.Proofs.Try.func95, by kernel_rfl, by kernel_rfl, rfl, rfl⟩
theorem fn96 : ∃ fn, Go.Proofs.Try.prog.funcs[96]? = some fn ∧ (fn.name == "runtime.NumGoroutine") = false ∧ fn.body = some c96 ∧ fn.ntmps = 26 ∧ fn.results.toList = Go.Proofs.Try.f96.results.toList := ⟨Go.Proofs.Try.f96, Go.Proofs.Try.func96, by kernel_rfl, by kernel_rfl, rfl, rfl⟩
theorem fn70 : ∃ fn, Go.Proofs.Try.prog.funcs[70]? = some fn ∧ (fn.name == "runtime.NumGoroutine") = false ∧ fn.body = some c70 ∧ fn.ntmps = 26 ∧ fn.results.toList = Go.Proofs.Try.f70.results.toList := ⟨Go.Proofs.Try.f70, Go.Proofs.Try.func70, by kernel_rfl, by kernel_rfl, rfl, rfl⟩
theorem fn65 : ∃ fn, Go.Proofs.Try.prog.funcs[65]? = some fn ∧ (fn.name == "runtime.NumGoroutine") = false ∧ fn.body = some c65 ∧ fn.ntmps = 136 ∧ fn.results.toList = Go.Proofs.Try.f65.results.toList := ⟨Go.Proofs.Try.f65, Go.Proofs.Try.func65, by kernel_rfl, by kernel_rfl, rfl, rfl⟩
theorem fn97 : ∃ fn, Go.Proofs.Try.prog.funcs[97]? = some fn ∧ (fn.name == "runtime.NumGoroutine") = false ∧ fn.body = some c97 ∧ fn.ntmps = 20 ∧ fn.results.toList = Go.Proofs.Try.f97.results.toList := ⟨Go.Proofs.Try.f97, Go.Proofs.Try.func97, by kernel_rfl, by kernel_rfl, rfl, rfl⟩
theorem fn66 : ∃ fn, Go.Proofs.Try.prog.funcs[66]? = some fn ∧ (fn.name == "runtime.NumGoroutine") = false ∧ fn.body = some c66 ∧ fn.ntmps = 27 ∧ fn.results.toList = Go.Proofs.Try.f66.results.toList := ⟨Go.Proofs.Try.f66, Go.Proofs.Try.func66, by kernel_rfl, by kernel_rfl, rfl, rfl⟩
theorem fn56 : ∃ fn, Go.Proofs.Try.prog.funcs[56]? = some fn ∧ (fn.name == "runtime.NumGoroutine") = false ∧ fn.body = some c56 ∧ fn.ntmps = 26 ∧ fn.results.toList = Go.Proofs.Try.f56.results.toList := ⟨Go.Proofs.Try.f56, Go.Proofs.Try.func56, by kernel_rfl, by kernel_rfl, rfl, rfl⟩
theorem fn67 : ∃ fn, Go.Proofs.Try.prog.funcs[67]? = some fn ∧ (fn.name == "runtime.NumGoroutine") = false ∧ fn.body = some c67 ∧ fn.ntmps = 27 ∧ fn.results.toList = Go.Proofs.Try.f67.results.toList := ⟨Go.Proofs.Try.f67, Go.Proofs.Try.func67, by kernel_rfl, by kernel_rfl, rfl, rfl⟩
theorem fn30 : ∃ fn, Go.Proofs.Try.prog.funcs[30]? = some fn ∧ (fn.name == "runtime.NumGoroutine") = false ∧ fn.body = some c30 ∧ fn.ntmps = 89 ∧ fn.results.toList = Go.Proofs.Try.f30.results.toList := ⟨Go.Proofs.Try.f30, Go.Proofs.Try.func30, by kernel_rfl, by kernel_rfl, rfl, rfl⟩
theorem fn10 : ∃ fn, Go.Proofs.Try.prog.funcs[10]? = some fn ∧ (fn.name == "runtime.NumGoroutine") = false ∧ fn.body = some c10 ∧ fn.ntmps = 45 ∧ fn.results.toList = Go.Proofs.Try.f10.results.toList := ⟨Go.Proofs.Try.f10, Go.Proofs.Try.func10, by kernel_rfl, by kernel_rfl, rfl, rfl⟩
theorem fnAll : ∀ (f : Nat) (i : FnI), f < 126 → fss[f]? = some (some i) → ∃ fn, Go.Proofs.Try.prog.funcs[f]? = some fn ∧ (fn.name == "runtime.NumGoroutine") = false ∧ fn.body = some i.body ∧ fn.ntmps = i.ntmps ∧ fn.results.toList = i.results
  | 0, i, _, h => by
    have e : (none : Option FnI) = some i := Option.some.inj (show some none = some (some i) from h)
    cases e
  | 1, i, _, h => by
    have e : (none : Option FnI) = some i := Option.some.inj (show some none = some (some i) from h)
    cases e
  | 2, i, _, h => by
    have e : (none : Option FnI) = some i := Option.some.inj (show some none = some (some i) from h)
    cases e
  | 3, i, _, h => by
    have e : (none : Option FnI) = some i := Option.some.inj (show some none = some (some i) from h)
    cases e
  | 4, i, _, h => by
    have e : (none : Option FnI) = some i := Option.some.inj (show some none = some (some i) from h)
    cases e
  | 5, i, _, h => by
    have e : (none : Option FnI) = some i := Option.some.inj (show some none = some (some i) from h)
    cases e
  | 6, i, _, h => by
    have e : (none : Option FnI) = some i := Option.some.inj (show some none = some (some i) from h)
    cases e
  | 7, i, _, h => by
    have e : (none : Option FnI) = some i := Option.some.inj (show some none = some (some i) from h)
    cases e
  | 8, i, _, h => by
    have e : (none : Option FnI) = some i := Option.some.inj (show some none = some (some i) from h)
    cases e
  | 9, i, _, h => by
    have e : (none : Option FnI) = some i := Option.some.inj (show some none = some (some i) from h)
    cases e
  | 10, i, _, h => by
    have e : some (⟨c10, 45, Go.Proofs.Try.f10.results.toList, o10⟩ : FnI) = some i := Option.some.inj (show some (some _) = some (some i) from h)
    cases e
    exact fn10
  | 11, i, _, h => by
    have e : (none : Option FnI) = some i := Option.some.inj (show some none = some (some i) from h)
    cases e
  | 12, i, _, h => by
    have e : (none : Option FnI) = some i := Option.some.inj (show some none = some (some i) from h)
    cases e
  | 13, i, _, h => by
    have e : (none : Option FnI) = some i := Option.some.inj (show some none = some (some i) from h)
    cases e
  | 14, i, _, h => by
    have e : (none : Option FnI) = some i := Option.some.inj (show some none = some (some i) from h)
    cases e
  | 15, i, _, h => by
    have e : (none : Option FnI) = some i := Option.some.inj (show some none = some (some i) from h)
    cases e
  | 16, i, _, h => by
    have e : (none : Option FnI) = some i := Option.some.inj (show some none = some (some i) from h)
    cases e
  | 17, i, _, h => by
    have e : (none : Option FnI) = some i := Option.some.inj (show some none = some (some i) from h)
    cases e
  | 18, i, _, h => by
    have e : (none : Option FnI) = some i := Option.some.inj (show some none = some (some i) from h)
    cases e
  | 19, i, _, h => by
    have e : (none : Option FnI) = some i := Option.some.inj (show some none = some (some i) from h)
    cases e
  | 20, i, _, h => by
    have e : (none : Option FnI) = some i := Option.some.inj (show some none = some (some i) from h)
    cases e
  | 21, i, _, h => by
    have e : (none : Option FnI) = some i := Option.some.inj (show some none = some (some i) from h)
    cases e
  | 22, i, _, h => by
    have e : (none : Option FnI) = some i := Option.some.inj (show some none = some (some i) from h)
    cases e
  | 23, i, _, h => by
    have e : (none : Option FnI) = some i := Option.some.inj (show some none = some (some i) from h)
    cases e
  | 24, i, _, h => by
    have e : (none : Option FnI) = some i := Option.some.inj (show some none = some (some i) from h)
    cases e
  | 25, i, _, h => by
    have e : (none : Option FnI) = some i := Option.some.inj (show some none = some (some i) from h)
    cases e
  | 26, i, _, h => by
    have e : some (⟨c26, 37, Go.Proofs.Try.f26.results.toList, o26⟩ : FnI) = some i := Option.some.inj (show some (some _) = some (some i) from h)
    cases e
    exact fn26
  | 27, i, _, h => by
    have e : (none : Option FnI) = some i := Option.some.inj (show some none = some (some i) from h)
    cases e
  | 28, i, _, h => by
    have e : some (⟨c28, 57, Go.Proofs.Try.f28.results.toList, o28⟩ : FnI) = some i := Option.some.inj (show some (some _) = some (some i) from h)
    cases e
    exact fn28
  | 29, i, _, h => by
    have e : (none : Option FnI) = some i := Option.some.inj (show some none = some (some i) from h)
    cases e
  | 30, i, _, h => by
    have e : some (⟨c30, 89, Go.Proofs.Try.f30.results.toList, o30⟩ : FnI) = some i := Option.some.inj (show some (some _) = some (some i) from h)
    cases e
    exact fn30
  | 31, i, _, h => by
    have e : (none : Option FnI) = some i := Option.some.inj (show some none = some (some i) from h)
    cases e
  | 32, i, _, h => by
    have e : (none : Option FnI) = some i := Option.some.inj (show some none = some (some i) from h)
    cases e
  | 33, i, _, h => by
    have e : (none : Option FnI) = some i := Option.some.inj (show some none = some (some i) from h)
    cases e
  | 34, i, _, h => by
    have e : (none : Option FnI) = some i := Option.some.inj (show some none = some (some i) from h)
    cases e
  | 35, i, _, h => by
    have e : (none : Option FnI) = some i := Option.some.inj (show some none = some (some i) from h)
    cases e
  | 36, i, _, h => by
    have e : (none : Option FnI) = some i := Option.some.inj (show some none = some (some i) from h)
    cases e
  | 37, i, _, h => by
    have e : (none : Option FnI) = some i := Option.some.inj (show some none = some (some i) from h)
    cases e
  | 38, i, _, h => by
    have e : (none : Option FnI) = some i := Option.some.inj (show some none = some (some i) from h)
    cases e
  | 39, i, _, h => by
    have e : some (⟨c39, 115, Go.Proofs.Try.f39.results.toList, o39⟩ : FnI) = some i := Option.some.inj (show some (some _) = some (some i) from h)
    cases e
    exact fn39
  | 40, i, _, h => by
    have e : some (⟨c40, 119, Go.Proofs.Try.f40.results.toList, o40⟩ : FnI) = some i := Option.some.inj (show some (some _) = some (some i) from h)
    cases e
    exact fn40
  | 41, i, _, h => by
    have e : (none : Option FnI) = some i := Option.some.inj (show some none = some (some i) from h)
    cases e
  | 42, i, _, h => by
    have e : (none : Option FnI) = some i := Option.some.inj (show some none = some (some i) from h)
    cases e
  | 43, i, _, h => by
    have e : (none : Option FnI) = some i := Option.some.inj (show some none = some (some i) from h)
    cases e
  | 44, i, _, h => by
    have e : (none : Option FnI) = some i := Option.some.inj (show some none = some (some i) from h)
    cases e
  | 45, i, _, h => by
    have e : (none : Option FnI) = some i := Option.some.inj (show some none = some (some i) from h)
    cases e
  | 46, i, _, h => by
    have e : (none : Option FnI) = some i := Option.some.inj (show some none = some (some i) from h)
    cases e
  | 47, i, _, h => by
    have e : (none : Option FnI) = some i := Option.some.inj (show some none = some (some i) from h)
    cases e
  | 48, i, _, h => by
    have e : some (⟨c48, 19, Go.Proofs.Try.f48.results.toList, o48⟩ : FnI) = some i := Option.some.inj (show some (some _) = some (some i) from h)
    cases e
    exact fn48
  | 49, i, _, h => by
    have e : some (⟨c49, 12, Go.Proofs.Try.f49.results.toList, o49⟩ : FnI) = some i := Option.some.inj (show some (some _) = some (some i) from h)
    cases e
    exact fn49
  | 50, i, _, h => by
    have e : (none : Option FnI) = some i := Option.some.inj (show some none = some (some i) from h)
    cases e
  | 51, i, _, h => by
    have e : (none : Option FnI) = some i := Option.some.inj (show some none = some (some i) from h)
    cases e
  | 52, i, _, h => by
    have e : some (⟨c52, 18, Go.Proofs.Try.f52.results.toList, o52⟩ : FnI) = some i := Option.some.inj (show some (some _) = some (some i) from h)
    cases e
    exact fn52
  | 53, i, _, h => by
    have e : some (⟨c53, 22, Go.Proofs.Try.f53.results.toList, o53⟩ : FnI) = some i := Option.some.inj (show some (some _) = some (some i) from h)
    cases e
    exact fn53
  | 54, i, _, h => by
    have e : (none : Option FnI) = some i := Option.some.inj (show some none = some (some i) from h)
    cases e
  | 55, i, _, h => by
    have e : (none : Option FnI) = some i := Option.some.inj (show some none = some (some i) from h)
    cases e
  | 56, i, _, h => by
    have e : some (⟨c56, 26, Go.Proofs.Try.f56.results.toList, o56⟩ : FnI) = some i := Option.some.inj (show some (some _) = some (some i) from h)
    cases e
    exact fn56
  | 57, i, _, h => by
    have e : some (⟨c57, 26, Go.Proofs.Try.f57.results.toList, o57⟩ : FnI) = some i := Option.some.inj (show some (some _) = some (some i) from h)
    cases e
    exact fn57
  | 58, i, _, h => by
    have e : some (⟨c58, 70, Go.Proofs.Try.f58.results.toList, o58⟩ : FnI) = some i := Option.some.inj (show some (some _) = some (some i) from h)
    cases e
    exact fn58
  | 59, i, _, h => by
    have e : some (⟨c59, 27, Go.Proofs.Try.f59.results.toList, o59⟩ : FnI) = some i := Option.some.inj (show some (some _) = some (some i) from h)
    cases e
    exact fn59
  | 60, i, _, h => by
    have e : some (⟨c60, 27, Go.Proofs.Try.f60.results.toList, o60⟩ : FnI) = some i := Option.some.inj (show some (some _) = some (some i) from h)
    cases e
    exact fn60
  | 61, i, _, h => by
    have e : (none : Option FnI) = some i := Option.some.inj (show some none = some (some i) from h)
    cases e
  | 62, i, _, h => by
    have e : some (⟨c62, 86, Go.Proofs.Try.f62.results.toList, o62⟩ : FnI) = some i := Option.some.inj (show some (some _) = some (some i) from h)
    cases e
    exact fn62
  | 63, i, _, h => by
    have e : some (⟨c63, 23, Go.Proofs.Try.f63.results.toList, o63⟩ : FnI) = some i := Option.some.inj (show some (some _) = some (some i) from h)
    cases e
    exact fn63
  | 64, i, _, h => by
    have e : some (⟨c64, 23, Go.Proofs.Try.f64.results.toList, o64⟩ : FnI) = some i := Option.some.inj (show some (some _) = some (some i) from h)
    cases e
    exact fn64
  | 65, i, _, h => by
    have e : some (⟨c65, 136, Go.Proofs.Try.f65.results.toList, o65⟩ : FnI) = some i := Option.some.inj (show some (some _) = some (some i) from h)
    cases e
    exact fn65
  | 66, i, _, h => by
    have e : some (⟨c66, 27, Go.Proofs.Try.f66.results.toList, o66⟩ : FnI) = some i := Option.some.inj (show some (some _) = some (some i) from h)
    cases e
    exact fn66
  | 67, i, _, h => by
    have e : some (⟨c67, 27, Go.Proofs.Try.f67.results.toList, o67⟩ : FnI) = some i := Option.some.inj (show some (some _) = some (some i) from h)
    cases e
    exact fn67
  | 68, i, _, h => by
    have e : some (⟨c68, 12, Go.Proofs.Try.f68.results.toList, o68⟩ : FnI) = some i := Option.some.inj (show some (some _) = some (some i) from h)
    cases e
    exact fn68
  | 69, i, _, h => by
    have e : some (⟨c69, 22, Go.Proofs.Try.f69.results.toList, o69⟩ : FnI) = some i := Option.some.inj (show some (some _) = some (some i) from h)
    cases e
    exact fn69
  | 70, i, _, h => by
    have e : some (⟨c70, 26, Go.Proofs.Try.f70.results.toList, o70⟩ : FnI) = some i := Option.some.inj (show some (some _) = some (some i) from h)
    cases e
    exact fn70
  | 71, i, _, h => by
    have e : (none : Option FnI) = some i := Option.some.inj (show some none = some (some i) from h)
    cases e
  | 72, i, _, h => by
    have e : (none : Option FnI) = some i := Option.some.inj (show some none = some (some i) from h)
    cases e
  | 73, i, _, h => by
    have e : (none : Option FnI) = some i := Option.some.inj (show some none = some (some i) from h)
    cases e
  | 74, i, _, h => by
    have e : (none : Option FnI) = some i := Option.some.inj (show some none = some (some i) from h)
    cases e
  | 75, i, _, h => by
    have e : (none : Option FnI) = some i := Option.some.inj (show some none = some (some i) from h)
    cases e
  | 76, i, _, h => by
    have e : (none : Option FnI) = some i := Option.some.inj (show some none = some (some i) from h)
    cases e
  | 77, i, _, h => by
    have e : (none : Option FnI) = some i := Option.some.inj (show some none = some (some i) from h)
    cases e
  | 78, i, _, h => by
    have e : some (⟨c78, 239, Go.Proofs.Try.f78.results.toList, o78⟩ : FnI) = some i := Option.some.inj (show some (some _) = some (some i) from h)
    cases e
    exact fn78
  | 79, i, _, h => by
    have e : some (⟨c79, 26, Go.Proofs.Try.f79.results.toList, o79⟩ : FnI) = some i := Option.some.inj (show some (some _) = some (some i) from h)
    cases e
    exact fn79
  | 80, i, _, h => by
    have e : some (⟨c80, 26, Go.Proofs.Try.f80.results.toList, o80⟩ : FnI) = some i := Option.some.inj (show some (some _) = some (some i) from h)
    cases e
    exact fn80
  | 81, i, _, h => by
    have e : some (⟨c81, 15, Go.Proofs.Try.f81.results.toList, o81⟩ : FnI) = some i := Option.some.inj (show some (some _) = some (some i) from h)
    cases e
    exact fn81
  | 82, i, _, h => by
    have e : some (⟨c82, 186, Go.Proofs.Try.f82.results.toList, o82⟩ : FnI) = some i := Option.some.inj (show some (some _) = some (some i) from h)
    cases e
    exact fn82
  | 83, i, _, h => by
    have e : some (⟨c83, 26, Go.Proofs.Try.f83.results.toList, o83⟩ : FnI) = some i := Option.some.inj (show some (some _) = some (some i) from h)
    cases e
    exact fn83
  | 84, i, _, h => by
    have e : some (⟨c84, 26, Go.Proofs.Try.f84.results.toList, o84⟩ : FnI) = some i := Option.some.inj (show some (some _) = some (some i) from h)
    cases e
    exact fn84
  | 85, i, _, h => by
    have e : some (⟨c85, 8, Go.Proofs.Try.f85.results.toList, o85⟩ : FnI) = some i := Option.some.inj (show some (some _) = some (some i) from h)
    cases e
    exact fn85
  | 86, i, _, h => by
    have e : (none : Option FnI) = some i := Option.some.inj (show some none = some (some i) from h)
    cases e
  | 87, i, _, h => by
    have e : (none : Option FnI) = some i := Option.some.inj (show some none = some (some i) from h)
    cases e
  | 88, i, _, h => by
    have e : (none : Option FnI) = some i := Option.some.inj (show some none = some (some i) from h)
    cases e
  | 89, i, _, h => by
    have e : some (⟨c89, 27, Go.Proofs.Try.f89.results.toList, o89⟩ : FnI) = some i := Option.some.inj (show some (some _) = some (some i) from h)
    cases e
    exact fn89
  | 90, i, _, h => by
    have e : some (⟨c90, 28, Go.Proofs.Try.f90.results.toList, o90⟩ : FnI) = some i := Option.some.inj (show some (some _) = some (some i) from h)
    cases e
    exact fn90
  | 91, i, _, h => by
    have e : some (⟨c91, 13, Go.Proofs.Try.f91.results.toList, o91⟩ : FnI) = some i := Option.some.inj (show some (some _) = some (some i) from h)
    cases e
    exact fn91
  | 92, i, _, h => by
    have e : some (⟨c92, 23, Go.Proofs.Try.f92.results.toList, o92⟩ : FnI) = some i := Option.some.inj (show some (some _) = some (some i) from h)
    cases e
    exact fn92
  | 93, i, _, h => by
    have e : some (⟨c93, 22, Go.Proofs.Try.f93.results.toList, o93⟩ : FnI) = some i := Option.some.inj (show some (some _) = some (some i) from h)
    cases e
    exact fn93
  | 94, i, _, h => by
    have e : some (⟨c94, 14, Go.Proofs.Try.f94.results.toList, o94⟩ : FnI) = some i := Option.some.inj (show some (some _) = some (some i) from h)
    cases e
    exact fn94
  | 95, i, _, h => by
    have e : some (⟨c95, 27, Go.Proofs.Try.f95.results.toList, o95⟩ : FnI) = some i := Option.some.inj (show some (some _) = some (some i) from h)
    cases e
    exact fn95
  | 96, i, _, h => by
    have e : some (⟨c96, 26, Go.Proofs.Try.f96.results.toList, o96⟩ : FnI) = some i := Option.some.inj (show some (some _) = some (some i) from h)
    cases e
    exact fn96
  | 97, i, _, h => by
    have e : some (⟨c97, 20, Go.Proofs.Try.f97.results.toList, o97⟩ : FnI) = some i := Option.some.inj (show some (some _) = some (some i) from h)
    cases e
    exact fn97
  | 98, i, _, h => by
    have e : (none : Option FnI) = some i := Option.some.inj (show some none = some (some i) from h)
    cases e
  | 99, i, _, h => by
    have e : (none : Option FnI) = some i := Option.some.inj (show some none = some (some i) from h)
    cases e
  | 100, i, _, h => by
    have e : (none : Option FnI) = some i := Option.some.inj (show some none = some (some i) from h)
    cases e
  | 101, i, _, h => by
    have e : (none : Option FnI) = some i := Option.some.inj (show some none = some (some i) from h)
    cases e
  | 102, i, _, h => by
    have e : (none : Option FnI) = some i := Option.some.inj (show some none = some (some i) from h)
    cases e
  | 103, i, _, h => by
    have e : (none : Option FnI) = some i := Option.some.inj (show some none = some (some i) from h)
    cases e
  | 104, i, _, h => by
    have e : (none : Option FnI) = some i := Option.some.inj (show some none = some (some i) from h)
    cases e
  | 105, i, _, h => by
    have e : (none : Option FnI) = some i := Option.some.inj (show some none = some (some i) from h)
    cases e
  | 106, i, _, h => by
    have e : (none : Option FnI) = some i := Option.some.inj (show some none = some (some i) from h)
    cases e
  | 107, i, _, h => by
    have e : some (⟨c107, 10, Go.Proofs.Try.f107.results.toList, o107⟩ : FnI) = some i := Option.some.inj (show some (some _) = some (some i) from h)
    cases e
    exact fn107
  | 108, i, _, h => by
    have e : some (⟨c108, 33, Go.Proofs.Try.f108.results.toList, o108⟩ : FnI) = some i := Option.some.inj (show some (some _) = some (some i) from h)
    cases e
    exact fn108
  | 109, i, _, h => by
    have e : some (⟨c109, 10, Go.Proofs.Try.f109.results.toList, o109⟩ : FnI) = some i := Option.some.inj (show some (some _) = some (some i) from h)
    cases e
    exact fn109
  | 110, i, _, h => by
    have e : some (⟨c110, 26, Go.Proofs.Try.f110.results.toList, o110⟩ : FnI) = some i := Option.some.inj (show some (some _) = some (some i) from h)
    cases e
    exact fn110
  | 111, i, _, h => by
    have e : some (⟨c111, 26, Go.Proofs.Try.f111.results.toList, o111⟩ : FnI) = some i := Option.some.inj (show some (some _) = some (some i) from h)
    cases e
    exact fn111
  | 112, i, _, h => by
    have e : some (⟨c112, 32, Go.Proofs.Try.f112.results.toList, o112⟩ : FnI) = some i := Option.some.inj (show some (some _) = some (some i) from h)
    cases e
    exact fn112
  | 113, i, _, h => by
    have e : some (⟨c113, 31, Go.Proofs.Try.f113.results.toList, o113⟩ : FnI) = some i := Option.some.inj (show some (some _) = some (some i) from h)
    cases e
    exact fn113
  | 114, i, _, h => by
    have e : (none : Option FnI) = some i := Option.some.inj (show some none = some (some i) from h)
    cases e
  | 115, i, _, h => by
    have e : (none : Option FnI) = some i := Option.some.inj (show some none = some (some i) from h)
    cases e
  | 116, i, _, h => by
    have e : (none : Option FnI) = some i := Option.some.inj (show some none = some (some i) from h)
    cases e
  | 117, i, _, h => by
    have e : some (⟨c117, 13, Go.Proofs.Try.f117.results.toList, o117⟩ : FnI) = some i := Option.some.inj (show some (some _) = some (some i) from h)
    cases e
    exact fn117
  | 118, i, _, h => by
    have e : some (⟨c118, 11, Go.Proofs.Try.f118.results.toList, o118⟩ : FnI) = some i := Option.some.inj (show some (some _) = some (some i) from h)
    cases e
    exact fn118
  | 119, i, _, h => by
    have e : some (⟨c119, 15, Go.Proofs.Try.f119.results.toList, o119⟩ : FnI) = some i := Option.some.inj (show some (some _) = some (some i) from h)
    cases e
    exact fn119
  | 120, i, _, h => by
    have e : (none : Option FnI) = some i := Option.some.inj (show some none = some (some i) from h)
    cases e
  | 121, i, _, h => by
    have e : (none : Option FnI) = some i := Option.some.inj (show some none = some (some i) from h)
    cases e
  | 122, i, _, h => by
    have e : (none : Option FnI) = some i := Option.some.inj (show some none = some (some i) from h)
    cases e
  | 123, i, _, h => by
    have e : (none : Option FnI) = some i := Option.some.inj (show some none = some (some i) from h)
    cases e
  | 124, i, _, h => by
    have e : (none : Option FnI) = some i := Option.some.inj (show some none = some (some i) from h)
    cases e
  | 125, i, _, h => by
    have e : some (⟨c125, 31, Go.Proofs.Try.f125.results.toList, o125⟩ : FnI) = some i := Option.some.inj (show some (some _) = some (some i) from h)
    cases e
    exact fn125
  | n + 126, i, hlt, h => by omega
theorem fns0 : ∀ f i, E0.fs f = some i → FnOk Go.Proofs.Try.prog E0 f i := by
  intro f i h
  have hl : fss[f]? = some (some i) := by
    have h : (fss[f]?).getD none = some i := h
    cases hl : fss[f]? with
    | none => rw [hl] at h; cases h
    | some o => rw [hl] at h; simp only [Option.getD_some] at h; rw [h]
  refine ⟨?_, fnsB_ok code0 hl⟩
  have hlt : f < 126 := (List.getElem?_eq_some_iff.1 hl).1
  exact fnAll f i hlt hl
theorem env0 : EnvOk Go.Proofs.Try.prog E0 := ⟨tabOk0, byte0, by kernel_rfl, fns0, fun f g h => by cases h⟩
end Go.Proofs.Ytnkelipioodhjaa.Abs
