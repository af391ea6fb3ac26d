/- The facts of the program's tables (written by gen.py). -/
import Derived.Test.YtfpmccedangjoaaChecked
import Derived.Test.YtfpmccedangjoaaFns
import Derived.Test.YtfpmccedangjoaaEnv
set_option linter.unusedVariables false
set_option linter.unusedSimpArgs false
set_option maxRecDepth 100000
namespace Go.Proofs.Ytfpmccedangjoaa.Abs
open Go
theorem tab0 : tabB Go.Proofs.Try.prog 0 tis = true := by kernel_rfl
theorem code0 : fnsB E0 fss = true := by kernel_rfl
theorem tabOk0 : TabOk Go.Proofs.Try.prog ti0 := by
  intro t i h
  unfold ti0 at h
  cases hl : tis[t]? with
  | none => rw [hl] at h; cases h
  | some o =>
    rw [hl] at h
    simp only [Option.getD_some] at h
    subst h
    simpa using (tabB_ok tis 0 t i tab0 hl).1
theorem byte0 : ∀ t i, ti0 t = some i → i.ik = some .u8 → i.size = 1 := by
  intro t i h
  unfold ti0 at h
  cases hl : tis[t]? with
  | none => rw [hl] at h; cases h
  | some o =>
    rw [hl] at h
    simp only [Option.getD_some] at h
    subst h
    exact (tabB_ok tis 0 t i tab0 hl).2
theorem fn69 : ∃ fn, Go.Proofs.Try.prog.funcs[69]? = some fn ∧ (fn.name == "runtime.NumGoroutine") = false ∧ fn.body = some c69 ∧ fn.ntmps = 12 ∧ fn.results.toList = Go.Proofs.Try.f69.results.toList := ⟨Go.Proofs.Try.f69, Go.Proofs.Try.func69, by kernel_rfl, by kernel_rfl, rfl, rfl⟩
theorem fn63 : ∃ fn, Go.Proofs.Try.prog.funcs[63]? = some fn ∧ (fn.name == "runtime.NumGoroutine") = false ∧ fn.body = some c63 ∧ fn.ntmps = 19 ∧ fn.results.toList = Go.Proofs.Try.f63.results.toList := ⟨Go.Proofs.Try.f63, Go.Proofs.Try.func63, by kernel_rfl, by kernel_rfl, rfl, rfl⟩
theorem fn62 : ∃ fn, Go.Proofs.Try.prog.funcs[62]? = some fn ∧ (fn.name == "runtime.NumGoroutine") = false ∧ fn.body = some c62 ∧ fn.ntmps = 12 ∧ fn.results.toList = Go.Proofs.Try.f62.results.toList := ⟨Go.Proofs.Try.f62, Go.Proofs.Try.func62, by kernel_rfl, by kernel_rfl, rfl, rfl⟩
theorem fn54 : ∃ fn, Go.Proofs.Try.prog.funcs[54]? = some fn ∧ (fn.name == "runtime.NumGoroutine") = false ∧ fn.body = some c54 ∧ fn.ntmps = 27 ∧ fn.results.toList = Go.Proofs.Try.f54.results.toList := ⟨Go.Proofs.Try.f54, Go.Proofs.Try.func54, by kernel_rfl, by kernel_rfl, rfl, rfl⟩
theorem fn55 : ∃ fn, Go.Proofs.Try.prog.funcs[55]? = some fn ∧ (fn.name == "runtime.NumGoroutine") = false ∧ fn.body = some c55 ∧ fn.ntmps = 27 ∧ fn.results.toList = Go.Proofs.Try.f55.results.toList := ⟨Go.Proofs.Try.f55, Go.Proofs.Try.func55, by kernel_rfl, by kernel_rfl, rfl, rfl⟩
theorem fn42 : ∃ fn, Go.Proofs.Try.prog.funcs[42]? = some fn ∧ (fn.name == "runtime.NumGoroutine") = false ∧ fn.body = some c42 ∧ fn.ntmps = 18 ∧ fn.results.toList = Go.Proofs.Try.f42.results.toList := ⟨Go.Proofs.Try.f42, Go.Proofs.Try.func42, by kernel_rfl, by kernel_rfl, rfl, rfl⟩
theorem fn43 : ∃ fn, Go.Proofs.Try.prog.funcs[43]? = some fn ∧ (fn.name == "runtime.NumGoroutine") = false ∧ fn.body = some c43 ∧ fn.ntmps = 12 ∧ fn.results.toList = Go.Proofs.Try.f43.results.toList := ⟨Go.Proofs.Try.f43, Go.Proofs.Try.func43, by kernel_rfl, by kernel_rfl, rfl, rfl⟩
theorem fn29 : ∃ fn, Go.Proofs.Try.prog.funcs[29]? = some fn ∧ (fn.name == "runtime.NumGoroutine") = false ∧ fn.body = some c29 ∧ fn.ntmps = 25 ∧ fn.results.toList = Go.Proofs.Try.f29.results.toList := ⟨Go.Proofs.Try.f29, Go.Proofs.Try.func29, by kernel_rfl, by kernel_rfl, rfl, rfl⟩
theorem fn17 : ∃ fn, Go.Proofs.Try.prog.funcs[17]? = some fn ∧ (fn.name == "runtime.NumGoroutine") = false ∧ fn.body = some c17 ∧ fn.ntmps = 27 ∧ fn.results.toList = Go.Proofs.Try.f17.results.toList := ⟨Go.Proofs.Try.f17, Go.Proofs.Try.func17, by kernel_rfl, by kernel_rfl, rfl, rfl⟩
theorem fn6 : ∃ fn, Go.Proofs.Try.prog.funcs[6]? = some fn ∧ (fn.name == "runtime.NumGoroutine") = false ∧ fn.body = some c6 ∧ fn.ntmps = 12 ∧ fn.results.toList = Go.Proofs.Try.f6.results.toList := ⟨Go.Proofs.Try.f6, Go.Proofs.Try.func6, by kernel_rfl, by kernel_rfl, rfl, rfl⟩
theorem fn70 : ∃ fn, Go.Proofs.Try.prog.funcs[70]? = some fn ∧ (fn.name == "runtime.NumGoroutine") = false ∧ fn.body = some c70 ∧ fn.ntmps = 22 ∧ fn.results.toList = Go.Proofs.Try.f70.results.toList := ⟨Go.Proofs.Try.f70, Go.Proofs.Try.func70, by kernel_rfl, by kernel_rfl, rfl, rfl⟩
theorem fn65 : ∃ fn, Go.Proofs.Try.prog.funcs[65]? = some fn ∧ (fn.name == "runtime.NumGoroutine") = false ∧ fn.body = some c65 ∧ fn.ntmps = 18 ∧ fn.results.toList = Go.Proofs.Try.f65.results.toList := ⟨Go.Proofs.Try.f65, Go.Proofs.Try.func65, by kernel_rfl, by kernel_rfl, rfl, rfl⟩
theorem fn64 : ∃ fn, Go.Proofs.Try.prog.funcs[64]? = some fn ∧ (fn.name == "runtime.NumGoroutine") = false ∧ fn.body = some c64 ∧ fn.ntmps = 15 ∧ fn.results.toList = Go.Proofs.Try.f64.results.toList := ⟨Go.Proofs.Try.f64, Go.Proofs.Try.func64, by kernel_rfl, by kernel_rfl, rfl, rfl⟩
theorem fn56 : ∃ fn, Go.Proofs.Try.prog.funcs[56]? = some fn ∧ (fn.name == "runtime.NumGoroutine") = false ∧ fn.body = some c56 ∧ fn.ntmps = 23 ∧ fn.results.toList = Go.Proofs.Try.f56.results.toList := ⟨Go.Proofs.Try.f56, Go.Proofs.Try.func56, by kernel_rfl, by kernel_rfl, rfl, rfl⟩
theorem fn57 : ∃ fn, Go.Proofs.Try.prog.funcs[57]? = some fn ∧ (fn.name == "runtime.NumGoroutine") = false ∧ fn.body = some c57 ∧ fn.ntmps = 23 ∧ fn.results.toList = Go.Proofs.Try.f57.results.toList := ⟨Go.Proofs.Try.f57, Go.Proofs.Try.func57, by kernel_rfl, by kernel_rfl, rfl, rfl⟩
theorem fn44 : ∃ fn, Go.Proofs.Try.prog.funcs[44]? = some fn ∧ (fn.name == "runtime.NumGoroutine") = false ∧ fn.body = some c44 ∧ fn.ntmps = 16 ∧ fn.results.toList = Go.Proofs.Try.f44.results.toList := ⟨Go.Proofs.Try.f44, Go.Proofs.Try.func44, by kernel_rfl, by kernel_rfl, rfl, rfl⟩
theorem fn45 : ∃ fn, Go.Proofs.Try.prog.funcs[45]? = some fn ∧ (fn.name == "runtime.NumGoroutine") = false ∧ fn.body = some c45 ∧ fn.ntmps = 22 ∧ fn.results.toList = Go.Proofs.Try.f45.results.toList := ⟨Go.Proofs.Try.f45, Go.Proofs.Try.func45, by kernel_rfl, by kernel_rfl, rfl, rfl⟩
theorem fn30 : ∃ fn, Go.Proofs.Try.prog.funcs[30]? = some fn ∧ (fn.name == "runtime.NumGoroutine") = false ∧ fn.body = some c30 ∧ fn.ntmps = 28 ∧ fn.results.toList = Go.Proofs.Try.f30.results.toList := ⟨Go.Proofs.Try.f30, Go.Proofs.Try.func30, by kernel_rfl, by kernel_rfl, rfl, rfl⟩
theorem fn20 : ∃ fn, Go.Proofs.Try.prog.funcs[20]? = some fn ∧ (fn.name == "runtime.NumGoroutine") = false ∧ fn.body = some c20 ∧ fn.ntmps = 23 ∧ fn.results.toList = Go.Proofs.Try.f20.results.toList := ⟨Go.Proofs.Try.f20, Go.Proofs.Try.func20, by kernel_rfl, by kernel_rfl, rfl, rfl⟩
theorem fn8 : ∃ fn, Go.Proofs.Try.prog.funcs[8]? = some fn ∧ (fn.name == "runtime.NumGoroutine") = false ∧ fn.body = some c8 ∧ fn.ntmps = 12 ∧ fn.results.toList = Go.Proofs.Try.f8.results.toList := ⟨Go.Proofs.Try.f8, Go.Proofs.Try.func8, by kernel_rfl, by kernel_rfl, rfl, rfl⟩
theorem fn53 : ∃ fn, Go.Proofs.Try.prog.funcs[53]? = some fn ∧ (fn.name == "runtime.NumGoroutine") = false ∧ fn.body = some c53 ∧ fn.ntmps = 14 ∧ fn.results.toList = Go.Proofs.Try.f53.results.toList := ⟨Go.Proofs.Try.f53, Go.Proofs.Try.func53, by kernel_rfl, by kernel_rfl, rfl, rfl⟩
theorem fn52 : ∃ fn, Go.Proofs.Try.prog.funcs[52]? = some fn ∧ (fn.name == "runtime.NumGoroutine") = false ∧ fn.body = some c52 ∧ fn.ntmps = 21 ∧ fn.results.toList = Go.Proofs.Try.f52.results.toList := ⟨Go.Proofs.Try.f52, Go.Proofs.Try.func52, by kernel_rfl, by kernel_rfl, rfl, rfl⟩
theorem fn40 : ∃ fn, Go.Proofs.Try.prog.funcs[40]? = some fn ∧ (fn.name == "runtime.NumGoroutine") = false ∧ fn.body = some c40 ∧ fn.ntmps = 44 ∧ fn.results.toList = Go.Proofs.Try.f40.results.toList := ⟨Go.Proofs.Try.f40, Go.Proofs.Try.func40, by kernel_rfl, by kernel_rfl, rfl, rfl⟩
theorem fn26 : ∃ fn, Go.Proofs.Try.prog.funcs[26]? = some fn ∧ (fn.name == "runtime.NumGoroutine") = false ∧ fn.body = some c26 ∧ fn.ntmps = 15 ∧ fn.results.toList = Go.Proofs.Try.f26.results.toList := ⟨Go.Proofs.Try.f26, Go.Proofs.Try.func26, by kernel_rfl, by kernel_rfl, rfl, rfl⟩
theorem fn15 : ∃ fn, Go.Proofs.Try.prog.funcs[15]? = some fn ∧ (fn.name == "runtime.NumGoroutine") = false ∧ fn.body = some c15 ∧ fn.ntmps = 37 ∧ fn.results.toList = Go.Proofs.Try.f15.results.toList := ⟨Go.Proofs.Try.f15, Go.Proofs.Try.func15, by kernel_rfl, by kernel_rfl, rfl, rfl⟩
theorem fn66 : ∃ fn, Go.Proofs.Try.prog.funcs[66]? = some fn ∧ (fn.name == "runtime.NumGoroutine") = false ∧ fn.body = some c66 ∧ fn.ntmps = 18 ∧ fn.results.toList = Go.Proofs.Try.f66.results.toList := ⟨Go.Proofs.Try.f66, Go.Proofs.Try.func66, by kernel_rfl, by kernel_rfl, rfl, rfl⟩
theorem fn59 : ∃ fn, Go.Proofs.Try.prog.funcs[59]? = some fn ∧ (fn.name == "runtime.NumGoroutine") = false ∧ fn.body = some c59 ∧ fn.ntmps = 9 ∧ fn.results.toList = Go.Proofs.Try.f59.results.toList := ⟨Go.Proofs.Try.f59, Go.Proofs.Try.func59, by kernel_rfl, by kernel_rfl, rfl, rfl⟩
theorem fn58 : ∃ fn, Go.Proofs.Try.prog.funcs[58]? = some fn ∧ (fn.name == "runtime.NumGoroutine") = false ∧ fn.body = some c58 ∧ fn.ntmps = 20 ∧ fn.results.toList = Go.Proofs.Try.f58.results.toList := ⟨Go.Proofs.Try.f58, Go.Proofs.Try.func58, by kernel_rfl, by kernel_rfl, rfl, rfl⟩
theorem fn46 : ∃ fn, Go.Proofs.Try.prog.funcs[46]? = some fn ∧ (fn.name == "runtime.NumGoroutine") = false ∧ fn.body = some c46 ∧ fn.ntmps = 34 ∧ fn.results.toList = Go.Proofs.Try.f46.results.toList := ⟨Go.Proofs.Try.f46, Go.Proofs.Try.func46, by kernel_rfl, by kernel_rfl, rfl, rfl⟩
theorem fn47 : ∃ fn, Go.Proofs.Try.prog.funcs[47]? = some fn ∧ (fn.name == "runtime.NumGoroutine") = false ∧ fn.body = some c47 ∧ fn.ntmps = 6 ∧ fn.results.toList = Go.Proofs.Try.f47.results.toList := ⟨Go.Proofs.Try.f47, Go.Proofs.Try.func47, by kernel_rfl, by kernel_rfl, rfl, rfl⟩
theorem fn31 : ∃ fn, Go.Proofs.Try.prog.funcs[31]? = some fn ∧ (fn.name == "runtime.NumGoroutine") = false ∧ fn.body = some c31 ∧ fn.ntmps = 12 ∧ fn.results.toList = Go.Proofs.Try.f31.results.toList := ⟨Go.Proofs.Try.f31, Go.Proofs.Try.func31, by kernel_rfl, by kernel_rfl, rfl, rfl⟩
theorem fn21 : ∃ fn, Go.Proofs.Try.prog.funcs[21]? = some fn ∧ (fn.name == "runtime.NumGoroutine") = false ∧ fn.body = some c21 ∧ fn.ntmps = 25 ∧ fn.results.toList = Go.Proofs.Try.f21.results.toList := ⟨Go.Proofs.Try.f21, Go.Proofs.Try.func21, by kernel_rfl, by kernel_rfl, rfl, rfl⟩
theorem fn28 : ∃ fn, Go.Proofs.Try.prog.funcs[28]? = some fn ∧ (fn.name == "runtime.NumGoroutine") = false ∧ fn.body = some c28 ∧ fn.ntmps = 8 ∧ fn.results.toList = Go.Proofs.Try.f28.results.toList := ⟨Go.Proofs.Try.f28, Go.Proofs.Try.func28, by kernel_rfl, by kernel_rfl, rfl, rfl⟩
theorem fn41 : ∃ fn, Go.Proofs.Try.prog.funcs[41]? = some fn ∧ (fn.name == "runtime.NumGoroutine") = false ∧ fn.body = some c41 ∧ fn.ntmps = 19 ∧ fn.results.toList = Go.Proofs.Try.f41.results.toList := ⟨Go.Proofs.Try.f41, Go.Proofs.Try.func41, by kernel_rfl, by kernel_rfl, rfl, rfl⟩
theorem fn27 : ∃ fn, Go.Proofs.Try.prog.funcs[27]? = some fn ∧ (fn.name == "runtime.NumGoroutine") = false ∧ fn.body = some c27 ∧ fn.ntmps = 42 ∧ fn.results.toList = Go.Proofs.Try.f27.results.toList := ⟨Go.Proofs.Try.f27, Go.Proofs.Try.func27, by kernel_rfl, by kernel_rfl, rfl, rfl⟩
theorem fn16 : ∃ fn, Go.Proofs.Try.prog.funcs[16]? = some fn ∧ (fn.name == "runtime.NumGoroutine") = false ∧ fn.body = some c16 ∧ fn.ntmps = 14 ∧ fn.results.toList = Go.Proofs.Try.f16.results.toList := ⟨Go.Proofs.Try.f16, Go.Proofs.Try.func16, by kernel_rfl, by kernel_rfl, rfl, rfl⟩
theorem fn71 : ∃ fn, Go.Proofs.Try.prog.funcs[71]? = some fn ∧ (fn.name == "runtime.NumGoroutine") = false ∧ fn.body = some c71 ∧ fn.ntmps = 26 ∧ fn.results.toList = Go.Proofs.Try.f71.results.toList := ⟨Go.Proofs.Try.f71, Go.Proofs.Try.func71, by kernel_rfl, by kernel_rfl, rfl, rfl⟩
theorem fn68 : ∃ fn, Go.Proofs.Try.prog.funcs[68]? = some fn ∧ (fn.name == "runtime.NumGoroutine") = false ∧ fn.body = some c68 ∧ fn.ntmps = 26 ∧ fn.results.toList = Go.Proofs.Try.f68.results.toList := ⟨Go.Proofs.Try.f68, Go.Proofs.Try.func68, by kernel_rfl, by kernel_rfl, rfl, rfl⟩
theorem fn67 : ∃ fn, Go.Proofs.Try.prog.funcs[67]? = some fn ∧ (fn.name == "runtime.NumGoroutine") = false ∧ fn.body = some c67 ∧ fn.ntmps = 21 ∧ fn.results.toList = Go.Proofs.Try.f67.results.toList := ⟨Go.Proofs.Try.f67, Go.Proofs.Try.func67, by kernel_rfl, by kernel_rfl, rfl, rfl⟩
theorem fn60 : ∃ fn, Go.Proofs.Try.prog.funcs[60]? = some fn ∧ (fn.name == "runtime.NumGoroutine") = false ∧ fn.body = some c60 ∧ fn.ntmps = 27 ∧ fn.results.toList = Go.Proofs.Try.f60.results.toList := ⟨Go.Proofs.Try.f60, Go.Proofs.Try.func60, by kernel_rfl, by kernel_rfl, rfl, rfl⟩
theorem fn61 : ∃ fn, Go.Proofs.Try.prog.funcs[61]? = some fn ∧ (fn.name == "runtime.NumGoroutine") = false ∧ fn.body = some c61 ∧ fn.ntmps = 27 ∧ fn.results.toList = Go.Proofs.Try.f61.results.toList := ⟨Go.Proofs.Try.f61, Go.Proofs.Try.func61, by kernel_rfl, by kernel_rfl, rfl, rfl⟩
theorem fn48 : ∃ fn, Go.Proofs.Try.prog.funcs[48]? = some fn ∧ (fn.name == "runtime.NumGoroutine") = false ∧ fn.body = some c48 ∧ fn.ntmps = 22 ∧ fn.results.toList = Go.Proofs.Try.f48.results.toList := ⟨Go.Proofs.Try.f48, Go.Proofs.Try.func48, by kernel_rfl, by kernel_rfl, rfl, rfl⟩
theorem fn49 : ∃ fn, Go.Proofs.Try.prog.funcs[49]? = some fn ∧ (fn.name == "runtime.NumGoroutine") = false ∧ fn.body = some c49 ∧ fn.ntmps = 26 ∧ fn.results.toList = Go.Proofs.Try.f49.results.toList := ⟨Go.Proofs.Try.f49, Go.Proofs.Try.func49, by kernel_rfl, by kernel_rfl, rfl, rfl⟩
theorem fn32 : ∃ fn, Go.Proofs.Try.prog.funcs[32]? = some fn ∧ (fn.name == "runtime.NumGoroutine") = false ∧ fn.body = some c32 ∧ fn.ntmps = 42 ∧ fn.results.toList = Go.Proofs.Try.f32.results.toList := ⟨Go.Proofs.Try.f32, Go.Proofs.Try.func32, by kernel_rfl, by kernel_rfl, rfl, rfl⟩
theorem fn23 : ∃ fn, Go.Proofs.Try.prog.funcs[23]? = some fn ∧ (fn.name == "runtime.NumGoroutine") = false ∧ fn.body = some c23 ∧ fn.ntmps = 27 ∧ fn.results.toList = Go.Proofs.Try.f23.results.toList := ⟨Go.Proofs.Try.f23, Go.Proofs.Try.func23, by kernel_rfl, by kernel_rfl, rfl, rfl⟩
theorem fn10 : ∃ fn, Go.Proofs.Try.prog.funcs[10]? = some fn ∧ (fn.name == "runtime.NumGoroutine") = false ∧ fn.body = some c10 ∧ fn.ntmps = 16 ∧ fn.results.toList = Go.Proofs.Try.f10.results.toList := ⟨Go.Proofs.Try.f10, Go.Proofs.Try.func10, by kernel_rfl, by kernel_rfl, rfl, rfl⟩
theorem fn33 : ∃ fn, Go.Proofs.Try.prog.funcs[33]? = some fn ∧ (fn.name == "runtime.NumGoroutine") = false ∧ fn.body = some c33 ∧ fn.ntmps = 20 ∧ fn.results.toList = Go.Proofs.Try.f33.results.toList := ⟨Go.Proofs.Try.f33, Go.Proofs.Try.func33, by kernel_rfl, by kernel_rfl, rfl, rfl⟩
theorem fn50 : ∃ fn, Go.Proofs.Try.prog.funcs[50]? = some fn ∧ (fn.name == "runtime.NumGoroutine") = false ∧ fn.body = some c50 ∧ fn.ntmps = 20 ∧ fn.results.toList = Go.Proofs.Try.f50.results.toList := ⟨Go.Proofs.Try.f50, Go.Proofs.Try.func50, by kernel_rfl, by kernel_rfl, rfl, rfl⟩
theorem fn34 : ∃ fn, Go.Proofs.Try.prog.funcs[34]? = some fn ∧ (fn.name == "runtime.NumGoroutine") = false ∧ fn.body = some c34 ∧ fn.ntmps = 62 ∧ fn.results.toList = Go.Proofs.Try.f34.results.toList := ⟨Go.Proofs.Try.f34, Go.Proofs.Try.func34, by kernel_rfl, by kernel_rfl, rfl, rfl⟩
theorem fn35 : ∃ fn, Go.Proofs.Try.prog.funcs[35]? = some fn ∧ (fn.name == "runtime.NumGoroutine") = false ∧ fn.body = some c35 ∧ fn.ntmps = 44 ∧ fn.results.toList = Go.Proofs.Try.f35.results.toList := ⟨Go.Proofs.Try.f35, Go.Proofs.Try.func35, by kernel_rfl, by kernel_rfl, rfl, rfl⟩
theorem fn36 : ∃ fn, Go.Proofs.Try.prog.funcs[36]? = some fn ∧ (fn.name == "runtime.NumGoroutine") = false ∧ fn.body = some c36 ∧ fn.ntmps = 19 ∧ fn.results.toList = Go.Proofs.Try.f36.results.toList := ⟨Go.Proofs.Try.f36, Go.Proofs.Try.func36, by kernel_rfl, by kernel_rfl, rfl, rfl⟩
theorem fn24 : ∃ fn, Go.Proofs.Try.prog.funcs[24]? = some fn ∧ (fn.name == "runtime.NumGoroutine") = false ∧ fn.body = some c24 ∧ fn.ntmps = 82 ∧ fn.results.toList = Go.Proofs.Try.f24.results.toList := ⟨Go.Proofs.Try.f24, Go.Proofs.Try.func24, by kernel_rfl, by kernel_rfl, rfl, rfl⟩
theorem fn11 : ∃ fn, Go.Proofs.Try.prog.funcs[11]? = some fn ∧ (fn.name == "runtime.NumGoroutine") = false ∧ fn.body = some c11 ∧ fn.ntmps = 10 ∧ fn.results.toList = Go.Proofs.Try.f11.results.toList := ⟨Go.Proofs.Try.f11, Go.Proofs.Try.func11, by kernel_rfl, by kernel_rfl, rfl, rfl⟩
theorem fn51 : ∃ fn, Go.Proofs.Try.prog.funcs[51]? = some fn ∧ (fn.name == "runtime.NumGoroutine") = false ∧ fn.body = some c51 ∧ fn.ntmps = 22 ∧ fn.results.toList = Go.Proofs.Try.f51.results.toList := ⟨Go.Proofs.Try.f51, Go.Proofs.Try.func51, by kernel_rfl, by kernel_rfl, rfl, rfl⟩
theorem fn37 : ∃ fn, Go.Proofs.Try.prog.funcs[37]? = some fn ∧ (fn.name == "runtime.NumGoroutine") = false ∧ fn.body = some c37 ∧ fn.ntmps = 74 ∧ fn.results.toList = Go.Proofs.Try.f37.results.toList := ⟨Go.Proofs.Try.f37, Go.Proofs.Try.func37, by kernel_rfl, by kernel_rfl, rfl, rfl⟩
theorem fn38 : ∃ fn, Go.Proofs.Try.prog.funcs[38]? = some fn ∧ (fn.name == "runtime.NumGoroutine") = false ∧ fn.body = some c38 ∧ fn.ntmps = 52 ∧ fn.results.toList = Go.Proofs.Try.f38.results.toList := ⟨Go.Proofs.Try.f38, Go.Proofs.Try.func38, by kernel_rfl, by kernel_rfl, rfl, rfl⟩
theorem fn39 : ∃ fn, Go.Proofs.Try.prog.funcs[39]? = some fn ∧ (fn.name == "runtime.NumGoroutine") = false ∧ fn.body = some c39 ∧ fn.ntmps = 21 ∧ fn.results.toList = Go.Proofs.Try.f39.results.toList := ⟨Go.Proofs.Try.f39, Go.Proofs.Try.func39, by kernel_rfl, by kernel_rfl, rfl, rfl⟩
theorem fn25 : ∃ fn, Go.Proofs.Try.prog.funcs[25]? = some fn ∧ (fn.name == "runtime.NumGoroutine") = false ∧ fn.body = some c25 ∧ fn.ntmps = 100 ∧ fn.results.toList = Go.Proofs.Try.f25.results.toList := ⟨Go.Proofs.Try.f25, Go.Proofs.Try.func25, by kernel_rfl, by kernel_rfl, rfl, rfl⟩
theorem fn12 : ∃ fn, Go.Proofs.Try.prog.funcs[12]? = some fn ∧ (fn.name == "runtime.NumGoroutine") = false ∧ fn.body = some c12 ∧ fn.ntmps = 12 ∧ fn.results.toList = Go.Proofs.Try.f12.results.toList := ⟨Go.Proofs.Try.f12, Go.Proofs.Try.func12, by kernel_rfl, by kernel_rfl, rfl, rfl⟩
theorem fn5 : ∃ fn, Go.Proofs.Try.prog.funcs[5]? = some fn ∧ (fn.name == "runtime.NumGoroutine") = false ∧ fn.body = some c5 ∧ fn.ntmps = 77 ∧ fn.results.toList = Go.Proofs.Try.f5.results.toList := ⟨Go.Proofs.Try.f5, Go.Proofs.Try.func5, by kernel_rfl, by kernel_rfl, rfl, rfl⟩
theorem fn18 : ∃ fn, Go.Proofs.Try.prog.funcs[18]? = some fn ∧ (fn.name == "runtime.NumGoroutine") = false ∧ fn.body = some c18 ∧ fn.ntmps = 27 ∧ fn.results.toList = Go.Proofs.Try.f18.results.toList := ⟨Go.Proofs.Try.f18, Go.Proofs.Try.func18, by kernel_rfl, by kernel_rfl, rfl, rfl⟩
theorem fn19 : ∃ fn, Go.Proofs.Try.prog.funcs[19]? = some fn ∧ (fn.name == "runtime.NumGoroutine") = false ∧ fn.body = some c19 ∧ fn.ntmps = 15 ∧ fn.results.toList = Go.Proofs.Try.f19.results.toList := ⟨Go.Proofs.Try.f19, Go.Proofs.Try.func19, by kernel_rfl, by kernel_rfl, rfl, rfl⟩
theorem fn7 : ∃ fn, Go.Proofs.Try.prog.funcs[7]? = some fn ∧ (fn.name == "runtime.NumGoroutine") = false ∧ fn.body = some c7 ∧ fn.ntmps = 21 ∧ fn.results.toList = Go.Proofs.Try.f7.results.toList := ⟨Go.Proofs.Try.f7, Go.Proofs.Try.func7, by kernel_rfl, by kernel_rfl, rfl, rfl⟩
theorem fn22 : ∃ fn, Go.Proofs.Try.prog.funcs[22]? = some fn ∧ (fn.name == "runtime.NumGoroutine") = false ∧ fn.body = some c22 ∧ fn.ntmps = 15 ∧ fn.results.toList = Go.Proofs.Try.f22.results.toList := ⟨Go.Proofs.Try.f22, Go.Proofs.Try.func22, by kernel_rfl, by kernel_rfl, rfl, rfl⟩
theorem fn9 : ∃ fn, Go.Proofs.Try.prog.funcs[9]? = some fn ∧ (fn.name == "runtime.NumGoroutine") = false ∧ fn.body = some c9 ∧ fn.ntmps = 21 ∧ fn.results.toList = Go.Proofs.Try.f9.results.toList := ⟨Go.Proofs.Try.f9, Go.Proofs.Try.func9, by kernel_rfl, by kernel_rfl, rfl, rfl⟩
theorem fn3 : ∃ fn, Go.Proofs.Try.prog.funcs[3]? = some fn ∧ (fn.name == "runtime.NumGoroutine") = false ∧ fn.body = some c3 ∧ fn.ntmps = 101 ∧ fn.results.toList = Go.Proofs.Try.f3.results.toList := ⟨Go.Proofs.Try.f3, Go.Proofs.Try.func3, by kernel_rfl, by kernel_rfl, rfl, rfl⟩
theorem fnAll : ∀ (f : Nat) (i : FnI), f < 72 → fss[f]? = some (some i) → ∃ fn, Go.Proofs.Try.prog.funcs[f]? = some fn ∧ (fn.name == "runtime.NumGoroutine") = false ∧ fn.body = some i.body ∧ fn.ntmps = i.ntmps ∧ fn.results.toList = i.results
  | 0, i, _, h => by
    have e : (none : Option FnI) = some i := Option.some.inj (show some none = some (some i) from h)
    cases e
  | 1, i, _, h => by
    have e : (none : Option FnI) = some i := Option.some.inj (show some none = some (some i) from h)
    cases e
  | 2, i, _, h => by
    have e : (none : Option FnI) = some i := Option.some.inj (show some none = some (some i) from h)
    cases e
  | 3, i, _, h => by
    have e : some (⟨c3, 101, Go.Proofs.Try.f3.results.toList, o3⟩ : FnI) = some i := Option.some.inj (show some (some _) = some (some i) from h)
    cases e
    exact fn3
  | 4, i, _, h => by
    have e : (none : Option FnI) = some i := Option.some.inj (show some none = some (some i) from h)
    cases e
  | 5, i, _, h => by
    have e : some (⟨c5, 77, Go.Proofs.Try.f5.results.toList, o5⟩ : FnI) = some i := Option.some.inj (show some (some _) = some (some i) from h)
    cases e
    exact fn5
  | 6, i, _, h => by
    have e : some (⟨c6, 12, Go.Proofs.Try.f6.results.toList, o6⟩ : FnI) = some i := Option.some.inj (show some (some _) = some (some i) from h)
    cases e
    exact fn6
  | 7, i, _, h => by
    have e : some (⟨c7, 21, Go.Proofs.Try.f7.results.toList, o7⟩ : FnI) = some i := Option.some.inj (show some (some _) = some (some i) from h)
    cases e
    exact fn7
  | 8, i, _, h => by
    have e : some (⟨c8, 12, Go.Proofs.Try.f8.results.toList, o8⟩ : FnI) = some i := Option.some.inj (show some (some _) = some (some i) from h)
    cases e
    exact fn8
  | 9, i, _, h => by
    have e : some (⟨c9, 21, Go.Proofs.Try.f9.results.toList, o9⟩ : FnI) = some i := Option.some.inj (show some (some _) = some (some i) from h)
    cases e
    exact fn9
  | 10, i, _, h => by
    have e : some (⟨c10, 16, Go.Proofs.Try.f10.results.toList, o10⟩ : FnI) = some i := Option.some.inj (show some (some _) = some (some i) from h)
    cases e
    exact fn10
  | 11, i, _, h => by
    have e : some (⟨c11, 10, Go.Proofs.Try.f11.results.toList, o11⟩ : FnI) = some i := Option.some.inj (show some (some _) = some (some i) from h)
    cases e
    exact fn11
  | 12, i, _, h => by
    have e : some (⟨c12, 12, Go.Proofs.Try.f12.results.toList, o12⟩ : FnI) = some i := Option.some.inj (show some (some _) = some (some i) from h)
    cases e
    exact fn12
  | 13, i, _, h => by
    have e : (none : Option FnI) = some i := Option.some.inj (show some none = some (some i) from h)
    cases e
  | 14, i, _, h => by
    have e : (none : Option FnI) = some i := Option.some.inj (show some none = some (some i) from h)
    cases e
  | 15, i, _, h => by
    have e : some (⟨c15, 37, Go.Proofs.Try.f15.results.toList, o15⟩ : FnI) = some i := Option.some.inj (show some (some _) = some (some i) from h)
    cases e
    exact fn15
  | 16, i, _, h => by
    have e : some (⟨c16, 14, Go.Proofs.Try.f16.results.toList, o16⟩ : FnI) = some i := Option.some.inj (show some (some _) = some (some i) from h)
    cases e
    exact fn16
  | 17, i, _, h => by
    have e : some (⟨c17, 27, Go.Proofs.Try.f17.results.toList, o17⟩ : FnI) = some i := Option.some.inj (show some (some _) = some (some i) from h)
    cases e
    exact fn17
  | 18, i, _, h => by
    have e : some (⟨c18, 27, Go.Proofs.Try.f18.results.toList, o18⟩ : FnI) = some i := Option.some.inj (show some (some _) = some (some i) from h)
    cases e
    exact fn18
  | 19, i, _, h => by
    have e : some (⟨c19, 15, Go.Proofs.Try.f19.results.toList, o19⟩ : FnI) = some i := Option.some.inj (show some (some _) = some (some i) from h)
    cases e
    exact fn19
  | 20, i, _, h => by
    have e : some (⟨c20, 23, Go.Proofs.Try.f20.results.toList, o20⟩ : FnI) = some i := Option.some.inj (show some (some _) = some (some i) from h)
    cases e
    exact fn20
  | 21, i, _, h => by
    have e : some (⟨c21, 25, Go.Proofs.Try.f21.results.toList, o21⟩ : FnI) = some i := Option.some.inj (show some (some _) = some (some i) from h)
    cases e
    exact fn21
  | 22, i, _, h => by
    have e : some (⟨c22, 15, Go.Proofs.Try.f22.results.toList, o22⟩ : FnI) = some i := Option.some.inj (show some (some _) = some (some i) from h)
    cases e
    exact fn22
  | 23, i, _, h => by
    have e : some (⟨c23, 27, Go.Proofs.Try.f23.results.toList, o23⟩ : FnI) = some i := Option.some.inj (show some (some _) = some (some i) from h)
    cases e
    exact fn23
  | 24, i, _, h => by
    have e : some (⟨c24, 82, Go.Proofs.Try.f24.results.toList, o24⟩ : FnI) = some i := Option.some.inj (show some (some _) = some (some i) from h)
    cases e
    exact fn24
  | 25, i, _, h => by
    have e : some (⟨c25, 100, Go.Proofs.Try.f25.results.toList, o25⟩ : FnI) = some i := Option.some.inj (show some (some _) = some (some i) from h)
    cases e
    exact fn25
  | 26, i, _, h => by
    have e : some (⟨c26, 15, Go.Proofs.Try.f26.results.toList, o26⟩ : FnI) = some i := Option.some.inj (show some (some _) = some (some i) from h)
    cases e
    exact fn26
  | 27, i, _, h => by
    have e : some (⟨c27, 42, Go.Proofs.Try.f27.results.toList, o27⟩ : FnI) = some i := Option.some.inj (show some (some _) = some (some i) from h)
    cases e
    exact fn27
  | 28, i, _, h => by
    have e : some (⟨c28, 8, Go.Proofs.Try.f28.results.toList, o28⟩ : FnI) = some i := Option.some.inj (show some (some _) = some (some i) from h)
    cases e
    exact fn28
  | 29, i, _, h => by
    have e : some (⟨c29, 25, Go.Proofs.Try.f29.results.toList, o29⟩ : FnI) = some i := Option.some.inj (show some (some _) = some (some i) from h)
    cases e
    exact fn29
  | 30, i, _, h => by
    have e : some (⟨c30, 28, Go.Proofs.Try.f30.results.toList, o30⟩ : FnI) = some i := Option.some.inj (show some (some _) = some (some i) from h)
    cases e
    exact fn30
  | 31, i, _, h => by
    have e : some (⟨c31, 12, Go.Proofs.Try.f31.results.toList, o31⟩ : FnI) = some i := Option.some.inj (show some (some _) = some (some i) from h)
    cases e
    exact fn31
  | 32, i, _, h => by
    have e : some (⟨c32, 42, Go.Proofs.Try.f32.results.toList, o32⟩ : FnI) = some i := Option.some.inj (show some (some _) = some (some i) from h)
    cases e
    exact fn32
  | 33, i, _, h => by
    have e : some (⟨c33, 20, Go.Proofs.Try.f33.results.toList, o33⟩ : FnI) = some i := Option.some.inj (show some (some _) = some (some i) from h)
    cases e
    exact fn33
  | 34, i, _, h => by
    have e : some (⟨c34, 62, Go.Proofs.Try.f34.results.toList, o34⟩ : FnI) = some i := Option.some.inj (show some (some _) = some (some i) from h)
    cases e
    exact fn34
  | 35, i, _, h => by
    have e : some (⟨c35, 44, Go.Proofs.Try.f35.results.toList, o35⟩ : FnI) = some i := Option.some.inj (show some (some _) = some (some i) from h)
    cases e
    exact fn35
  | 36, i, _, h => by
    have e : some (⟨c36, 19, Go.Proofs.Try.f36.results.toList, o36⟩ : FnI) = some i := Option.some.inj (show some (some _) = some (some i) from h)
    cases e
    exact fn36
  | 37, i, _, h => by
    have e : some (⟨c37, 74, Go.Proofs.Try.f37.results.toList, o37⟩ : FnI) = some i := Option.some.inj (show some (some _) = some (some i) from h)
    cases e
    exact fn37
  | 38, i, _, h => by
    have e : some (⟨c38, 52, Go.Proofs.Try.f38.results.toList, o38⟩ : FnI) = some i := Option.some.inj (show some (some _) = some (some i) from h)
    cases e
    exact fn38
  | 39, i, _, h => by
    have e : some (⟨c39, 21, Go.Proofs.Try.f39.results.toList, o39⟩ : FnI) = some i := Option.some.inj (show some (some _) = some (some i) from h)
    cases e
    exact fn39
  | 40, i, _, h => by
    have e : some (⟨c40, 44, Go.Proofs.Try.f40.results.toList, o40⟩ : FnI) = some i := Option.some.inj (show some (some _) = some (some i) from h)
    cases e
    exact fn40
  | 41, i, _, h => by
    have e : some (⟨c41, 19, Go.Proofs.Try.f41.results.toList, o41⟩ : FnI) = some i := Option.some.inj (show some (some _) = some (some i) from h)
    cases e
    exact fn41
  | 42, i, _, h => by
    have e : some (⟨c42, 18, Go.Proofs.Try.f42.results.toList, o42⟩ : FnI) = some i := Option.some.inj (show some (some _) = some (some i) from h)
    cases e
    exact fn42
  | 43, i, _, h => by
    have e : some (⟨c43, 12, Go.Proofs.Try.f43.results.toList, o43⟩ : FnI) = some i := Option.some.inj (show some (some _) = some (some i) from h)
    cases e
    exact fn43
  | 44, i, _, h => by
    have e : some (⟨c44, 16, Go.Proofs.Try.f44.results.toList, o44⟩ : FnI) = some i := Option.some.inj (show some (some _) = some (some i) from h)
    cases e
    exact fn44
  | 45, i, _, h => by
    have e : some (⟨c45, 22, Go.Proofs.Try.f45.results.toList, o45⟩ : FnI) = some i := Option.some.inj (show some (some _) = some (some i) from h)
    cases e
    exact fn45
  | 46, i, _, h => by
    have e : some (⟨c46, 34, Go.Proofs.Try.f46.results.toList, o46⟩ : FnI) = some i := Option.some.inj (show some (some _) = some (some i) from h)
    cases e
    exact fn46
  | 47, i, _, h => by
    have e : some (⟨c47, 6, Go.Proofs.Try.f47.results.toList, o47⟩ : FnI) = some i := Option.some.inj (show some (some _) = some (some i) from h)
    cases e
    exact fn47
  | 48, i, _, h => by
    have e : some (⟨c48, 22, Go.Proofs.Try.f48.results.toList, o48⟩ : FnI) = some i := Option.some.inj (show some (some _) = some (some i) from h)
    cases e
    exact fn48
  | 49, i, _, h => by
    have e : some (⟨c49, 26, Go.Proofs.Try.f49.results.toList, o49⟩ : FnI) = some i := Option.some.inj (show some (some _) = some (some i) from h)
    cases e
    exact fn49
  | 50, i, _, h => by
    have e : some (⟨c50, 20, Go.Proofs.Try.f50.results.toList, o50⟩ : FnI) = some i := Option.some.inj (show some (some _) = some (some i) from h)
    cases e
    exact fn50
  | 51, i, _, h => by
    have e : some (⟨c51, 22, Go.Proofs.Try.f51.results.toList, o51⟩ : FnI) = some i := Option.some.inj (show some (some _) = some (some i) from h)
    cases e
    exact fn51
  | 52, i, _, h => by
    have e : some (⟨c52, 21, Go.Proofs.Try.f52.results.toList, o52⟩ : FnI) = some i := Option.some.inj (show some (some _) = some (some i) from h)
    cases e
    exact fn52
  | 53, i, _, h => by
    have e : some (⟨c53, 14, Go.Proofs.Try.f53.results.toList, o53⟩ : FnI) = some i := Option.some.inj (show some (some _) = some (some i) from h)
    cases e
    exact fn53
  | 54, i, _, h => by
    have e : some (⟨c54, 27, Go.Proofs.Try.f54.results.toList, o54⟩ : FnI) = some i := Option.some.inj (show some (some _) = some (some i) from h)
    cases e
    exact fn54
  | 55, i, _, h => by
    have e : some (⟨c55, 27, Go.Proofs.Try.f55.results.toList, o55⟩ : FnI) = some i := Option.some.inj (show some (some _) = some (some i) from h)
    cases e
    exact fn55
  | 56, i, _, h => by
    have e : some (⟨c56, 23, Go.Proofs.Try.f56.results.toList, o56⟩ : FnI) = some i := Option.some.inj (show some (some _) = some (some i) from h)
    cases e
    exact fn56
  | 57, i, _, h => by
    have e : some (⟨c57, 23, Go.Proofs.Try.f57.results.toList, o57⟩ : FnI) = some i := Option.some.inj (show some (some _) = some (some i) from h)
    cases e
    exact fn57
  | 58, i, _, h => by
    have e : some (⟨c58, 20, Go.Proofs.Try.f58.results.toList, o58⟩ : FnI) = some i := Option.some.inj (show some (some _) = some (some i) from h)
    cases e
    exact fn58
  | 59, i, _, h => by
    have e : some (⟨c59, 9, Go.Proofs.Try.f59.results.toList, o59⟩ : FnI) = some i := Option.some.inj (show some (some _) = some (some i) from h)
    cases e
    exact fn59
  | 60, i, _, h => by
    have e : some (⟨c60, 27, Go.Proofs.Try.f60.results.toList, o60⟩ : FnI) = some i := Option.some.inj (show some (some _) = some (some i) from h)
    cases e
    exact fn60
  | 61, i, _, h => by
    have e : some (⟨c61, 27, Go.Proofs.Try.f61.results.toList, o61⟩ : FnI) = some i := Option.some.inj (show some (some _) = some (some i) from h)
    cases e
    exact fn61
  | 62, i, _, h => by
    have e : some (⟨c62, 12, Go.Proofs.Try.f62.results.toList, o62⟩ : FnI) = some i := Option.some.inj (show some (some _) = some (some i) from h)
    cases e
    exact fn62
  | 63, i, _, h => by
    have e : some (⟨c63, 19, Go.Proofs.Try.f63.results.toList, o63⟩ : FnI) = some i := Option.some.inj (show some (some _) = some (some i) from h)
    cases e
    exact fn63
  | 64, i, _, h => by
    have e : some (⟨c64, 15, Go.Proofs.Try.f64.results.toList, o64⟩ : FnI) = some i := Option.some.inj (show some (some _) = some (some i) from h)
    cases e
    exact fn64
  | 65, i, _, h => by
    have e : some (⟨c65, 18, Go.Proofs.Try.f65.results.toList, o65⟩ : FnI) = some i := Option.some.inj (show some (some _) = some (some i) from h)
    cases e
    exact fn65
  | 66, i, _, h => by
    have e : some (⟨c66, 18, Go.Proofs.Try.f66.results.toList, o66⟩ : FnI) = some i := Option.some.inj (show some (some _) = some (some i) from h)
    cases e
    exact fn66
  | 67, i, _, h => by
    have e : some (⟨c67, 21, Go.Proofs.Try.f67.results.toList, o67⟩ : FnI) = some i := Option.some.inj (show some (some _) = some (some i) from h)
    cases e
    exact fn67
  | 68, i, _, h => by
    have e : some (⟨c68, 26, Go.Proofs.Try.f68.results.toList, o68⟩ : FnI) = some i := Option.some.inj (show some (some _) = some (some i) from h)
    cases e
    exact fn68
  | 69, i, _, h => by
    have e : some (⟨c69, 12, Go.Proofs.Try.f69.results.toList, o69⟩ : FnI) = some i := Option.some.inj (show some (some _) = some (some i) from h)
    cases e
    exact fn69
  | 70, i, _, h => by
    have e : some (⟨c70, 22, Go.Proofs.Try.f70.results.toList, o70⟩ : FnI) = some i := Option.some.inj (show some (some _) = some (some i) from h)
    cases e
    exact fn70
  | 71, i, _, h => by
    have e : some (⟨c71, 26, Go.Proofs.Try.f71.results.toList, o71⟩ : FnI) = some i := Option.some.inj (show some (some _) = some (some i) from h)
    cases e
    exact fn71
  | n + 72, i, hlt, h => by omega
theorem fns0 : ∀ f i, E0.fs f = some i → FnOk Go.Proofs.Try.prog E0 f i := by
  intro f i h
  have hl : fss[f]? = some (some i) := by
    have h : (fss[f]?).getD none = some i := h
    cases hl : fss[f]? with
    | none => rw [hl] at h; cases h
    | some o => rw [hl] at h; simp only [Option.getD_some] at h; rw [h]
  refine ⟨?_, fnsB_ok code0 hl⟩
  have hlt : f < 72 := (List.getElem?_eq_some_iff.1 hl).1
  exact fnAll f i hlt hl
def J0 (w : World) : Prop := True
theorem env0 : EnvOk Go.Proofs.Try.prog E0 J0 := ⟨tabOk0, byte0, by kernel_rfl, fns0, (fun f g h => by cases h), (fun _ _ _ _ => trivial)⟩
end Go.Proofs.Ytfpmccedangjoaa.Abs
