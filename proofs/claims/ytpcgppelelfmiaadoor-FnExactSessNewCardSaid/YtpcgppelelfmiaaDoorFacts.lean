/- The facts of the program's tables (written by gen.py). -/
import Derived.Test.YtpcgppelelfmiaaDoorChecked
import Derived.Test.YtpcgppelelfmiaaDoorExt
import Derived.Test.YtpcgppelelfmiaaDoorFns
import Derived.Test.YtpcgppelelfmiaaDoorEnv
set_option linter.unusedVariables false
set_option linter.unusedSimpArgs false
set_option maxRecDepth 100000
namespace Go.Proofs.YtpcgppelelfmiaaDoor.Abs
open Go
theorem tab0 : tabB Go.Proofs.Tryd.prog 0 tis = true := by kernel_rfl
theorem code0 : fnsB E0 fss = true := by kernel_rfl
theorem tabOk0 : TabOk Go.Proofs.Tryd.prog ti0 := by
  intro t i h
  unfold ti0 at h
  cases hl : tis[t]? with
  | none => rw [hl] at h; cases h
  | some o =>
    rw [hl] at h
    simp only [Option.getD_some] at h
    subst h
    simpa using (tabB_ok tis 0 t i tab0 hl).1
theorem byte0 : ∀ t i, ti0 t = some i → i.ik = some .u8 → i.size = 1 := by
  intro t i h
  unfold ti0 at h
  cases hl : tis[t]? with
  | none => rw [hl] at h; cases h
  | some o =>
    rw [hl] at h
    simp only [Option.getD_some] at h
    subst h
    exact (tabB_ok tis 0 t i tab0 hl).2
theorem fn52 : ∃ fn, Go.Proofs.Tryd.prog.funcs[52]? = some fn ∧ (fn.name == "runtime.NumGoroutine") = false ∧ fn.body = some c52 ∧ fn.ntmps = 12 ∧ fn.results.toList = Go.Proofs.Tryd.f52.results.toList := ⟨Go.Proofs.Tryd.f52, Go.Proofs.Tryd.func52, by kernel_rfl, by kernel_rfl, rfl, rfl⟩
theorem fn12 : ∃ fn, Go.Proofs.Tryd.prog.funcs[12]? = some fn ∧ (fn.name == "runtime.NumGoroutine") = false ∧ fn.body = some c12 ∧ fn.ntmps = 19 ∧ fn.results.toList = Go.Proofs.Tryd.f12.results.toList := ⟨Go.Proofs.Tryd.f12, Go.Proofs.Tryd.func12, by kernel_rfl, by kernel_rfl, rfl, rfl⟩
theorem fn17 : ∃ fn, Go.Proofs.Tryd.prog.funcs[17]? = some fn ∧ (fn.name == "runtime.NumGoroutine") = false ∧ fn.body = some c17 ∧ fn.ntmps = 27 ∧ fn.results.toList = Go.Proofs.Tryd.f17.results.toList := ⟨Go.Proofs.Tryd.f17, Go.Proofs.Tryd.func17, by kernel_rfl, by kernel_rfl, rfl, rfl⟩
theorem fn55 : ∃ fn, Go.Proofs.Tryd.prog.funcs[55]? = some fn ∧ (fn.name == "runtime.NumGoroutine") = false ∧ fn.body = some c55 ∧ fn.ntmps = 22 ∧ fn.results.toList = Go.Proofs.Tryd.f55.results.toList := ⟨Go.Proofs.Tryd.f55, Go.Proofs.Tryd.func55, by kernel_rfl, by kernel_rfl, rfl, rfl⟩
theorem fn14 : ∃ fn, Go.Proofs.Tryd.prog.funcs[14]? = some fn ∧ (fn.name == "runtime.NumGoroutine") = false ∧ fn.body = some c14 ∧ fn.ntmps = 18 ∧ fn.results.toList = Go.Proofs.Tryd.f14.results.toList := ⟨Go.Proofs.Tryd.f14, Go.Proofs.Tryd.func14, by kernel_rfl, by kernel_rfl, rfl, rfl⟩
theorem fn19 : ∃ fn, Go.Proofs.Tryd.prog.funcs[19]? = some fn ∧ (fn.name == "runtime.NumGoroutine") = false ∧ fn.body = some c19 ∧ fn.ntmps = 23 ∧ fn.results.toList = Go.Proofs.Tryd.f19.results.toList := ⟨Go.Proofs.Tryd.f19, Go.Proofs.Tryd.func19, by kernel_rfl, by kernel_rfl, rfl, rfl⟩
theorem fn82 : ∃ fn, Go.Proofs.Tryd.prog.funcs[82]? = some fn ∧ (fn.name == "runtime.NumGoroutine") = false ∧ fn.body = some c82 ∧ fn.ntmps = 14 ∧ fn.results.toList = Go.Proofs.Tryd.f82.results.toList := ⟨Go.Proofs.Tryd.f82, Go.Proofs.Tryd.func82, by kernel_rfl, by kernel_rfl, rfl, rfl⟩
theorem fn81 : ∃ fn, Go.Proofs.Tryd.prog.funcs[81]? = some fn ∧ (fn.name == "runtime.NumGoroutine") = false ∧ fn.body = some c81 ∧ fn.ntmps = 21 ∧ fn.results.toList = Go.Proofs.Tryd.f81.results.toList := ⟨Go.Proofs.Tryd.f81, Go.Proofs.Tryd.func81, by kernel_rfl, by kernel_rfl, rfl, rfl⟩
theorem fn54 : ∃ fn, Go.Proofs.Tryd.prog.funcs[54]? = some fn ∧ (fn.name == "runtime.NumGoroutine") = false ∧ fn.body = some c54 ∧ fn.ntmps = 15 ∧ fn.results.toList = Go.Proofs.Tryd.f54.results.toList := ⟨Go.Proofs.Tryd.f54, Go.Proofs.Tryd.func54, by kernel_rfl, by kernel_rfl, rfl, rfl⟩
theorem fn109 : ∃ fn, Go.Proofs.Tryd.prog.funcs[109]? = some fn ∧ (fn.name == "runtime.NumGoroutine") = false ∧ fn.body = some c109 ∧ fn.ntmps = 104 ∧ fn.results.toList = Go.Proofs.Tryd.f109.results.toList := ⟨Go.Proofs.Tryd.f109, Go.Proofs.Tryd.func109, by kernel_rfl, by kernel_rfl, rfl, rfl⟩
theorem fn104 : ∃ fn, Go.Proofs.Tryd.prog.funcs[104]? = some fn ∧ (fn.name == "runtime.NumGoroutine") = false ∧ fn.body = some c104 ∧ fn.ntmps = 35 ∧ fn.results.toList = Go.Proofs.Tryd.f104.results.toList := ⟨Go.Proofs.Tryd.f104, Go.Proofs.Tryd.func104, by kernel_rfl, by kernel_rfl, rfl, rfl⟩
theorem fn69 : ∃ fn, Go.Proofs.Tryd.prog.funcs[69]? = some fn ∧ (fn.name == "runtime.NumGoroutine") = false ∧ fn.body = some c69 ∧ fn.ntmps = 6 ∧ fn.results.toList = Go.Proofs.Tryd.f69.results.toList := ⟨Go.Proofs.Tryd.f69, Go.Proofs.Tryd.func69, by kernel_rfl, by kernel_rfl, rfl, rfl⟩
theorem fn94 : ∃ fn, Go.Proofs.Tryd.prog.funcs[94]? = some fn ∧ (fn.name == "runtime.NumGoroutine") = false ∧ fn.body = some c94 ∧ fn.ntmps = 17 ∧ fn.results.toList = Go.Proofs.Tryd.f94.results.toList := ⟨Go.Proofs.Tryd.f94, Go.Proofs.Tryd.func94, by kernel_rfl, by kernel_rfl, rfl, rfl⟩
theorem fn95 : ∃ fn, Go.Proofs.Tryd.prog.funcs[95]? = some fn ∧ (fn.name == "runtime.NumGoroutine") = false ∧ fn.body = some c95 ∧ fn.ntmps = 33 ∧ fn.results.toList = Go.Proofs.Tryd.f95.results.toList := ⟨Go.Proofs.Tryd.f95, Go.Proofs.Tryd.func95, by kernel_rfl, by kernel_rfl, rfl, rfl⟩
theorem fn53 : ∃ fn, Go.Proofs.Tryd.prog.funcs[53]? = some fn ∧ (fn.name == "runtime.NumGoroutine") = false ∧ fn.body = some c53 ∧ fn.ntmps = 25 ∧ fn.results.toList = Go.Proofs.Tryd.f53.results.toList := ⟨Go.Proofs.Tryd.f53, Go.Proofs.Tryd.func53, by kernel_rfl, by kernel_rfl, rfl, rfl⟩
theorem fn13 : ∃ fn, Go.Proofs.Tryd.prog.funcs[13]? = some fn ∧ (fn.name == "runtime.NumGoroutine") = false ∧ fn.body = some c13 ∧ fn.ntmps = 17 ∧ fn.results.toList = Go.Proofs.Tryd.f13.results.toList := ⟨Go.Proofs.Tryd.f13, Go.Proofs.Tryd.func13, by kernel_rfl, by kernel_rfl, rfl, rfl⟩
theorem fn18 : ∃ fn, Go.Proofs.Tryd.prog.funcs[18]? = some fn ∧ (fn.name == "runtime.NumGoroutine") = false ∧ fn.body = some c18 ∧ fn.ntmps = 19 ∧ fn.results.toList = Go.Proofs.Tryd.f18.results.toList := ⟨Go.Proofs.Tryd.f18, Go.Proofs.Tryd.func18, by kernel_rfl, by kernel_rfl, rfl, rfl⟩
theorem fn39 : ∃ fn, Go.Proofs.Tryd.prog.funcs[39]? = some fn ∧ (fn.name == "runtime.NumGoroutine") = false ∧ fn.body = some c39 ∧ fn.ntmps = 31 ∧ fn.results.toList = Go.Proofs.Tryd.f39.results.toList := ⟨Go.Proofs.Tryd.f39, Go.Proofs.Tryd.func39, by kernel_rfl, by kernel_rfl, rfl, rfl⟩
theorem fn105 : ∃ fn, Go.Proofs.Tryd.prog.funcs[105]? = some fn ∧ (fn.name == "runtime.NumGoroutine") = false ∧ fn.body = some c105 ∧ fn.ntmps = 18 ∧ fn.results.toList = Go.Proofs.Tryd.f105.results.toList := ⟨Go.Proofs.Tryd.f105, Go.Proofs.Tryd.func105, by kernel_rfl, by kernel_rfl, rfl, rfl⟩
theorem fn84 : ∃ fn, Go.Proofs.Tryd.prog.funcs[84]? = some fn ∧ (fn.name == "runtime.NumGoroutine") = false ∧ fn.body = some c84 ∧ fn.ntmps = 9 ∧ fn.results.toList = Go.Proofs.Tryd.f84.results.toList := ⟨Go.Proofs.Tryd.f84, Go.Proofs.Tryd.func84, by kernel_rfl, by kernel_rfl, rfl, rfl⟩
theorem fn83 : ∃ fn, Go.Proofs.Tryd.prog.funcs[83]? = some fn ∧ (fn.name == "runtime.NumGoroutine") = false ∧ fn.body = some c83 ∧ fn.ntmps = 20 ∧ fn.results.toList = Go.Proofs.Tryd.f83.results.toList := ⟨Go.Proofs.Tryd.f83, Go.Proofs.Tryd.func83, by kernel_rfl, by kernel_rfl, rfl, rfl⟩
theorem fn98 : ∃ fn, Go.Proofs.Tryd.prog.funcs[98]? = some fn ∧ (fn.name == "runtime.NumGoroutine") = false ∧ fn.body = some c98 ∧ fn.ntmps = 5 ∧ fn.results.toList = Go.Proofs.Tryd.f98.results.toList := ⟨Go.Proofs.Tryd.f98, Go.Proofs.Tryd.func98, by kernel_rfl, by kernel_rfl, rfl, rfl⟩
theorem fn56 : ∃ fn, Go.Proofs.Tryd.prog.funcs[56]? = some fn ∧ (fn.name == "runtime.NumGoroutine") = false ∧ fn.body = some c56 ∧ fn.ntmps = 20 ∧ fn.results.toList = Go.Proofs.Tryd.f56.results.toList := ⟨Go.Proofs.Tryd.f56, Go.Proofs.Tryd.func56, by kernel_rfl, by kernel_rfl, rfl, rfl⟩
theorem fn65 : ∃ fn, Go.Proofs.Tryd.prog.funcs[65]? = some fn ∧ (fn.name == "runtime.NumGoroutine") = false ∧ fn.body = some c65 ∧ fn.ntmps = 15 ∧ fn.results.toList = Go.Proofs.Tryd.f65.results.toList := ⟨Go.Proofs.Tryd.f65, Go.Proofs.Tryd.func65, by kernel_rfl, by kernel_rfl, rfl, rfl⟩
theorem fn57 : ∃ fn, Go.Proofs.Tryd.prog.funcs[57]? = some fn ∧ (fn.name == "runtime.NumGoroutine") = false ∧ fn.body = some c57 ∧ fn.ntmps = 5 ∧ fn.results.toList = Go.Proofs.Tryd.f57.results.toList := ⟨Go.Proofs.Tryd.f57, Go.Proofs.Tryd.func57, by kernel_rfl, by kernel_rfl, rfl, rfl⟩
theorem fn15 : ∃ fn, Go.Proofs.Tryd.prog.funcs[15]? = some fn ∧ (fn.name == "runtime.NumGoroutine") = false ∧ fn.body = some c15 ∧ fn.ntmps = 17 ∧ fn.results.toList = Go.Proofs.Tryd.f15.results.toList := ⟨Go.Proofs.Tryd.f15, Go.Proofs.Tryd.func15, by kernel_rfl, by kernel_rfl, rfl, rfl⟩
theorem fn59 : ∃ fn, Go.Proofs.Tryd.prog.funcs[59]? = some fn ∧ (fn.name == "runtime.NumGoroutine") = false ∧ fn.body = some c59 ∧ fn.ntmps = 15 ∧ fn.results.toList = Go.Proofs.Tryd.f59.results.toList := ⟨Go.Proofs.Tryd.f59, Go.Proofs.Tryd.func59, by kernel_rfl, by kernel_rfl, rfl, rfl⟩
theorem fn20 : ∃ fn, Go.Proofs.Tryd.prog.funcs[20]? = some fn ∧ (fn.name == "runtime.NumGoroutine") = false ∧ fn.body = some c20 ∧ fn.ntmps = 10 ∧ fn.results.toList = Go.Proofs.Tryd.f20.results.toList := ⟨Go.Proofs.Tryd.f20, Go.Proofs.Tryd.func20, by kernel_rfl, by kernel_rfl, rfl, rfl⟩
theorem fn40 : ∃ fn, Go.Proofs.Tryd.prog.funcs[40]? = some fn ∧ (fn.name == "runtime.NumGoroutine") = false ∧ fn.body = some c40 ∧ fn.ntmps = 34 ∧ fn.results.toList = Go.Proofs.Tryd.f40.results.toList := ⟨Go.Proofs.Tryd.f40, Go.Proofs.Tryd.func40, by kernel_rfl, by kernel_rfl, rfl, rfl⟩
theorem fn58 : ∃ fn, Go.Proofs.Tryd.prog.funcs[58]? = some fn ∧ (fn.name == "runtime.NumGoroutine") = false ∧ fn.body = some c58 ∧ fn.ntmps = 26 ∧ fn.results.toList = Go.Proofs.Tryd.f58.results.toList := ⟨Go.Proofs.Tryd.f58, Go.Proofs.Tryd.func58, by kernel_rfl, by kernel_rfl, rfl, rfl⟩
theorem fn16 : ∃ fn, Go.Proofs.Tryd.prog.funcs[16]? = some fn ∧ (fn.name == "runtime.NumGoroutine") = false ∧ fn.body = some c16 ∧ fn.ntmps = 26 ∧ fn.results.toList = Go.Proofs.Tryd.f16.results.toList := ⟨Go.Proofs.Tryd.f16, Go.Proofs.Tryd.func16, by kernel_rfl, by kernel_rfl, rfl, rfl⟩
theorem fn21 : ∃ fn, Go.Proofs.Tryd.prog.funcs[21]? = some fn ∧ (fn.name == "runtime.NumGoroutine") = false ∧ fn.body = some c21 ∧ fn.ntmps = 27 ∧ fn.results.toList = Go.Proofs.Tryd.f21.results.toList := ⟨Go.Proofs.Tryd.f21, Go.Proofs.Tryd.func21, by kernel_rfl, by kernel_rfl, rfl, rfl⟩
theorem fn85 : ∃ fn, Go.Proofs.Tryd.prog.funcs[85]? = some fn ∧ (fn.name == "runtime.NumGoroutine") = false ∧ fn.body = some c85 ∧ fn.ntmps = 20 ∧ fn.results.toList = Go.Proofs.Tryd.f85.results.toList := ⟨Go.Proofs.Tryd.f85, Go.Proofs.Tryd.func85, by kernel_rfl, by kernel_rfl, rfl, rfl⟩
theorem fn86 : ∃ fn, Go.Proofs.Tryd.prog.funcs[86]? = some fn ∧ (fn.name == "runtime.NumGoroutine") = false ∧ fn.body = some c86 ∧ fn.ntmps = 20 ∧ fn.results.toList = Go.Proofs.Tryd.f86.results.toList := ⟨Go.Proofs.Tryd.f86, Go.Proofs.Tryd.func86, by kernel_rfl, by kernel_rfl, rfl, rfl⟩
theorem fn41 : ∃ fn, Go.Proofs.Tryd.prog.funcs[41]? = some fn ∧ (fn.name == "runtime.NumGoroutine") = false ∧ fn.body = some c41 ∧ fn.ntmps = 44 ∧ fn.results.toList = Go.Proofs.Tryd.f41.results.toList := ⟨Go.Proofs.Tryd.f41, Go.Proofs.Tryd.func41, by kernel_rfl, by kernel_rfl, rfl, rfl⟩
theorem fn42 : ∃ fn, Go.Proofs.Tryd.prog.funcs[42]? = some fn ∧ (fn.name == "runtime.NumGoroutine") = false ∧ fn.body = some c42 ∧ fn.ntmps = 10 ∧ fn.results.toList = Go.Proofs.Tryd.f42.results.toList := ⟨Go.Proofs.Tryd.f42, Go.Proofs.Tryd.func42, by kernel_rfl, by kernel_rfl, rfl, rfl⟩
theorem fn87 : ∃ fn, Go.Proofs.Tryd.prog.funcs[87]? = some fn ∧ (fn.name == "runtime.NumGoroutine") = false ∧ fn.body = some c87 ∧ fn.ntmps = 22 ∧ fn.results.toList = Go.Proofs.Tryd.f87.results.toList := ⟨Go.Proofs.Tryd.f87, Go.Proofs.Tryd.func87, by kernel_rfl, by kernel_rfl, rfl, rfl⟩
theorem fn43 : ∃ fn, Go.Proofs.Tryd.prog.funcs[43]? = some fn ∧ (fn.name == "runtime.NumGoroutine") = false ∧ fn.body = some c43 ∧ fn.ntmps = 52 ∧ fn.results.toList = Go.Proofs.Tryd.f43.results.toList := ⟨Go.Proofs.Tryd.f43, Go.Proofs.Tryd.func43, by kernel_rfl, by kernel_rfl, rfl, rfl⟩
theorem fn9 : ∃ fn, Go.Proofs.Tryd.prog.funcs[9]? = some fn ∧ (fn.name == "runtime.NumGoroutine") = false ∧ fn.body = some c9 ∧ fn.ntmps = 119 ∧ fn.results.toList = Go.Proofs.Tryd.f9.results.toList := ⟨Go.Proofs.Tryd.f9, Go.Proofs.Tryd.func9, by kernel_rfl, by kernel_rfl, rfl, rfl⟩
theorem fn99 : ∃ fn, Go.Proofs.Tryd.prog.funcs[99]? = some fn ∧ (fn.name == "runtime.NumGoroutine") = false ∧ fn.body = some c99 ∧ fn.ntmps = 12 ∧ fn.results.toList = Go.Proofs.Tryd.f99.results.toList := ⟨Go.Proofs.Tryd.f99, Go.Proofs.Tryd.func99, by kernel_rfl, by kernel_rfl, rfl, rfl⟩
theorem fn60 : ∃ fn, Go.Proofs.Tryd.prog.funcs[60]? = some fn ∧ (fn.name == "runtime.NumGoroutine") = false ∧ fn.body = some c60 ∧ fn.ntmps = 27 ∧ fn.results.toList = Go.Proofs.Tryd.f60.results.toList := ⟨Go.Proofs.Tryd.f60, Go.Proofs.Tryd.func60, by kernel_rfl, by kernel_rfl, rfl, rfl⟩
theorem fn22 : ∃ fn, Go.Proofs.Tryd.prog.funcs[22]? = some fn ∧ (fn.name == "runtime.NumGoroutine") = false ∧ fn.body = some c22 ∧ fn.ntmps = 18 ∧ fn.results.toList = Go.Proofs.Tryd.f22.results.toList := ⟨Go.Proofs.Tryd.f22, Go.Proofs.Tryd.func22, by kernel_rfl, by kernel_rfl, rfl, rfl⟩
theorem fn100 : ∃ fn, Go.Proofs.Tryd.prog.funcs[100]? = some fn ∧ (fn.name == "runtime.NumGoroutine") = false ∧ fn.body = some c100 ∧ fn.ntmps = 15 ∧ fn.results.toList = Go.Proofs.Tryd.f100.results.toList := ⟨Go.Proofs.Tryd.f100, Go.Proofs.Tryd.func100, by kernel_rfl, by kernel_rfl, rfl, rfl⟩
theorem fn62 : ∃ fn, Go.Proofs.Tryd.prog.funcs[62]? = some fn ∧ (fn.name == "runtime.NumGoroutine") = false ∧ fn.body = some c62 ∧ fn.ntmps = 23 ∧ fn.results.toList = Go.Proofs.Tryd.f62.results.toList := ⟨Go.Proofs.Tryd.f62, Go.Proofs.Tryd.func62, by kernel_rfl, by kernel_rfl, rfl, rfl⟩
theorem fn24 : ∃ fn, Go.Proofs.Tryd.prog.funcs[24]? = some fn ∧ (fn.name == "runtime.NumGoroutine") = false ∧ fn.body = some c24 ∧ fn.ntmps = 16 ∧ fn.results.toList = Go.Proofs.Tryd.f24.results.toList := ⟨Go.Proofs.Tryd.f24, Go.Proofs.Tryd.func24, by kernel_rfl, by kernel_rfl, rfl, rfl⟩
theorem fn88 : ∃ fn, Go.Proofs.Tryd.prog.funcs[88]? = some fn ∧ (fn.name == "runtime.NumGoroutine") = false ∧ fn.body = some c88 ∧ fn.ntmps = 44 ∧ fn.results.toList = Go.Proofs.Tryd.f88.results.toList := ⟨Go.Proofs.Tryd.f88, Go.Proofs.Tryd.func88, by kernel_rfl, by kernel_rfl, rfl, rfl⟩
theorem fn61 : ∃ fn, Go.Proofs.Tryd.prog.funcs[61]? = some fn ∧ (fn.name == "runtime.NumGoroutine") = false ∧ fn.body = some c61 ∧ fn.ntmps = 24 ∧ fn.results.toList = Go.Proofs.Tryd.f61.results.toList := ⟨Go.Proofs.Tryd.f61, Go.Proofs.Tryd.func61, by kernel_rfl, by kernel_rfl, rfl, rfl⟩
theorem fn23 : ∃ fn, Go.Proofs.Tryd.prog.funcs[23]? = some fn ∧ (fn.name == "runtime.NumGoroutine") = false ∧ fn.body = some c23 ∧ fn.ntmps = 71 ∧ fn.results.toList = Go.Proofs.Tryd.f23.results.toList := ⟨Go.Proofs.Tryd.f23, Go.Proofs.Tryd.func23, by kernel_rfl, by kernel_rfl, rfl, rfl⟩
theorem fn44 : ∃ fn, Go.Proofs.Tryd.prog.funcs[44]? = some fn ∧ (fn.name == "runtime.NumGoroutine") = false ∧ fn.body = some c44 ∧ fn.ntmps = 26 ∧ fn.results.toList = Go.Proofs.Tryd.f44.results.toList := ⟨Go.Proofs.Tryd.f44, Go.Proofs.Tryd.func44, by kernel_rfl, by kernel_rfl, rfl, rfl⟩
theorem fn89 : ∃ fn, Go.Proofs.Tryd.prog.funcs[89]? = some fn ∧ (fn.name == "runtime.NumGoroutine") = false ∧ fn.body = some c89 ∧ fn.ntmps = 34 ∧ fn.results.toList = Go.Proofs.Tryd.f89.results.toList := ⟨Go.Proofs.Tryd.f89, Go.Proofs.Tryd.func89, by kernel_rfl, by kernel_rfl, rfl, rfl⟩
theorem fn63 : ∃ fn, Go.Proofs.Tryd.prog.funcs[63]? = some fn ∧ (fn.name == "runtime.NumGoroutine") = false ∧ fn.body = some c63 ∧ fn.ntmps = 5 ∧ fn.results.toList = Go.Proofs.Tryd.f63.results.toList := ⟨Go.Proofs.Tryd.f63, Go.Proofs.Tryd.func63, by kernel_rfl, by kernel_rfl, rfl, rfl⟩
theorem fn102 : ∃ fn, Go.Proofs.Tryd.prog.funcs[102]? = some fn ∧ (fn.name == "runtime.NumGoroutine") = false ∧ fn.body = some c102 ∧ fn.ntmps = 8 ∧ fn.results.toList = Go.Proofs.Tryd.f102.results.toList := ⟨Go.Proofs.Tryd.f102, Go.Proofs.Tryd.func102, by kernel_rfl, by kernel_rfl, rfl, rfl⟩
theorem fn101 : ∃ fn, Go.Proofs.Tryd.prog.funcs[101]? = some fn ∧ (fn.name == "runtime.NumGoroutine") = false ∧ fn.body = some c101 ∧ fn.ntmps = 19 ∧ fn.results.toList = Go.Proofs.Tryd.f101.results.toList := ⟨Go.Proofs.Tryd.f101, Go.Proofs.Tryd.func101, by kernel_rfl, by kernel_rfl, rfl, rfl⟩
theorem fn64 : ∃ fn, Go.Proofs.Tryd.prog.funcs[64]? = some fn ∧ (fn.name == "runtime.NumGoroutine") = false ∧ fn.body = some c64 ∧ fn.ntmps = 8 ∧ fn.results.toList = Go.Proofs.Tryd.f64.results.toList := ⟨Go.Proofs.Tryd.f64, Go.Proofs.Tryd.func64, by kernel_rfl, by kernel_rfl, rfl, rfl⟩
theorem fn66 : ∃ fn, Go.Proofs.Tryd.prog.funcs[66]? = some fn ∧ (fn.name == "runtime.NumGoroutine") = false ∧ fn.body = some c66 ∧ fn.ntmps = 5 ∧ fn.results.toList = Go.Proofs.Tryd.f66.results.toList := ⟨Go.Proofs.Tryd.f66, Go.Proofs.Tryd.func66, by kernel_rfl, by kernel_rfl, rfl, rfl⟩
theorem fn25 : ∃ fn, Go.Proofs.Tryd.prog.funcs[25]? = some fn ∧ (fn.name == "runtime.NumGoroutine") = false ∧ fn.body = some c25 ∧ fn.ntmps = 67 ∧ fn.results.toList = Go.Proofs.Tryd.f25.results.toList := ⟨Go.Proofs.Tryd.f25, Go.Proofs.Tryd.func25, by kernel_rfl, by kernel_rfl, rfl, rfl⟩
theorem fn45 : ∃ fn, Go.Proofs.Tryd.prog.funcs[45]? = some fn ∧ (fn.name == "runtime.NumGoroutine") = false ∧ fn.body = some c45 ∧ fn.ntmps = 26 ∧ fn.results.toList = Go.Proofs.Tryd.f45.results.toList := ⟨Go.Proofs.Tryd.f45, Go.Proofs.Tryd.func45, by kernel_rfl, by kernel_rfl, rfl, rfl⟩
theorem fn103 : ∃ fn, Go.Proofs.Tryd.prog.funcs[103]? = some fn ∧ (fn.name == "runtime.NumGoroutine") = false ∧ fn.body = some c103 ∧ fn.ntmps = 21 ∧ fn.results.toList = Go.Proofs.Tryd.f103.results.toList := ⟨Go.Proofs.Tryd.f103, Go.Proofs.Tryd.func103, by kernel_rfl, by kernel_rfl, rfl, rfl⟩
theorem fn67 : ∃ fn, Go.Proofs.Tryd.prog.funcs[67]? = some fn ∧ (fn.name == "runtime.NumGoroutine") = false ∧ fn.body = some c67 ∧ fn.ntmps = 27 ∧ fn.results.toList = Go.Proofs.Tryd.f67.results.toList := ⟨Go.Proofs.Tryd.f67, Go.Proofs.Tryd.func67, by kernel_rfl, by kernel_rfl, rfl, rfl⟩
theorem fn26 : ∃ fn, Go.Proofs.Tryd.prog.funcs[26]? = some fn ∧ (fn.name == "runtime.NumGoroutine") = false ∧ fn.body = some c26 ∧ fn.ntmps = 22 ∧ fn.results.toList = Go.Proofs.Tryd.f26.results.toList := ⟨Go.Proofs.Tryd.f26, Go.Proofs.Tryd.func26, by kernel_rfl, by kernel_rfl, rfl, rfl⟩
theorem fn90 : ∃ fn, Go.Proofs.Tryd.prog.funcs[90]? = some fn ∧ (fn.name == "runtime.NumGoroutine") = false ∧ fn.body = some c90 ∧ fn.ntmps = 62 ∧ fn.results.toList = Go.Proofs.Tryd.f90.results.toList := ⟨Go.Proofs.Tryd.f90, Go.Proofs.Tryd.func90, by kernel_rfl, by kernel_rfl, rfl, rfl⟩
theorem fn46 : ∃ fn, Go.Proofs.Tryd.prog.funcs[46]? = some fn ∧ (fn.name == "runtime.NumGoroutine") = false ∧ fn.body = some c46 ∧ fn.ntmps = 14 ∧ fn.results.toList = Go.Proofs.Tryd.f46.results.toList := ⟨Go.Proofs.Tryd.f46, Go.Proofs.Tryd.func46, by kernel_rfl, by kernel_rfl, rfl, rfl⟩
theorem fn91 : ∃ fn, Go.Proofs.Tryd.prog.funcs[91]? = some fn ∧ (fn.name == "runtime.NumGoroutine") = false ∧ fn.body = some c91 ∧ fn.ntmps = 74 ∧ fn.results.toList = Go.Proofs.Tryd.f91.results.toList := ⟨Go.Proofs.Tryd.f91, Go.Proofs.Tryd.func91, by kernel_rfl, by kernel_rfl, rfl, rfl⟩
theorem fn47 : ∃ fn, Go.Proofs.Tryd.prog.funcs[47]? = some fn ∧ (fn.name == "runtime.NumGoroutine") = false ∧ fn.body = some c47 ∧ fn.ntmps = 18 ∧ fn.results.toList = Go.Proofs.Tryd.f47.results.toList := ⟨Go.Proofs.Tryd.f47, Go.Proofs.Tryd.func47, by kernel_rfl, by kernel_rfl, rfl, rfl⟩
theorem fn10 : ∃ fn, Go.Proofs.Tryd.prog.funcs[10]? = some fn ∧ (fn.name == "runtime.NumGoroutine") = false ∧ fn.body = some c10 ∧ fn.ntmps = 119 ∧ fn.results.toList = Go.Proofs.Tryd.f10.results.toList := ⟨Go.Proofs.Tryd.f10, Go.Proofs.Tryd.func10, by kernel_rfl, by kernel_rfl, rfl, rfl⟩
theorem fn70 : ∃ fn, Go.Proofs.Tryd.prog.funcs[70]? = some fn ∧ (fn.name == "runtime.NumGoroutine") = false ∧ fn.body = some c70 ∧ fn.ntmps = 35 ∧ fn.results.toList = Go.Proofs.Tryd.f70.results.toList := ⟨Go.Proofs.Tryd.f70, Go.Proofs.Tryd.func70, by kernel_rfl, by kernel_rfl, rfl, rfl⟩
theorem fn30 : ∃ fn, Go.Proofs.Tryd.prog.funcs[30]? = some fn ∧ (fn.name == "runtime.NumGoroutine") = false ∧ fn.body = some c30 ∧ fn.ntmps = 48 ∧ fn.results.toList = Go.Proofs.Tryd.f30.results.toList := ⟨Go.Proofs.Tryd.f30, Go.Proofs.Tryd.func30, by kernel_rfl, by kernel_rfl, rfl, rfl⟩
theorem fn48 : ∃ fn, Go.Proofs.Tryd.prog.funcs[48]? = some fn ∧ (fn.name == "runtime.NumGoroutine") = false ∧ fn.body = some c48 ∧ fn.ntmps = 23 ∧ fn.results.toList = Go.Proofs.Tryd.f48.results.toList := ⟨Go.Proofs.Tryd.f48, Go.Proofs.Tryd.func48, by kernel_rfl, by kernel_rfl, rfl, rfl⟩
theorem fn72 : ∃ fn, Go.Proofs.Tryd.prog.funcs[72]? = some fn ∧ (fn.name == "runtime.NumGoroutine") = false ∧ fn.body = some c72 ∧ fn.ntmps = 9 ∧ fn.results.toList = Go.Proofs.Tryd.f72.results.toList := ⟨Go.Proofs.Tryd.f72, Go.Proofs.Tryd.func72, by kernel_rfl, by kernel_rfl, rfl, rfl⟩
theorem fn73 : ∃ fn, Go.Proofs.Tryd.prog.funcs[73]? = some fn ∧ (fn.name == "runtime.NumGoroutine") = false ∧ fn.body = some c73 ∧ fn.ntmps = 21 ∧ fn.results.toList = Go.Proofs.Tryd.f73.results.toList := ⟨Go.Proofs.Tryd.f73, Go.Proofs.Tryd.func73, by kernel_rfl, by kernel_rfl, rfl, rfl⟩
theorem fn74 : ∃ fn, Go.Proofs.Tryd.prog.funcs[74]? = some fn ∧ (fn.name == "runtime.NumGoroutine") = false ∧ fn.body = some c74 ∧ fn.ntmps = 32 ∧ fn.results.toList = Go.Proofs.Tryd.f74.results.toList := ⟨Go.Proofs.Tryd.f74, Go.Proofs.Tryd.func74, by kernel_rfl, by kernel_rfl, rfl, rfl⟩
theorem fn32 : ∃ fn, Go.Proofs.Tryd.prog.funcs[32]? = some fn ∧ (fn.name == "runtime.NumGoroutine") = false ∧ fn.body = some c32 ∧ fn.ntmps = 30 ∧ fn.results.toList = Go.Proofs.Tryd.f32.results.toList := ⟨Go.Proofs.Tryd.f32, Go.Proofs.Tryd.func32, by kernel_rfl, by kernel_rfl, rfl, rfl⟩
theorem fn49 : ∃ fn, Go.Proofs.Tryd.prog.funcs[49]? = some fn ∧ (fn.name == "runtime.NumGoroutine") = false ∧ fn.body = some c49 ∧ fn.ntmps = 23 ∧ fn.results.toList = Go.Proofs.Tryd.f49.results.toList := ⟨Go.Proofs.Tryd.f49, Go.Proofs.Tryd.func49, by kernel_rfl, by kernel_rfl, rfl, rfl⟩
theorem fn75 : ∃ fn, Go.Proofs.Tryd.prog.funcs[75]? = some fn ∧ (fn.name == "runtime.NumGoroutine") = false ∧ fn.body = some c75 ∧ fn.ntmps = 26 ∧ fn.results.toList = Go.Proofs.Tryd.f75.results.toList := ⟨Go.Proofs.Tryd.f75, Go.Proofs.Tryd.func75, by kernel_rfl, by kernel_rfl, rfl, rfl⟩
theorem fn33 : ∃ fn, Go.Proofs.Tryd.prog.funcs[33]? = some fn ∧ (fn.name == "runtime.NumGoroutine") = false ∧ fn.body = some c33 ∧ fn.ntmps = 42 ∧ fn.results.toList = Go.Proofs.Tryd.f33.results.toList := ⟨Go.Proofs.Tryd.f33, Go.Proofs.Tryd.func33, by kernel_rfl, by kernel_rfl, rfl, rfl⟩
theorem fn92 : ∃ fn, Go.Proofs.Tryd.prog.funcs[92]? = some fn ∧ (fn.name == "runtime.NumGoroutine") = false ∧ fn.body = some c92 ∧ fn.ntmps = 19 ∧ fn.results.toList = Go.Proofs.Tryd.f92.results.toList := ⟨Go.Proofs.Tryd.f92, Go.Proofs.Tryd.func92, by kernel_rfl, by kernel_rfl, rfl, rfl⟩
theorem fn50 : ∃ fn, Go.Proofs.Tryd.prog.funcs[50]? = some fn ∧ (fn.name == "runtime.NumGoroutine") = false ∧ fn.body = some c50 ∧ fn.ntmps = 14 ∧ fn.results.toList = Go.Proofs.Tryd.f50.results.toList := ⟨Go.Proofs.Tryd.f50, Go.Proofs.Tryd.func50, by kernel_rfl, by kernel_rfl, rfl, rfl⟩
theorem fn93 : ∃ fn, Go.Proofs.Tryd.prog.funcs[93]? = some fn ∧ (fn.name == "runtime.NumGoroutine") = false ∧ fn.body = some c93 ∧ fn.ntmps = 21 ∧ fn.results.toList = Go.Proofs.Tryd.f93.results.toList := ⟨Go.Proofs.Tryd.f93, Go.Proofs.Tryd.func93, by kernel_rfl, by kernel_rfl, rfl, rfl⟩
theorem fn51 : ∃ fn, Go.Proofs.Tryd.prog.funcs[51]? = some fn ∧ (fn.name == "runtime.NumGoroutine") = false ∧ fn.body = some c51 ∧ fn.ntmps = 18 ∧ fn.results.toList = Go.Proofs.Tryd.f51.results.toList := ⟨Go.Proofs.Tryd.f51, Go.Proofs.Tryd.func51, by kernel_rfl, by kernel_rfl, rfl, rfl⟩
theorem fn11 : ∃ fn, Go.Proofs.Tryd.prog.funcs[11]? = some fn ∧ (fn.name == "runtime.NumGoroutine") = false ∧ fn.body = some c11 ∧ fn.ntmps = 64 ∧ fn.results.toList = Go.Proofs.Tryd.f11.results.toList := ⟨Go.Proofs.Tryd.f11, Go.Proofs.Tryd.func11, by kernel_rfl, by kernel_rfl, rfl, rfl⟩
theorem fnAll : ∀ (f : Nat) (i : FnI), f < 110 → fss[f]? = some (some i) → ∃ fn, Go.Proofs.Tryd.prog.funcs[f]? = some fn ∧ (fn.name == "runtime.NumGoroutine") = false ∧ fn.body = some i.body ∧ fn.ntmps = i.ntmps ∧ fn.results.toList = i.results
  | 0, i, _, h => by
    have e : (none : Option FnI) = some i := Option.some.inj (show some none = some (some i) from h)
    cases e
  | 1, i, _, h => by
    have e : (none : Option FnI) = some i := Option.some.inj (show some none = some (some i) from h)
    cases e
  | 2, i, _, h => by
    have e : (none : Option FnI) = some i := Option.some.inj (show some none = some (some i) from h)
    cases e
  | 3, i, _, h => by
    have e : (none : Option FnI) = some i := Option.some.inj (show some none = some (some i) from h)
    cases e
  | 4, i, _, h => by
    have e : (none : Option FnI) = some i := Option.some.inj (show some none = some (some i) from h)
    cases e
  | 5, i, _, h => by
    have e : (none : Option FnI) = some i := Option.some.inj (show some none = some (some i) from h)
    cases e
  | 6, i, _, h => by
    have e : (none : Option FnI) = some i := Option.some.inj (show some none = some (some i) from h)
    cases e
  | 7, i, _, h => by
    have e : (none : Option FnI) = some i := Option.some.inj (show some none = some (some i) from h)
    cases e
  | 8, i, _, h => by
    have e : (none : Option FnI) = some i := Option.some.inj (show some none = some (some i) from h)
    cases e
  | 9, i, _, h => by
    have e : some (⟨c9, 119, Go.Proofs.Tryd.f9.results.toList, o9⟩ : FnI) = some i := Option.some.inj (show some (some _) = some (some i) from h)
    cases e
    exact fn9
  | 10, i, _, h => by
    have e : some (⟨c10, 119, Go.Proofs.Tryd.f10.results.toList, o10⟩ : FnI) = some i := Option.some.inj (show some (some _) = some (some i) from h)
    cases e
    exact fn10
  | 11, i, _, h => by
    have e : some (⟨c11, 64, Go.Proofs.Tryd.f11.results.toList, o11⟩ : FnI) = some i := Option.some.inj (show some (some _) = some (some i) from h)
    cases e
    exact fn11
  | 12, i, _, h => by
    have e : some (⟨c12, 19, Go.Proofs.Tryd.f12.results.toList, o12⟩ : FnI) = some i := Option.some.inj (show some (some _) = some (some i) from h)
    cases e
    exact fn12
  | 13, i, _, h => by
    have e : some (⟨c13, 17, Go.Proofs.Tryd.f13.results.toList, o13⟩ : FnI) = some i := Option.some.inj (show some (some _) = some (some i) from h)
    cases e
    exact fn13
  | 14, i, _, h => by
    have e : some (⟨c14, 18, Go.Proofs.Tryd.f14.results.toList, o14⟩ : FnI) = some i := Option.some.inj (show some (some _) = some (some i) from h)
    cases e
    exact fn14
  | 15, i, _, h => by
    have e : some (⟨c15, 17, Go.Proofs.Tryd.f15.results.toList, o15⟩ : FnI) = some i := Option.some.inj (show some (some _) = some (some i) from h)
    cases e
    exact fn15
  | 16, i, _, h => by
    have e : some (⟨c16, 26, Go.Proofs.Tryd.f16.results.toList, o16⟩ : FnI) = some i := Option.some.inj (show some (some _) = some (some i) from h)
    cases e
    exact fn16
  | 17, i, _, h => by
    have e : some (⟨c17, 27, Go.Proofs.Tryd.f17.results.toList, o17⟩ : FnI) = some i := Option.some.inj (show some (some _) = some (some i) from h)
    cases e
    exact fn17
  | 18, i, _, h => by
    have e : some (⟨c18, 19, Go.Proofs.Tryd.f18.results.toList, o18⟩ : FnI) = some i := Option.some.inj (show some (some _) = some (some i) from h)
    cases e
    exact fn18
  | 19, i, _, h => by
    have e : some (⟨c19, 23, Go.Proofs.Tryd.f19.results.toList, o19⟩ : FnI) = some i := Option.some.inj (show some (some _) = some (some i) from h)
    cases e
    exact fn19
  | 20, i, _, h => by
    have e : some (⟨c20, 10, Go.Proofs.Tryd.f20.results.toList, o20⟩ : FnI) = some i := Option.some.inj (show some (some _) = some (some i) from h)
    cases e
    exact fn20
  | 21, i, _, h => by
    have e : some (⟨c21, 27, Go.Proofs.Tryd.f21.results.toList, o21⟩ : FnI) = some i := Option.some.inj (show some (some _) = some (some i) from h)
    cases e
    exact fn21
  | 22, i, _, h => by
    have e : some (⟨c22, 18, Go.Proofs.Tryd.f22.results.toList, o22⟩ : FnI) = some i := Option.some.inj (show some (some _) = some (some i) from h)
    cases e
    exact fn22
  | 23, i, _, h => by
    have e : some (⟨c23, 71, Go.Proofs.Tryd.f23.results.toList, o23⟩ : FnI) = some i := Option.some.inj (show some (some _) = some (some i) from h)
    cases e
    exact fn23
  | 24, i, _, h => by
    have e : some (⟨c24, 16, Go.Proofs.Tryd.f24.results.toList, o24⟩ : FnI) = some i := Option.some.inj (show some (some _) = some (some i) from h)
    cases e
    exact fn24
  | 25, i, _, h => by
    have e : some (⟨c25, 67, Go.Proofs.Tryd.f25.results.toList, o25⟩ : FnI) = some i := Option.some.inj (show some (some _) = some (some i) from h)
    cases e
    exact fn25
  | 26, i, _, h => by
    have e : some (⟨c26, 22, Go.Proofs.Tryd.f26.results.toList, o26⟩ : FnI) = some i := Option.some.inj (show some (some _) = some (some i) from h)
    cases e
    exact fn26
  | 27, i, _, h => by
    have e : (none : Option FnI) = some i := Option.some.inj (show some none = some (some i) from h)
    cases e
  | 28, i, _, h => by
    have e : (none : Option FnI) = some i := Option.some.inj (show some none = some (some i) from h)
    cases e
  | 29, i, _, h => by
    have e : (none : Option FnI) = some i := Option.some.inj (show some none = some (some i) from h)
    cases e
  | 30, i, _, h => by
    have e : some (⟨c30, 48, Go.Proofs.Tryd.f30.results.toList, o30⟩ : FnI) = some i := Option.some.inj (show some (some _) = some (some i) from h)
    cases e
    exact fn30
  | 31, i, _, h => by
    have e : (none : Option FnI) = some i := Option.some.inj (show some none = some (some i) from h)
    cases e
  | 32, i, _, h => by
    have e : some (⟨c32, 30, Go.Proofs.Tryd.f32.results.toList, o32⟩ : FnI) = some i := Option.some.inj (show some (some _) = some (some i) from h)
    cases e
    exact fn32
  | 33, i, _, h => by
    have e : some (⟨c33, 42, Go.Proofs.Tryd.f33.results.toList, o33⟩ : FnI) = some i := Option.some.inj (show some (some _) = some (some i) from h)
    cases e
    exact fn33
  | 34, i, _, h => by
    have e : (none : Option FnI) = some i := Option.some.inj (show some none = some (some i) from h)
    cases e
  | 35, i, _, h => by
    have e : (none : Option FnI) = some i := Option.some.inj (show some none = some (some i) from h)
    cases e
  | 36, i, _, h => by
    have e : (none : Option FnI) = some i := Option.some.inj (show some none = some (some i) from h)
    cases e
  | 37, i, _, h => by
    have e : (none : Option FnI) = some i := Option.some.inj (show some none = some (some i) from h)
    cases e
  | 38, i, _, h => by
    have e : (none : Option FnI) = some i := Option.some.inj (show some none = some (some i) from h)
    cases e
  | 39, i, _, h => by
    have e : some (⟨c39, 31, Go.Proofs.Tryd.f39.results.toList, o39⟩ : FnI) = some i := Option.some.inj (show some (some _) = some (some i) from h)
    cases e
    exact fn39
  | 40, i, _, h => by
    have e : some (⟨c40, 34, Go.Proofs.Tryd.f40.results.toList, o40⟩ : FnI) = some i := Option.some.inj (show some (some _) = some (some i) from h)
    cases e
    exact fn40
  | 41, i, _, h => by
    have e : some (⟨c41, 44, Go.Proofs.Tryd.f41.results.toList, o41⟩ : FnI) = some i := Option.some.inj (show some (some _) = some (some i) from h)
    cases e
    exact fn41
  | 42, i, _, h => by
    have e : some (⟨c42, 10, Go.Proofs.Tryd.f42.results.toList, o42⟩ : FnI) = some i := Option.some.inj (show some (some _) = some (some i) from h)
    cases e
    exact fn42
  | 43, i, _, h => by
    have e : some (⟨c43, 52, Go.Proofs.Tryd.f43.results.toList, o43⟩ : FnI) = some i := Option.some.inj (show some (some _) = some (some i) from h)
    cases e
    exact fn43
  | 44, i, _, h => by
    have e : some (⟨c44, 26, Go.Proofs.Tryd.f44.results.toList, o44⟩ : FnI) = some i := Option.some.inj (show some (some _) = some (some i) from h)
    cases e
    exact fn44
  | 45, i, _, h => by
    have e : some (⟨c45, 26, Go.Proofs.Tryd.f45.results.toList, o45⟩ : FnI) = some i := Option.some.inj (show some (some _) = some (some i) from h)
    cases e
    exact fn45
  | 46, i, _, h => by
    have e : some (⟨c46, 14, Go.Proofs.Tryd.f46.results.toList, o46⟩ : FnI) = some i := Option.some.inj (show some (some _) = some (some i) from h)
    cases e
    exact fn46
  | 47, i, _, h => by
    have e : some (⟨c47, 18, Go.Proofs.Tryd.f47.results.toList, o47⟩ : FnI) = some i := Option.some.inj (show some (some _) = some (some i) from h)
    cases e
    exact fn47
  | 48, i, _, h => by
    have e : some (⟨c48, 23, Go.Proofs.Tryd.f48.results.toList, o48⟩ : FnI) = some i := Option.some.inj (show some (some _) = some (some i) from h)
    cases e
    exact fn48
  | 49, i, _, h => by
    have e : some (⟨c49, 23, Go.Proofs.Tryd.f49.results.toList, o49⟩ : FnI) = some i := Option.some.inj (show some (some _) = some (some i) from h)
    cases e
    exact fn49
  | 50, i, _, h => by
    have e : some (⟨c50, 14, Go.Proofs.Tryd.f50.results.toList, o50⟩ : FnI) = some i := Option.some.inj (show some (some _) = some (some i) from h)
    cases e
    exact fn50
  | 51, i, _, h => by
    have e : some (⟨c51, 18, Go.Proofs.Tryd.f51.results.toList, o51⟩ : FnI) = some i := Option.some.inj (show some (some _) = some (some i) from h)
    cases e
    exact fn51
  | 52, i, _, h => by
    have e : some (⟨c52, 12, Go.Proofs.Tryd.f52.results.toList, o52⟩ : FnI) = some i := Option.some.inj (show some (some _) = some (some i) from h)
    cases e
    exact fn52
  | 53, i, _, h => by
    have e : some (⟨c53, 25, Go.Proofs.Tryd.f53.results.toList, o53⟩ : FnI) = some i := Option.some.inj (show some (some _) = some (some i) from h)
    cases e
    exact fn53
  | 54, i, _, h => by
    have e : some (⟨c54, 15, Go.Proofs.Tryd.f54.results.toList, o54⟩ : FnI) = some i := Option.some.inj (show some (some _) = some (some i) from h)
    cases e
    exact fn54
  | 55, i, _, h => by
    have e : some (⟨c55, 22, Go.Proofs.Tryd.f55.results.toList, o55⟩ : FnI) = some i := Option.some.inj (show some (some _) = some (some i) from h)
    cases e
    exact fn55
  | 56, i, _, h => by
    have e : some (⟨c56, 20, Go.Proofs.Tryd.f56.results.toList, o56⟩ : FnI) = some i := Option.some.inj (show some (some _) = some (some i) from h)
    cases e
    exact fn56
  | 57, i, _, h => by
    have e : some (⟨c57, 5, Go.Proofs.Tryd.f57.results.toList, o57⟩ : FnI) = some i := Option.some.inj (show some (some _) = some (some i) from h)
    cases e
    exact fn57
  | 58, i, _, h => by
    have e : some (⟨c58, 26, Go.Proofs.Tryd.f58.results.toList, o58⟩ : FnI) = some i := Option.some.inj (show some (some _) = some (some i) from h)
    cases e
    exact fn58
  | 59, i, _, h => by
    have e : some (⟨c59, 15, Go.Proofs.Tryd.f59.results.toList, o59⟩ : FnI) = some i := Option.some.inj (show some (some _) = some (some i) from h)
    cases e
    exact fn59
  | 60, i, _, h => by
    have e : some (⟨c60, 27, Go.Proofs.Tryd.f60.results.toList, o60⟩ : FnI) = some i := Option.some.inj (show some (some _) = some (some i) from h)
    cases e
    exact fn60
  | 61, i, _, h => by
    have e : some (⟨c61, 24, Go.Proofs.Tryd.f61.results.toList, o61⟩ : FnI) = some i := Option.some.inj (show some (some _) = some (some i) from h)
    cases e
    exact fn61
  | 62, i, _, h => by
    have e : some (⟨c62, 23, Go.Proofs.Tryd.f62.results.toList, o62⟩ : FnI) = some i := Option.some.inj (show some (some _) = some (some i) from h)
    cases e
    exact fn62
  | 63, i, _, h => by
    have e : some (⟨c63, 5, Go.Proofs.Tryd.f63.results.toList, o63⟩ : FnI) = some i := Option.some.inj (show some (some _) = some (some i) from h)
    cases e
    exact fn63
  | 64, i, _, h => by
    have e : some (⟨c64, 8, Go.Proofs.Tryd.f64.results.toList, o64⟩ : FnI) = some i := Option.some.inj (show some (some _) = some (some i) from h)
    cases e
    exact fn64
  | 65, i, _, h => by
    have e : some (⟨c65, 15, Go.Proofs.Tryd.f65.results.toList, o65⟩ : FnI) = some i := Option.some.inj (show some (some _) = some (some i) from h)
    cases e
    exact fn65
  | 66, i, _, h => by
    have e : some (⟨c66, 5, Go.Proofs.Tryd.f66.results.toList, o66⟩ : FnI) = some i := Option.some.inj (show some (some _) = some (some i) from h)
    cases e
    exact fn66
  | 67, i, _, h => by
    have e : some (⟨c67, 27, Go.Proofs.Tryd.f67.results.toList, o67⟩ : FnI) = some i := Option.some.inj (show some (some _) = some (some i) from h)
    cases e
    exact fn67
  | 68, i, _, h => by
    have e : (none : Option FnI) = some i := Option.some.inj (show some none = some (some i) from h)
    cases e
  | 69, i, _, h => by
    have e : some (⟨c69, 6, Go.Proofs.Tryd.f69.results.toList, o69⟩ : FnI) = some i := Option.some.inj (show some (some _) = some (some i) from h)
    cases e
    exact fn69
  | 70, i, _, h => by
    have e : some (⟨c70, 35, Go.Proofs.Tryd.f70.results.toList, o70⟩ : FnI) = some i := Option.some.inj (show some (some _) = some (some i) from h)
    cases e
    exact fn70
  | 71, i, _, h => by
    have e : (none : Option FnI) = some i := Option.some.inj (show some none = some (some i) from h)
    cases e
  | 72, i, _, h => by
    have e : some (⟨c72, 9, Go.Proofs.Tryd.f72.results.toList, o72⟩ : FnI) = some i := Option.some.inj (show some (some _) = some (some i) from h)
    cases e
    exact fn72
  | 73, i, _, h => by
    have e : some (⟨c73, 21, Go.Proofs.Tryd.f73.results.toList, o73⟩ : FnI) = some i := Option.some.inj (show some (some _) = some (some i) from h)
    cases e
    exact fn73
  | 74, i, _, h => by
    have e : some (⟨c74, 32, Go.Proofs.Tryd.f74.results.toList, o74⟩ : FnI) = some i := Option.some.inj (show some (some _) = some (some i) from h)
    cases e
    exact fn74
  | 75, i, _, h => by
    have e : some (⟨c75, 26, Go.Proofs.Tryd.f75.results.toList, o75⟩ : FnI) = some i := Option.some.inj (show some (some _) = some (some i) from h)
    cases e
    exact fn75
  | 76, i, _, h => by
    have e : (none : Option FnI) = some i := Option.some.inj (show some none = some (some i) from h)
    cases e
  | 77, i, _, h => by
    have e : (none : Option FnI) = some i := Option.some.inj (show some none = some (some i) from h)
    cases e
  | 78, i, _, h => by
    have e : (none : Option FnI) = some i := Option.some.inj (show some none = some (some i) from h)
    cases e
  | 79, i, _, h => by
    have e : (none : Option FnI) = some i := Option.some.inj (show some none = some (some i) from h)
    cases e
  | 80, i, _, h => by
    have e : (none : Option FnI) = some i := Option.some.inj (show some none = some (some i) from h)
    cases e
  | 81, i, _, h => by
    have e : some (⟨c81, 21, Go.Proofs.Tryd.f81.results.toList, o81⟩ : FnI) = some i := Option.some.inj (show some (some _) = some (some i) from h)
    cases e
    exact fn81
  | 82, i, _, h => by
    have e : some (⟨c82, 14, Go.Proofs.Tryd.f82.results.toList, o82⟩ : FnI) = some i := Option.some.inj (show some (some _) = some (some i) from h)
    cases e
    exact fn82
  | 83, i, _, h => by
    have e : some (⟨c83, 20, Go.Proofs.Tryd.f83.results.toList, o83⟩ : FnI) = some i := Option.some.inj (show some (some _) = some (some i) from h)
    cases e
    exact fn83
  | 84, i, _, h => by
    have e : some (⟨c84, 9, Go.Proofs.Tryd.f84.results.toList, o84⟩ : FnI) = some i := Option.some.inj (show some (some _) = some (some i) from h)
    cases e
    exact fn84
  | 85, i, _, h => by
    have e : some (⟨c85, 20, Go.Proofs.Tryd.f85.results.toList, o85⟩ : FnI) = some i := Option.some.inj (show some (some _) = some (some i) from h)
    cases e
    exact fn85
  | 86, i, _, h => by
    have e : some (⟨c86, 20, Go.Proofs.Tryd.f86.results.toList, o86⟩ : FnI) = some i := Option.some.inj (show some (some _) = some (some i) from h)
    cases e
    exact fn86
  | 87, i, _, h => by
    have e : some (⟨c87, 22, Go.Proofs.Tryd.f87.results.toList, o87⟩ : FnI) = some i := Option.some.inj (show some (some _) = some (some i) from h)
    cases e
    exact fn87
  | 88, i, _, h => by
    have e : some (⟨c88, 44, Go.Proofs.Tryd.f88.results.toList, o88⟩ : FnI) = some i := Option.some.inj (show some (some _) = some (some i) from h)
    cases e
    exact fn88
  | 89, i, _, h => by
    have e : some (⟨c89, 34, Go.Proofs.Tryd.f89.results.toList, o89⟩ : FnI) = some i := Option.some.inj (show some (some _) = some (some i) from h)
    cases e
    exact fn89
  | 90, i, _, h => by
    have e : some (⟨c90, 62, Go.Proofs.Tryd.f90.results.toList, o90⟩ : FnI) = some i := Option.some.inj (show some (some _) = some (some i) from h)
    cases e
    exact fn90
  | 91, i, _, h => by
    have e : some (⟨c91, 74, Go.Proofs.Tryd.f91.results.toList, o91⟩ : FnI) = some i := Option.some.inj (show some (some _) = some (some i) from h)
    cases e
    exact fn91
  | 92, i, _, h => by
    have e : some (⟨c92, 19, Go.Proofs.Tryd.f92.results.toList, o92⟩ : FnI) = some i := Option.some.inj (show some (some _) = some (some i) from h)
    cases e
    exact fn92
  | 93, i, _, h => by
    have e : some (⟨c93, 21, Go.Proofs.Tryd.f93.results.toList, o93⟩ : FnI) = some i := Option.some.inj (show some (some _) = some (some i) from h)
    cases e
    exact fn93
  | 94, i, _, h => by
    have e : some (⟨c94, 17, Go.Proofs.Tryd.f94.results.toList, o94⟩ : FnI) = some i := Option.some.inj (show some (some _) = some (some i) from h)
    cases e
    exact fn94
  | 95, i, _, h => by
    have e : some (⟨c95, 33, Go.Proofs.Tryd.f95.results.toList, o95⟩ : FnI) = some i := Option.some.inj (show some (some _) = some (some i) from h)
    cases e
    exact fn95
  | 96, i, _, h => by
    have e : (none : Option FnI) = some i := Option.some.inj (show some none = some (some i) from h)
    cases e
  | 97, i, _, h => by
    have e : (none : Option FnI) = some i := Option.some.inj (show some none = some (some i) from h)
    cases e
  | 98, i, _, h => by
    have e : some (⟨c98, 5, Go.Proofs.Tryd.f98.results.toList, o98⟩ : FnI) = some i := Option.some.inj (show some (some _) = some (some i) from h)
    cases e
    exact fn98
  | 99, i, _, h => by
    have e : some (⟨c99, 12, Go.Proofs.Tryd.f99.results.toList, o99⟩ : FnI) = some i := Option.some.inj (show some (some _) = some (some i) from h)
    cases e
    exact fn99
  | 100, i, _, h => by
    have e : some (⟨c100, 15, Go.Proofs.Tryd.f100.results.toList, o100⟩ : FnI) = some i := Option.some.inj (show some (some _) = some (some i) from h)
    cases e
    exact fn100
  | 101, i, _, h => by
    have e : some (⟨c101, 19, Go.Proofs.Tryd.f101.results.toList, o101⟩ : FnI) = some i := Option.some.inj (show some (some _) = some (some i) from h)
    cases e
    exact fn101
  | 102, i, _, h => by
    have e : some (⟨c102, 8, Go.Proofs.Tryd.f102.results.toList, o102⟩ : FnI) = some i := Option.some.inj (show some (some _) = some (some i) from h)
    cases e
    exact fn102
  | 103, i, _, h => by
    have e : some (⟨c103, 21, Go.Proofs.Tryd.f103.results.toList, o103⟩ : FnI) = some i := Option.some.inj (show some (some _) = some (some i) from h)
    cases e
    exact fn103
  | 104, i, _, h => by
    have e : some (⟨c104, 35, Go.Proofs.Tryd.f104.results.toList, o104⟩ : FnI) = some i := Option.some.inj (show some (some _) = some (some i) from h)
    cases e
    exact fn104
  | 105, i, _, h => by
    have e : some (⟨c105, 18, Go.Proofs.Tryd.f105.results.toList, o105⟩ : FnI) = some i := Option.some.inj (show some (some _) = some (some i) from h)
    cases e
    exact fn105
  | 106, i, _, h => by
    have e : (none : Option FnI) = some i := Option.some.inj (show some none = some (some i) from h)
    cases e
  | 107, i, _, h => by
    have e : (none : Option FnI) = some i := Option.some.inj (show some none = some (some i) from h)
    cases e
  | 108, i, _, h => by
    have e : (none : Option FnI) = some i := Option.some.inj (show some none = some (some i) from h)
    cases e
  | 109, i, _, h => by
    have e : some (⟨c109, 104, Go.Proofs.Tryd.f109.results.toList, o109⟩ : FnI) = some i := Option.some.inj (show some (some _) = some (some i) from h)
    cases e
    exact fn109
  | n + 110, i, hlt, h => by omega
theorem fns0 : ∀ f i, E0.fs f = some i → FnOk Go.Proofs.Tryd.prog E0 f i := by
  intro f i h
  have hl : fss[f]? = some (some i) := by
    have h : (fss[f]?).getD none = some i := h
    cases hl : fss[f]? with
    | none => rw [hl] at h; cases h
    | some o => rw [hl] at h; simp only [Option.getD_some] at h; rw [h]
  refine ⟨?_, fnsB_ok code0 hl⟩
  have hlt : f < 110 := (List.getElem?_eq_some_iff.1 hl).1
  exact fnAll f i hlt hl
theorem env0 : EnvOk Go.Proofs.Tryd.prog E0 J0 := ⟨tabOk0, byte0, by kernel_rfl, fns0, ext0, j0_stays⟩
end Go.Proofs.YtpcgppelelfmiaaDoor.Abs
