/- The facts of the program's tables (written by gen.py). -/
import Derived.Test.YtnkelipioodhjaaDoorChecked
import Derived.Test.YtnkelipioodhjaaDoorExt
import Derived.Test.YtnkelipioodhjaaDoorFns
import Derived.Test.YtnkelipioodhjaaDoorEnv
set_option linter.unusedVariables false
set_option linter.unusedSimpArgs false
set_option maxRecDepth 100000
namespace Go.Proofs.YtnkelipioodhjaaDoor.Abs
open Go
theorem tab0 : tabB Go.Proofs.Tryd.prog 0 tis = true := by kernel_rfl
theorem code0 : fnsB E0 fss = true := by kernel_rfl
theorem tabOk0 : TabOk Go.Proofs.Tryd.prog ti0 := by
  intro t i h
  unfold ti0 at h
  cases hl : tis[t]? with
  | none => rw [hl] at h; cases h
  | some o =>
    rw [hl] at h
    simp only [Option.getD_some] at h
    subst h
    simpa using (tabB_ok tis 0 t i tab0 hl).1
theorem byte0 : ∀ t i, ti0 t = some i → i.ik = some .u8 → i.size = 1 := by
  intro t i h
  unfold ti0 at h
  cases hl : tis[t]? with
  | none => rw [hl] at h; cases h
  | some o =>
    rw [hl] at h
    simp only [Option.getD_some] at h
    subst h
    exact (tabB_ok tis 0 t i tab0 hl).2
theorem fn32 : ∃ fn, Go.Proofs.Tryd.prog.funcs[32]? = some fn ∧ (fn.name == "runtime.NumGoroutine") = false ∧ fn.body = some c32 ∧ fn.ntmps = 12 ∧ fn.results.toList = Go.Proofs.Tryd.f32.results.toList := ⟨Go.Proofs.Tryd.f32, Go.Proofs.Tryd.func32, by kernel_rfl, by kernel_rfl, rfl, rfl⟩
theorem fn105 : ∃ fn, Go.Proofs.Tryd.prog.funcs[105]? = some fn ∧ (fn.name == "runtime.NumGoroutine") = false ∧ fn.body = some c105 ∧ fn.ntmps = 13 ∧ fn.results.toList = Go.Proofs.Tryd.f105.results.toList := ⟨Go.Proofs.Tryd.f105, Go.Proofs.Tryd.func105, by kernel_rfl, by kernel_rfl, rfl, rfl⟩
theorem fn74 : ∃ fn, Go.Proofs.Tryd.prog.funcs[74]? = some fn ∧ (fn.name == "runtime.NumGoroutine") = false ∧ fn.body = some c74 ∧ fn.ntmps = 27 ∧ fn.results.toList = Go.Proofs.Tryd.f74.results.toList := ⟨Go.Proofs.Tryd.f74, Go.Proofs.Tryd.func74, by kernel_rfl, by kernel_rfl, rfl, rfl⟩
theorem fn75 : ∃ fn, Go.Proofs.Tryd.prog.funcs[75]? = some fn ∧ (fn.name == "runtime.NumGoroutine") = false ∧ fn.body = some c75 ∧ fn.ntmps = 28 ∧ fn.results.toList = Go.Proofs.Tryd.f75.results.toList := ⟨Go.Proofs.Tryd.f75, Go.Proofs.Tryd.func75, by kernel_rfl, by kernel_rfl, rfl, rfl⟩
theorem fn42 : ∃ fn, Go.Proofs.Tryd.prog.funcs[42]? = some fn ∧ (fn.name == "runtime.NumGoroutine") = false ∧ fn.body = some c42 ∧ fn.ntmps = 12 ∧ fn.results.toList = Go.Proofs.Tryd.f42.results.toList := ⟨Go.Proofs.Tryd.f42, Go.Proofs.Tryd.func42, by kernel_rfl, by kernel_rfl, rfl, rfl⟩
theorem fn40 : ∃ fn, Go.Proofs.Tryd.prog.funcs[40]? = some fn ∧ (fn.name == "runtime.NumGoroutine") = false ∧ fn.body = some c40 ∧ fn.ntmps = 70 ∧ fn.results.toList = Go.Proofs.Tryd.f40.results.toList := ⟨Go.Proofs.Tryd.f40, Go.Proofs.Tryd.func40, by kernel_rfl, by kernel_rfl, rfl, rfl⟩
theorem fn76 : ∃ fn, Go.Proofs.Tryd.prog.funcs[76]? = some fn ∧ (fn.name == "runtime.NumGoroutine") = false ∧ fn.body = some c76 ∧ fn.ntmps = 13 ∧ fn.results.toList = Go.Proofs.Tryd.f76.results.toList := ⟨Go.Proofs.Tryd.f76, Go.Proofs.Tryd.func76, by kernel_rfl, by kernel_rfl, rfl, rfl⟩
theorem fn41 : ∃ fn, Go.Proofs.Tryd.prog.funcs[41]? = some fn ∧ (fn.name == "runtime.NumGoroutine") = false ∧ fn.body = some c41 ∧ fn.ntmps = 27 ∧ fn.results.toList = Go.Proofs.Tryd.f41.results.toList := ⟨Go.Proofs.Tryd.f41, Go.Proofs.Tryd.func41, by kernel_rfl, by kernel_rfl, rfl, rfl⟩
theorem fn7 : ∃ fn, Go.Proofs.Tryd.prog.funcs[7]? = some fn ∧ (fn.name == "runtime.NumGoroutine") = false ∧ fn.body = some c7 ∧ fn.ntmps = 19 ∧ fn.results.toList = Go.Proofs.Tryd.f7.results.toList := ⟨Go.Proofs.Tryd.f7, Go.Proofs.Tryd.func7, by kernel_rfl, by kernel_rfl, rfl, rfl⟩
theorem fn12 : ∃ fn, Go.Proofs.Tryd.prog.funcs[12]? = some fn ∧ (fn.name == "runtime.NumGoroutine") = false ∧ fn.body = some c12 ∧ fn.ntmps = 27 ∧ fn.results.toList = Go.Proofs.Tryd.f12.results.toList := ⟨Go.Proofs.Tryd.f12, Go.Proofs.Tryd.func12, by kernel_rfl, by kernel_rfl, rfl, rfl⟩
theorem fn17 : ∃ fn, Go.Proofs.Tryd.prog.funcs[17]? = some fn ∧ (fn.name == "runtime.NumGoroutine") = false ∧ fn.body = some c17 ∧ fn.ntmps = 37 ∧ fn.results.toList = Go.Proofs.Tryd.f17.results.toList := ⟨Go.Proofs.Tryd.f17, Go.Proofs.Tryd.func17, by kernel_rfl, by kernel_rfl, rfl, rfl⟩
theorem fn35 : ∃ fn, Go.Proofs.Tryd.prog.funcs[35]? = some fn ∧ (fn.name == "runtime.NumGoroutine") = false ∧ fn.body = some c35 ∧ fn.ntmps = 22 ∧ fn.results.toList = Go.Proofs.Tryd.f35.results.toList := ⟨Go.Proofs.Tryd.f35, Go.Proofs.Tryd.func35, by kernel_rfl, by kernel_rfl, rfl, rfl⟩
theorem fn107 : ∃ fn, Go.Proofs.Tryd.prog.funcs[107]? = some fn ∧ (fn.name == "runtime.NumGoroutine") = false ∧ fn.body = some c107 ∧ fn.ntmps = 11 ∧ fn.results.toList = Go.Proofs.Tryd.f107.results.toList := ⟨Go.Proofs.Tryd.f107, Go.Proofs.Tryd.func107, by kernel_rfl, by kernel_rfl, rfl, rfl⟩
theorem fn78 : ∃ fn, Go.Proofs.Tryd.prog.funcs[78]? = some fn ∧ (fn.name == "runtime.NumGoroutine") = false ∧ fn.body = some c78 ∧ fn.ntmps = 23 ∧ fn.results.toList = Go.Proofs.Tryd.f78.results.toList := ⟨Go.Proofs.Tryd.f78, Go.Proofs.Tryd.func78, by kernel_rfl, by kernel_rfl, rfl, rfl⟩
theorem fn79 : ∃ fn, Go.Proofs.Tryd.prog.funcs[79]? = some fn ∧ (fn.name == "runtime.NumGoroutine") = false ∧ fn.body = some c79 ∧ fn.ntmps = 22 ∧ fn.results.toList = Go.Proofs.Tryd.f79.results.toList := ⟨Go.Proofs.Tryd.f79, Go.Proofs.Tryd.func79, by kernel_rfl, by kernel_rfl, rfl, rfl⟩
theorem fn46 : ∃ fn, Go.Proofs.Tryd.prog.funcs[46]? = some fn ∧ (fn.name == "runtime.NumGoroutine") = false ∧ fn.body = some c46 ∧ fn.ntmps = 22 ∧ fn.results.toList = Go.Proofs.Tryd.f46.results.toList := ⟨Go.Proofs.Tryd.f46, Go.Proofs.Tryd.func46, by kernel_rfl, by kernel_rfl, rfl, rfl⟩
theorem fn44 : ∃ fn, Go.Proofs.Tryd.prog.funcs[44]? = some fn ∧ (fn.name == "runtime.NumGoroutine") = false ∧ fn.body = some c44 ∧ fn.ntmps = 86 ∧ fn.results.toList = Go.Proofs.Tryd.f44.results.toList := ⟨Go.Proofs.Tryd.f44, Go.Proofs.Tryd.func44, by kernel_rfl, by kernel_rfl, rfl, rfl⟩
theorem fn80 : ∃ fn, Go.Proofs.Tryd.prog.funcs[80]? = some fn ∧ (fn.name == "runtime.NumGoroutine") = false ∧ fn.body = some c80 ∧ fn.ntmps = 14 ∧ fn.results.toList = Go.Proofs.Tryd.f80.results.toList := ⟨Go.Proofs.Tryd.f80, Go.Proofs.Tryd.func80, by kernel_rfl, by kernel_rfl, rfl, rfl⟩
theorem fn45 : ∃ fn, Go.Proofs.Tryd.prog.funcs[45]? = some fn ∧ (fn.name == "runtime.NumGoroutine") = false ∧ fn.body = some c45 ∧ fn.ntmps = 23 ∧ fn.results.toList = Go.Proofs.Tryd.f45.results.toList := ⟨Go.Proofs.Tryd.f45, Go.Proofs.Tryd.func45, by kernel_rfl, by kernel_rfl, rfl, rfl⟩
theorem fn9 : ∃ fn, Go.Proofs.Tryd.prog.funcs[9]? = some fn ∧ (fn.name == "runtime.NumGoroutine") = false ∧ fn.body = some c9 ∧ fn.ntmps = 18 ∧ fn.results.toList = Go.Proofs.Tryd.f9.results.toList := ⟨Go.Proofs.Tryd.f9, Go.Proofs.Tryd.func9, by kernel_rfl, by kernel_rfl, rfl, rfl⟩
theorem fn14 : ∃ fn, Go.Proofs.Tryd.prog.funcs[14]? = some fn ∧ (fn.name == "runtime.NumGoroutine") = false ∧ fn.body = some c14 ∧ fn.ntmps = 23 ∧ fn.results.toList = Go.Proofs.Tryd.f14.results.toList := ⟨Go.Proofs.Tryd.f14, Go.Proofs.Tryd.func14, by kernel_rfl, by kernel_rfl, rfl, rfl⟩
theorem fn19 : ∃ fn, Go.Proofs.Tryd.prog.funcs[19]? = some fn ∧ (fn.name == "runtime.NumGoroutine") = false ∧ fn.body = some c19 ∧ fn.ntmps = 57 ∧ fn.results.toList = Go.Proofs.Tryd.f19.results.toList := ⟨Go.Proofs.Tryd.f19, Go.Proofs.Tryd.func19, by kernel_rfl, by kernel_rfl, rfl, rfl⟩
theorem fn34 : ∃ fn, Go.Proofs.Tryd.prog.funcs[34]? = some fn ∧ (fn.name == "runtime.NumGoroutine") = false ∧ fn.body = some c34 ∧ fn.ntmps = 15 ∧ fn.results.toList = Go.Proofs.Tryd.f34.results.toList := ⟨Go.Proofs.Tryd.f34, Go.Proofs.Tryd.func34, by kernel_rfl, by kernel_rfl, rfl, rfl⟩
theorem fn106 : ∃ fn, Go.Proofs.Tryd.prog.funcs[106]? = some fn ∧ (fn.name == "runtime.NumGoroutine") = false ∧ fn.body = some c106 ∧ fn.ntmps = 104 ∧ fn.results.toList = Go.Proofs.Tryd.f106.results.toList := ⟨Go.Proofs.Tryd.f106, Go.Proofs.Tryd.func106, by kernel_rfl, by kernel_rfl, rfl, rfl⟩
theorem fn77 : ∃ fn, Go.Proofs.Tryd.prog.funcs[77]? = some fn ∧ (fn.name == "runtime.NumGoroutine") = false ∧ fn.body = some c77 ∧ fn.ntmps = 35 ∧ fn.results.toList = Go.Proofs.Tryd.f77.results.toList := ⟨Go.Proofs.Tryd.f77, Go.Proofs.Tryd.func77, by kernel_rfl, by kernel_rfl, rfl, rfl⟩
theorem fn43 : ∃ fn, Go.Proofs.Tryd.prog.funcs[43]? = some fn ∧ (fn.name == "runtime.NumGoroutine") = false ∧ fn.body = some c43 ∧ fn.ntmps = 6 ∧ fn.results.toList = Go.Proofs.Tryd.f43.results.toList := ⟨Go.Proofs.Tryd.f43, Go.Proofs.Tryd.func43, by kernel_rfl, by kernel_rfl, rfl, rfl⟩
theorem fn18 : ∃ fn, Go.Proofs.Tryd.prog.funcs[18]? = some fn ∧ (fn.name == "runtime.NumGoroutine") = false ∧ fn.body = some c18 ∧ fn.ntmps = 84 ∧ fn.results.toList = Go.Proofs.Tryd.f18.results.toList := ⟨Go.Proofs.Tryd.f18, Go.Proofs.Tryd.func18, by kernel_rfl, by kernel_rfl, rfl, rfl⟩
theorem fn47 : ∃ fn, Go.Proofs.Tryd.prog.funcs[47]? = some fn ∧ (fn.name == "runtime.NumGoroutine") = false ∧ fn.body = some c47 ∧ fn.ntmps = 15 ∧ fn.results.toList = Go.Proofs.Tryd.f47.results.toList := ⟨Go.Proofs.Tryd.f47, Go.Proofs.Tryd.func47, by kernel_rfl, by kernel_rfl, rfl, rfl⟩
theorem fn20 : ∃ fn, Go.Proofs.Tryd.prog.funcs[20]? = some fn ∧ (fn.name == "runtime.NumGoroutine") = false ∧ fn.body = some c20 ∧ fn.ntmps = 89 ∧ fn.results.toList = Go.Proofs.Tryd.f20.results.toList := ⟨Go.Proofs.Tryd.f20, Go.Proofs.Tryd.func20, by kernel_rfl, by kernel_rfl, rfl, rfl⟩
theorem fn38 : ∃ fn, Go.Proofs.Tryd.prog.funcs[38]? = some fn ∧ (fn.name == "runtime.NumGoroutine") = false ∧ fn.body = some c38 ∧ fn.ntmps = 26 ∧ fn.results.toList = Go.Proofs.Tryd.f38.results.toList := ⟨Go.Proofs.Tryd.f38, Go.Proofs.Tryd.func38, by kernel_rfl, by kernel_rfl, rfl, rfl⟩
theorem fn109 : ∃ fn, Go.Proofs.Tryd.prog.funcs[109]? = some fn ∧ (fn.name == "runtime.NumGoroutine") = false ∧ fn.body = some c109 ∧ fn.ntmps = 15 ∧ fn.results.toList = Go.Proofs.Tryd.f109.results.toList := ⟨Go.Proofs.Tryd.f109, Go.Proofs.Tryd.func109, by kernel_rfl, by kernel_rfl, rfl, rfl⟩
theorem fn82 : ∃ fn, Go.Proofs.Tryd.prog.funcs[82]? = some fn ∧ (fn.name == "runtime.NumGoroutine") = false ∧ fn.body = some c82 ∧ fn.ntmps = 27 ∧ fn.results.toList = Go.Proofs.Tryd.f82.results.toList := ⟨Go.Proofs.Tryd.f82, Go.Proofs.Tryd.func82, by kernel_rfl, by kernel_rfl, rfl, rfl⟩
theorem fn83 : ∃ fn, Go.Proofs.Tryd.prog.funcs[83]? = some fn ∧ (fn.name == "runtime.NumGoroutine") = false ∧ fn.body = some c83 ∧ fn.ntmps = 26 ∧ fn.results.toList = Go.Proofs.Tryd.f83.results.toList := ⟨Go.Proofs.Tryd.f83, Go.Proofs.Tryd.func83, by kernel_rfl, by kernel_rfl, rfl, rfl⟩
theorem fn51 : ∃ fn, Go.Proofs.Tryd.prog.funcs[51]? = some fn ∧ (fn.name == "runtime.NumGoroutine") = false ∧ fn.body = some c51 ∧ fn.ntmps = 26 ∧ fn.results.toList = Go.Proofs.Tryd.f51.results.toList := ⟨Go.Proofs.Tryd.f51, Go.Proofs.Tryd.func51, by kernel_rfl, by kernel_rfl, rfl, rfl⟩
theorem fn49 : ∃ fn, Go.Proofs.Tryd.prog.funcs[49]? = some fn ∧ (fn.name == "runtime.NumGoroutine") = false ∧ fn.body = some c49 ∧ fn.ntmps = 136 ∧ fn.results.toList = Go.Proofs.Tryd.f49.results.toList := ⟨Go.Proofs.Tryd.f49, Go.Proofs.Tryd.func49, by kernel_rfl, by kernel_rfl, rfl, rfl⟩
theorem fn84 : ∃ fn, Go.Proofs.Tryd.prog.funcs[84]? = some fn ∧ (fn.name == "runtime.NumGoroutine") = false ∧ fn.body = some c84 ∧ fn.ntmps = 20 ∧ fn.results.toList = Go.Proofs.Tryd.f84.results.toList := ⟨Go.Proofs.Tryd.f84, Go.Proofs.Tryd.func84, by kernel_rfl, by kernel_rfl, rfl, rfl⟩
theorem fn50 : ∃ fn, Go.Proofs.Tryd.prog.funcs[50]? = some fn ∧ (fn.name == "runtime.NumGoroutine") = false ∧ fn.body = some c50 ∧ fn.ntmps = 27 ∧ fn.results.toList = Go.Proofs.Tryd.f50.results.toList := ⟨Go.Proofs.Tryd.f50, Go.Proofs.Tryd.func50, by kernel_rfl, by kernel_rfl, rfl, rfl⟩
theorem fn11 : ∃ fn, Go.Proofs.Tryd.prog.funcs[11]? = some fn ∧ (fn.name == "runtime.NumGoroutine") = false ∧ fn.body = some c11 ∧ fn.ntmps = 26 ∧ fn.results.toList = Go.Proofs.Tryd.f11.results.toList := ⟨Go.Proofs.Tryd.f11, Go.Proofs.Tryd.func11, by kernel_rfl, by kernel_rfl, rfl, rfl⟩
theorem fn16 : ∃ fn, Go.Proofs.Tryd.prog.funcs[16]? = some fn ∧ (fn.name == "runtime.NumGoroutine") = false ∧ fn.body = some c16 ∧ fn.ntmps = 27 ∧ fn.results.toList = Go.Proofs.Tryd.f16.results.toList := ⟨Go.Proofs.Tryd.f16, Go.Proofs.Tryd.func16, by kernel_rfl, by kernel_rfl, rfl, rfl⟩
theorem fn21 : ∃ fn, Go.Proofs.Tryd.prog.funcs[21]? = some fn ∧ (fn.name == "runtime.NumGoroutine") = false ∧ fn.body = some c21 ∧ fn.ntmps = 89 ∧ fn.results.toList = Go.Proofs.Tryd.f21.results.toList := ⟨Go.Proofs.Tryd.f21, Go.Proofs.Tryd.func21, by kernel_rfl, by kernel_rfl, rfl, rfl⟩
theorem fn5 : ∃ fn, Go.Proofs.Tryd.prog.funcs[5]? = some fn ∧ (fn.name == "runtime.NumGoroutine") = false ∧ fn.body = some c5 ∧ fn.ntmps = 27 ∧ fn.results.toList = Go.Proofs.Tryd.f5.results.toList := ⟨Go.Proofs.Tryd.f5, Go.Proofs.Tryd.func5, by kernel_rfl, by kernel_rfl, rfl, rfl⟩
theorem fnAll : ∀ (f : Nat) (i : FnI), f < 110 → fss[f]? = some (some i) → ∃ fn, Go.Proofs.Tryd.prog.funcs[f]? = some fn ∧ (fn.name == "runtime.NumGoroutine") = false ∧ fn.body = some i.body ∧ fn.ntmps = i.ntmps ∧ fn.results.toList = i.results
  | 0, i, _, h => by
    have e : (none : Option FnI) = some i := Option.some.inj (show some none = some (some i) from h)
    cases e
  | 1, i, _, h => by
    have e : (none : Option FnI) = some i := Option.some.inj (show some none = some (some i) from h)
    cases e
  | 2, i, _, h => by
    have e : (none : Option FnI) = some i := Option.some.inj (show some none = some (some i) from h)
    cases e
  | 3, i, _, h => by
    have e : (none : Option FnI) = some i := Option.some.inj (show some none = some (some i) from h)
    cases e
  | 4, i, _, h => by
    have e : (none : Option FnI) = some i := Option.some.inj (show some none = some (some i) from h)
    cases e
  | 5, i, _, h => by
    have e : some (⟨c5, 27, Go.Proofs.Tryd.f5.results.toList, o5⟩ : FnI) = some i := Option.some.inj (show some (some _) = some (some i) from h)
    cases e
    exact fn5
  | 6, i, _, h => by
    have e : (none : Option FnI) = some i := Option.some.inj (show some none = some (some i) from h)
    cases e
  | 7, i, _, h => by
    have e : some (⟨c7, 19, Go.Proofs.Tryd.f7.results.toList, o7⟩ : FnI) = some i := Option.some.inj (show some (some _) = some (some i) from h)
    cases e
    exact fn7
  | 8, i, _, h => by
    have e : (none : Option FnI) = some i := Option.some.inj (show some none = some (some i) from h)
    cases e
  | 9, i, _, h => by
    have e : some (⟨c9, 18, Go.Proofs.Tryd.f9.results.toList, o9⟩ : FnI) = some i := Option.some.inj (show some (some _) = some (some i) from h)
    cases e
    exact fn9
  | 10, i, _, h => by
    have e : (none : Option FnI) = some i := Option.some.inj (show some none = some (some i) from h)
    cases e
  | 11, i, _, h => by
    have e : some (⟨c11, 26, Go.Proofs.Tryd.f11.results.toList, o11⟩ : FnI) = some i := Option.some.inj (show some (some _) = some (some i) from h)
    cases e
    exact fn11
  | 12, i, _, h => by
    have e : some (⟨c12, 27, Go.Proofs.Tryd.f12.results.toList, o12⟩ : FnI) = some i := Option.some.inj (show some (some _) = some (some i) from h)
    cases e
    exact fn12
  | 13, i, _, h => by
    have e : (none : Option FnI) = some i := Option.some.inj (show some none = some (some i) from h)
    cases e
  | 14, i, _, h => by
    have e : some (⟨c14, 23, Go.Proofs.Tryd.f14.results.toList, o14⟩ : FnI) = some i := Option.some.inj (show some (some _) = some (some i) from h)
    cases e
    exact fn14
  | 15, i, _, h => by
    have e : (none : Option FnI) = some i := Option.some.inj (show some none = some (some i) from h)
    cases e
  | 16, i, _, h => by
    have e : some (⟨c16, 27, Go.Proofs.Tryd.f16.results.toList, o16⟩ : FnI) = some i := Option.some.inj (show some (some _) = some (some i) from h)
    cases e
    exact fn16
  | 17, i, _, h => by
    have e : some (⟨c17, 37, Go.Proofs.Tryd.f17.results.toList, o17⟩ : FnI) = some i := Option.some.inj (show some (some _) = some (some i) from h)
    cases e
    exact fn17
  | 18, i, _, h => by
    have e : some (⟨c18, 84, Go.Proofs.Tryd.f18.results.toList, o18⟩ : FnI) = some i := Option.some.inj (show some (some _) = some (some i) from h)
    cases e
    exact fn18
  | 19, i, _, h => by
    have e : some (⟨c19, 57, Go.Proofs.Tryd.f19.results.toList, o19⟩ : FnI) = some i := Option.some.inj (show some (some _) = some (some i) from h)
    cases e
    exact fn19
  | 20, i, _, h => by
    have e : some (⟨c20, 89, Go.Proofs.Tryd.f20.results.toList, o20⟩ : FnI) = some i := Option.some.inj (show some (some _) = some (some i) from h)
    cases e
    exact fn20
  | 21, i, _, h => by
    have e : some (⟨c21, 89, Go.Proofs.Tryd.f21.results.toList, o21⟩ : FnI) = some i := Option.some.inj (show some (some _) = some (some i) from h)
    cases e
    exact fn21
  | 22, i, _, h => by
    have e : (none : Option FnI) = some i := Option.some.inj (show some none = some (some i) from h)
    cases e
  | 23, i, _, h => by
    have e : (none : Option FnI) = some i := Option.some.inj (show some none = some (some i) from h)
    cases e
  | 24, i, _, h => by
    have e : (none : Option FnI) = some i := Option.some.inj (show some none = some (some i) from h)
    cases e
  | 25, i, _, h => by
    have e : (none : Option FnI) = some i := Option.some.inj (show some none = some (some i) from h)
    cases e
  | 26, i, _, h => by
    have e : (none : Option FnI) = some i := Option.some.inj (show some none = some (some i) from h)
    cases e
  | 27, i, _, h => by
    have e : (none : Option FnI) = some i := Option.some.inj (show some none = some (some i) from h)
    cases e
  | 28, i, _, h => by
    have e : (none : Option FnI) = some i := Option.some.inj (show some none = some (some i) from h)
    cases e
  | 29, i, _, h => by
    have e : (none : Option FnI) = some i := Option.some.inj (show some none = some (some i) from h)
    cases e
  | 30, i, _, h => by
    have e : (none : Option FnI) = some i := Option.some.inj (show some none = some (some i) from h)
    cases e
  | 31, i, _, h => by
    have e : (none : Option FnI) = some i := Option.some.inj (show some none = some (some i) from h)
    cases e
  | 32, i, _, h => by
    have e : some (⟨c32, 12, Go.Proofs.Tryd.f32.results.toList, o32⟩ : FnI) = some i := Option.some.inj (show some (some _) = some (some i) from h)
    cases e
    exact fn32
  | 33, i, _, h => by
    have e : (none : Option FnI) = some i := Option.some.inj (show some none = some (some i) from h)
    cases e
  | 34, i, _, h => by
    have e : some (⟨c34, 15, Go.Proofs.Tryd.f34.results.toList, o34⟩ : FnI) = some i := Option.some.inj (show some (some _) = some (some i) from h)
    cases e
    exact fn34
  | 35, i, _, h => by
    have e : some (⟨c35, 22, Go.Proofs.Tryd.f35.results.toList, o35⟩ : FnI) = some i := Option.some.inj (show some (some _) = some (some i) from h)
    cases e
    exact fn35
  | 36, i, _, h => by
    have e : (none : Option FnI) = some i := Option.some.inj (show some none = some (some i) from h)
    cases e
  | 37, i, _, h => by
    have e : (none : Option FnI) = some i := Option.some.inj (show some none = some (some i) from h)
    cases e
  | 38, i, _, h => by
    have e : some (⟨c38, 26, Go.Proofs.Tryd.f38.results.toList, o38⟩ : FnI) = some i := Option.some.inj (show some (some _) = some (some i) from h)
    cases e
    exact fn38
  | 39, i, _, h => by
    have e : (none : Option FnI) = some i := Option.some.inj (show some none = some (some i) from h)
    cases e
  | 40, i, _, h => by
    have e : some (⟨c40, 70, Go.Proofs.Tryd.f40.results.toList, o40⟩ : FnI) = some i := Option.some.inj (show some (some _) = some (some i) from h)
    cases e
    exact fn40
  | 41, i, _, h => by
    have e : some (⟨c41, 27, Go.Proofs.Tryd.f41.results.toList, o41⟩ : FnI) = some i := Option.some.inj (show some (some _) = some (some i) from h)
    cases e
    exact fn41
  | 42, i, _, h => by
    have e : some (⟨c42, 12, Go.Proofs.Tryd.f42.results.toList, o42⟩ : FnI) = some i := Option.some.inj (show some (some _) = some (some i) from h)
    cases e
    exact fn42
  | 43, i, _, h => by
    have e : some (⟨c43, 6, Go.Proofs.Tryd.f43.results.toList, o43⟩ : FnI) = some i := Option.some.inj (show some (some _) = some (some i) from h)
    cases e
    exact fn43
  | 44, i, _, h => by
    have e : some (⟨c44, 86, Go.Proofs.Tryd.f44.results.toList, o44⟩ : FnI) = some i := Option.some.inj (show some (some _) = some (some i) from h)
    cases e
    exact fn44
  | 45, i, _, h => by
    have e : some (⟨c45, 23, Go.Proofs.Tryd.f45.results.toList, o45⟩ : FnI) = some i := Option.some.inj (show some (some _) = some (some i) from h)
    cases e
    exact fn45
  | 46, i, _, h => by
    have e : some (⟨c46, 22, Go.Proofs.Tryd.f46.results.toList, o46⟩ : FnI) = some i := Option.some.inj (show some (some _) = some (some i) from h)
    cases e
    exact fn46
  | 47, i, _, h => by
    have e : some (⟨c47, 15, Go.Proofs.Tryd.f47.results.toList, o47⟩ : FnI) = some i := Option.some.inj (show some (some _) = some (some i) from h)
    cases e
    exact fn47
  | 48, i, _, h => by
    have e : (none : Option FnI) = some i := Option.some.inj (show some none = some (some i) from h)
    cases e
  | 49, i, _, h => by
    have e : some (⟨c49, 136, Go.Proofs.Tryd.f49.results.toList, o49⟩ : FnI) = some i := Option.some.inj (show some (some _) = some (some i) from h)
    cases e
    exact fn49
  | 50, i, _, h => by
    have e : some (⟨c50, 27, Go.Proofs.Tryd.f50.results.toList, o50⟩ : FnI) = some i := Option.some.inj (show some (some _) = some (some i) from h)
    cases e
    exact fn50
  | 51, i, _, h => by
    have e : some (⟨c51, 26, Go.Proofs.Tryd.f51.results.toList, o51⟩ : FnI) = some i := Option.some.inj (show some (some _) = some (some i) from h)
    cases e
    exact fn51
  | 52, i, _, h => by
    have e : (none : Option FnI) = some i := Option.some.inj (show some none = some (some i) from h)
    cases e
  | 53, i, _, h => by
    have e : (none : Option FnI) = some i := Option.some.inj (show some none = some (some i) from h)
    cases e
  | 54, i, _, h => by
    have e : (none : Option FnI) = some i := Option.some.inj (show some none = some (some i) from h)
    cases e
  | 55, i, _, h => by
    have e : (none : Option FnI) = some i := Option.some.inj (show some none = some (some i) from h)
    cases e
  | 56, i, _, h => by
    have e : (none : Option FnI) = some i := Option.some.inj (show some none = some (some i) from h)
    cases e
  | 57, i, _, h => by
    have e : (none : Option FnI) = some i := Option.some.inj (show some none = some (some i) from h)
    cases e
  | 58, i, _, h => by
    have e : (none : Option FnI) = some i := Option.some.inj (show some none = some (some i) from h)
    cases e
  | 59, i, _, h => by
    have e : (none : Option FnI) = some i := Option.some.inj (show some none = some (some i) from h)
    cases e
  | 60, i, _, h => by
    have e : (none : Option FnI) = some i := Option.some.inj (show some none = some (some i) from h)
    cases e
  | 61, i, _, h => by
    have e : (none : Option FnI) = some i := Option.some.inj (show some none = some (some i) from h)
    cases e
  | 62, i, _, h => by
    have e : (none : Option FnI) = some i := Option.some.inj (show some none = some (some i) from h)
    cases e
  | 63, i, _, h => by
    have e : (none : Option FnI) = some i := Option.some.inj (show some none = some (some i) from h)
    cases e
  | 64, i, _, h => by
    have e : (none : Option FnI) = some i := Option.some.inj (show some none = some (some i) from h)
    cases e
  | 65, i, _, h => by
    have e : (none : Option FnI) = some i := Option.some.inj (show some none = some (some i) from h)
    cases e
  | 66, i, _, h => by
    have e : (none : Option FnI) = some i := Option.some.inj (show some none = some (some i) from h)
    cases e
  | 67, i, _, h => by
    have e : (none : Option FnI) = some i := Option.some.inj (show some none = some (some i) from h)
    cases e
  | 68, i, _, h => by
    have e : (none : Option FnI) = some i := Option.some.inj (show some none = some (some i) from h)
    cases e
  | 69, i, _, h => by
    have e : (none : Option FnI) = some i := Option.some.inj (show some none = some (some i) from h)
    cases e
  | 70, i, _, h => by
    have e : (none : Option FnI) = some i := Option.some.inj (show some none = some (some i) from h)
    cases e
  | 71, i, _, h => by
    have e : (none : Option FnI) = some i := Option.some.inj (show some none = some (some i) from h)
    cases e
  | 72, i, _, h => by
    have e : (none : Option FnI) = some i := Option.some.inj (show some none = some (some i) from h)
    cases e
  | 73, i, _, h => by
    have e : (none : Option FnI) = some i := Option.some.inj (show some none = some (some i) from h)
    cases e
  | 74, i, _, h => by
    have e : some (⟨c74, 27, Go.Proofs.Tryd.f74.results.toList, o74⟩ : FnI) = some i := Option.some.inj (show some (some _) = some (some i) from h)
    cases e
    exact fn74
  | 75, i, _, h => by
    have e : some (⟨c75, 28, Go.Proofs.Tryd.f75.results.toList, o75⟩ : FnI) = some i := Option.some.inj (show some (some _) = some (some i) from h)
    cases e
    exact fn75
  | 76, i, _, h => by
    have e : some (⟨c76, 13, Go.Proofs.Tryd.f76.results.toList, o76⟩ : FnI) = some i := Option.some.inj (show some (some _) = some (some i) from h)
    cases e
    exact fn76
  | 77, i, _, h => by
    have e : some (⟨c77, 35, Go.Proofs.Tryd.f77.results.toList, o77⟩ : FnI) = some i := Option.some.inj (show some (some _) = some (some i) from h)
    cases e
    exact fn77
  | 78, i, _, h => by
    have e : some (⟨c78, 23, Go.Proofs.Tryd.f78.results.toList, o78⟩ : FnI) = some i := Option.some.inj (show some (some _) = some (some i) from h)
    cases e
    exact fn78
  | 79, i, _, h => by
    have e : some (⟨c79, 22, Go.Proofs.Tryd.f79.results.toList, o79⟩ : FnI) = some i := Option.some.inj (show some (some _) = some (some i) from h)
    cases e
    exact fn79
  | 80, i, _, h => by
    have e : some (⟨c80, 14, Go.Proofs.Tryd.f80.results.toList, o80⟩ : FnI) = some i := Option.some.inj (show some (some _) = some (some i) from h)
    cases e
    exact fn80
  | 81, i, _, h => by
    have e : (none : Option FnI) = some i := Option.some.inj (show some none = some (some i) from h)
    cases e
  | 82, i, _, h => by
    have e : some (⟨c82, 27, Go.Proofs.Tryd.f82.results.toList, o82⟩ : FnI) = some i := Option.some.inj (show some (some _) = some (some i) from h)
    cases e
    exact fn82
  | 83, i, _, h => by
    have e : some (⟨c83, 26, Go.Proofs.Tryd.f83.results.toList, o83⟩ : FnI) = some i := Option.some.inj (show some (some _) = some (some i) from h)
    cases e
    exact fn83
  | 84, i, _, h => by
    have e : some (⟨c84, 20, Go.Proofs.Tryd.f84.results.toList, o84⟩ : FnI) = some i := Option.some.inj (show some (some _) = some (some i) from h)
    cases e
    exact fn84
  | 85, i, _, h => by
    have e : (none : Option FnI) = some i := Option.some.inj (show some none = some (some i) from h)
    cases e
  | 86, i, _, h => by
    have e : (none : Option FnI) = some i := Option.some.inj (show some none = some (some i) from h)
    cases e
  | 87, i, _, h => by
    have e : (none : Option FnI) = some i := Option.some.inj (show some none = some (some i) from h)
    cases e
  | 88, i, _, h => by
    have e : (none : Option FnI) = some i := Option.some.inj (show some none = some (some i) from h)
    cases e
  | 89, i, _, h => by
    have e : (none : Option FnI) = some i := Option.some.inj (show some none = some (some i) from h)
    cases e
  | 90, i, _, h => by
    have e : (none : Option FnI) = some i := Option.some.inj (show some none = some (some i) from h)
    cases e
  | 91, i, _, h => by
    have e : (none : Option FnI) = some i := Option.some.inj (show some none = some (some i) from h)
    cases e
  | 92, i, _, h => by
    have e : (none : Option FnI) = some i := Option.some.inj (show some none = some (some i) from h)
    cases e
  | 93, i, _, h => by
    have e : (none : Option FnI) = some i := Option.some.inj (show some none = some (some i) from h)
    cases e
  | 94, i, _, h => by
    have e : (none : Option FnI) = some i := Option.some.inj (show some none = some (some i) from h)
    cases e
  | 95, i, _, h => by
    have e : (none : Option FnI) = some i := Option.some.inj (show some none = some (some i) from h)
    cases e
  | 96, i, _, h => by
    have e : (none : Option FnI) = some i := Option.some.inj (show some none = some (some i) from h)
    cases e
  | 97, i, _, h => by
    have e : (none : Option FnI) = some i := Option.some.inj (show some none = some (some i) from h)
    cases e
  | 98, i, _, h => by
    have e : (none : Option FnI) = some i := Option.some.inj (show some none = some (some i) from h)
    cases e
  | 99, i, _, h => by
    have e : (none : Option FnI) = some i := Option.some.inj (show some none = some (some i) from h)
    cases e
  | 100, i, _, h => by
    have e : (none : Option FnI) = some i := Option.some.inj (show some none = some (some i) from h)
    cases e
  | 101, i, _, h => by
    have e : (none : Option FnI) = some i := Option.some.inj (show some none = some (some i) from h)
    cases e
  | 102, i, _, h => by
    have e : (none : Option FnI) = some i := Option.some.inj (show some none = some (some i) from h)
    cases e
  | 103, i, _, h => by
    have e : (none : Option FnI) = some i := Option.some.inj (show some none = some (some i) from h)
    cases e
  | 104, i, _, h => by
    have e : (none : Option FnI) = some i := Option.some.inj (show some none = some (some i) from h)
    cases e
  | 105, i, _, h => by
    have e : some (⟨c105, 13, Go.Proofs.Tryd.f105.results.toList, o105⟩ : FnI) = some i := Option.some.inj (show some (some _) = some (some i) from h)
    cases e
    exact fn105
  | 106, i, _, h => by
    have e : some (⟨c106, 104, Go.Proofs.Tryd.f106.results.toList, o106⟩ : FnI) = some i := Option.some.inj (show some (some _) = some (some i) from h)
    cases e
    exact fn106
  | 107, i, _, h => by
    have e : some (⟨c107, 11, Go.Proofs.Tryd.f107.results.toList, o107⟩ : FnI) = some i := Option.some.inj (show some (some _) = some (some i) from h)
    cases e
    exact fn107
  | 108, i, _, h => by
    have e : (none : Option FnI) = some i := Option.some.inj (show some none = some (some i) from h)
    cases e
  | 109, i, _, h => by
    have e : some (⟨c109, 15, Go.Proofs.Tryd.f109.results.toList, o109⟩ : FnI) = some i := Option.some.inj (show some (some _) = some (some i) from h)
    cases e
    exact fn109
  | n + 110, i, hlt, h => by omega
theorem fns0 : ∀ f i, E0.fs f = some i → FnOk Go.Proofs.Tryd.prog E0 f i := by
  intro f i h
  have hl : fss[f]? = some (some i) := by
    have h : (fss[f]?).getD none = some i := h
    cases hl : fss[f]? with
    | none => rw [hl] at h; cases h
    | some o => rw [hl] at h; simp only [Option.getD_some] at h; rw [h]
  refine ⟨?_, fnsB_ok code0 hl⟩
  have hlt : f < 110 := (List.getElem?_eq_some_iff.1 hl).1
  exact fnAll f i hlt hl
theorem env0 : EnvOk Go.Proofs.Tryd.prog E0 J0 := ⟨tabOk0, byte0, by kernel_rfl, fns0, ext0, j0_stays⟩
end Go.Proofs.YtnkelipioodhjaaDoor.Abs
