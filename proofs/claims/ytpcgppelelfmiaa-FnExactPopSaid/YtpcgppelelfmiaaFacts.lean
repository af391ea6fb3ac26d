/- The facts of the program's tables (written by gen.py). -/
import Derived.Test.YtpcgppelelfmiaaChecked
import Derived.Test.YtpcgppelelfmiaaFns
import Derived.Test.YtpcgppelelfmiaaEnv
set_option linter.unusedVariables false
set_option linter.unusedSimpArgs false
set_option maxRecDepth 100000
namespace Go.Proofs.Ytpcgppelelfmiaa.Abs
open Go
theorem tab0 : tabB Go.Proofs.Try.prog 0 tis = true := by kernel_rfl
theorem code0 : fnsB E0 fss = true := by kernel_rfl
theorem tabOk0 : TabOk Go.Proofs.Try.prog ti0 := by
  intro t i h
  unfold ti0 at h
  cases hl : tis[t]? with
  | none => rw [hl] at h; cases h
  | some o =>
    rw [hl] at h
    simp only [Option.getD_some] at h
    subst h
    simpa using (tabB_ok tis 0 t i tab0 hl).1
theorem byte0 : ∀ t i, ti0 t = some i → i.ik = some .u8 → i.size = 1 := by
  intro t i h
  unfold ti0 at h
  cases hl : tis[t]? with
  | none => rw [hl] at h; cases h
  | some o =>
    rw [hl] at h
    simp only [Option.getD_some] at h
    subst h
    exact (tabB_ok tis 0 t i tab0 hl).2
theorem fn23 : ∃ fn, Go.Proofs.Try.prog.funcs[23]? = some fn ∧ (fn.name == "runtime.NumGoroutine") = false ∧ fn.body = some c23 ∧ fn.ntmps = 12 ∧ fn.results.toList = Go.Proofs.Try.f23.results.toList := ⟨Go.Proofs.Try.f23, Go.Proofs.Try.func23, by kernel_rfl, by kernel_rfl, rfl, rfl⟩
theorem fn14 : ∃ fn, Go.Proofs.Try.prog.funcs[14]? = some fn ∧ (fn.name == "runtime.NumGoroutine") = false ∧ fn.body = some c14 ∧ fn.ntmps = 19 ∧ fn.results.toList = Go.Proofs.Try.f14.results.toList := ⟨Go.Proofs.Try.f14, Go.Proofs.Try.func14, by kernel_rfl, by kernel_rfl, rfl, rfl⟩
theorem fn4 : ∃ fn, Go.Proofs.Try.prog.funcs[4]? = some fn ∧ (fn.name == "runtime.NumGoroutine") = false ∧ fn.body = some c4 ∧ fn.ntmps = 27 ∧ fn.results.toList = Go.Proofs.Try.f4.results.toList := ⟨Go.Proofs.Try.f4, Go.Proofs.Try.func4, by kernel_rfl, by kernel_rfl, rfl, rfl⟩
theorem fn24 : ∃ fn, Go.Proofs.Try.prog.funcs[24]? = some fn ∧ (fn.name == "runtime.NumGoroutine") = false ∧ fn.body = some c24 ∧ fn.ntmps = 22 ∧ fn.results.toList = Go.Proofs.Try.f24.results.toList := ⟨Go.Proofs.Try.f24, Go.Proofs.Try.func24, by kernel_rfl, by kernel_rfl, rfl, rfl⟩
theorem fn17 : ∃ fn, Go.Proofs.Try.prog.funcs[17]? = some fn ∧ (fn.name == "runtime.NumGoroutine") = false ∧ fn.body = some c17 ∧ fn.ntmps = 18 ∧ fn.results.toList = Go.Proofs.Try.f17.results.toList := ⟨Go.Proofs.Try.f17, Go.Proofs.Try.func17, by kernel_rfl, by kernel_rfl, rfl, rfl⟩
theorem fn6 : ∃ fn, Go.Proofs.Try.prog.funcs[6]? = some fn ∧ (fn.name == "runtime.NumGoroutine") = false ∧ fn.body = some c6 ∧ fn.ntmps = 23 ∧ fn.results.toList = Go.Proofs.Try.f6.results.toList := ⟨Go.Proofs.Try.f6, Go.Proofs.Try.func6, by kernel_rfl, by kernel_rfl, rfl, rfl⟩
theorem fn16 : ∃ fn, Go.Proofs.Try.prog.funcs[16]? = some fn ∧ (fn.name == "runtime.NumGoroutine") = false ∧ fn.body = some c16 ∧ fn.ntmps = 14 ∧ fn.results.toList = Go.Proofs.Try.f16.results.toList := ⟨Go.Proofs.Try.f16, Go.Proofs.Try.func16, by kernel_rfl, by kernel_rfl, rfl, rfl⟩
theorem fn15 : ∃ fn, Go.Proofs.Try.prog.funcs[15]? = some fn ∧ (fn.name == "runtime.NumGoroutine") = false ∧ fn.body = some c15 ∧ fn.ntmps = 21 ∧ fn.results.toList = Go.Proofs.Try.f15.results.toList := ⟨Go.Proofs.Try.f15, Go.Proofs.Try.func15, by kernel_rfl, by kernel_rfl, rfl, rfl⟩
theorem fn5 : ∃ fn, Go.Proofs.Try.prog.funcs[5]? = some fn ∧ (fn.name == "runtime.NumGoroutine") = false ∧ fn.body = some c5 ∧ fn.ntmps = 17 ∧ fn.results.toList = Go.Proofs.Try.f5.results.toList := ⟨Go.Proofs.Try.f5, Go.Proofs.Try.func5, by kernel_rfl, by kernel_rfl, rfl, rfl⟩
theorem fn26 : ∃ fn, Go.Proofs.Try.prog.funcs[26]? = some fn ∧ (fn.name == "runtime.NumGoroutine") = false ∧ fn.body = some c26 ∧ fn.ntmps = 18 ∧ fn.results.toList = Go.Proofs.Try.f26.results.toList := ⟨Go.Proofs.Try.f26, Go.Proofs.Try.func26, by kernel_rfl, by kernel_rfl, rfl, rfl⟩
theorem fn25 : ∃ fn, Go.Proofs.Try.prog.funcs[25]? = some fn ∧ (fn.name == "runtime.NumGoroutine") = false ∧ fn.body = some c25 ∧ fn.ntmps = 9 ∧ fn.results.toList = Go.Proofs.Try.f25.results.toList := ⟨Go.Proofs.Try.f25, Go.Proofs.Try.func25, by kernel_rfl, by kernel_rfl, rfl, rfl⟩
theorem fn18 : ∃ fn, Go.Proofs.Try.prog.funcs[18]? = some fn ∧ (fn.name == "runtime.NumGoroutine") = false ∧ fn.body = some c18 ∧ fn.ntmps = 20 ∧ fn.results.toList = Go.Proofs.Try.f18.results.toList := ⟨Go.Proofs.Try.f18, Go.Proofs.Try.func18, by kernel_rfl, by kernel_rfl, rfl, rfl⟩
theorem fn7 : ∃ fn, Go.Proofs.Try.prog.funcs[7]? = some fn ∧ (fn.name == "runtime.NumGoroutine") = false ∧ fn.body = some c7 ∧ fn.ntmps = 18 ∧ fn.results.toList = Go.Proofs.Try.f7.results.toList := ⟨Go.Proofs.Try.f7, Go.Proofs.Try.func7, by kernel_rfl, by kernel_rfl, rfl, rfl⟩
theorem fn19 : ∃ fn, Go.Proofs.Try.prog.funcs[19]? = some fn ∧ (fn.name == "runtime.NumGoroutine") = false ∧ fn.body = some c19 ∧ fn.ntmps = 26 ∧ fn.results.toList = Go.Proofs.Try.f19.results.toList := ⟨Go.Proofs.Try.f19, Go.Proofs.Try.func19, by kernel_rfl, by kernel_rfl, rfl, rfl⟩
theorem fn9 : ∃ fn, Go.Proofs.Try.prog.funcs[9]? = some fn ∧ (fn.name == "runtime.NumGoroutine") = false ∧ fn.body = some c9 ∧ fn.ntmps = 26 ∧ fn.results.toList = Go.Proofs.Try.f9.results.toList := ⟨Go.Proofs.Try.f9, Go.Proofs.Try.func9, by kernel_rfl, by kernel_rfl, rfl, rfl⟩
theorem fn8 : ∃ fn, Go.Proofs.Try.prog.funcs[8]? = some fn ∧ (fn.name == "runtime.NumGoroutine") = false ∧ fn.body = some c8 ∧ fn.ntmps = 27 ∧ fn.results.toList = Go.Proofs.Try.f8.results.toList := ⟨Go.Proofs.Try.f8, Go.Proofs.Try.func8, by kernel_rfl, by kernel_rfl, rfl, rfl⟩
theorem fn20 : ∃ fn, Go.Proofs.Try.prog.funcs[20]? = some fn ∧ (fn.name == "runtime.NumGoroutine") = false ∧ fn.body = some c20 ∧ fn.ntmps = 20 ∧ fn.results.toList = Go.Proofs.Try.f20.results.toList := ⟨Go.Proofs.Try.f20, Go.Proofs.Try.func20, by kernel_rfl, by kernel_rfl, rfl, rfl⟩
theorem fn21 : ∃ fn, Go.Proofs.Try.prog.funcs[21]? = some fn ∧ (fn.name == "runtime.NumGoroutine") = false ∧ fn.body = some c21 ∧ fn.ntmps = 20 ∧ fn.results.toList = Go.Proofs.Try.f21.results.toList := ⟨Go.Proofs.Try.f21, Go.Proofs.Try.func21, by kernel_rfl, by kernel_rfl, rfl, rfl⟩
theorem fn10 : ∃ fn, Go.Proofs.Try.prog.funcs[10]? = some fn ∧ (fn.name == "runtime.NumGoroutine") = false ∧ fn.body = some c10 ∧ fn.ntmps = 44 ∧ fn.results.toList = Go.Proofs.Try.f10.results.toList := ⟨Go.Proofs.Try.f10, Go.Proofs.Try.func10, by kernel_rfl, by kernel_rfl, rfl, rfl⟩
theorem fn11 : ∃ fn, Go.Proofs.Try.prog.funcs[11]? = some fn ∧ (fn.name == "runtime.NumGoroutine") = false ∧ fn.body = some c11 ∧ fn.ntmps = 10 ∧ fn.results.toList = Go.Proofs.Try.f11.results.toList := ⟨Go.Proofs.Try.f11, Go.Proofs.Try.func11, by kernel_rfl, by kernel_rfl, rfl, rfl⟩
theorem fn22 : ∃ fn, Go.Proofs.Try.prog.funcs[22]? = some fn ∧ (fn.name == "runtime.NumGoroutine") = false ∧ fn.body = some c22 ∧ fn.ntmps = 22 ∧ fn.results.toList = Go.Proofs.Try.f22.results.toList := ⟨Go.Proofs.Try.f22, Go.Proofs.Try.func22, by kernel_rfl, by kernel_rfl, rfl, rfl⟩
theorem fn12 : ∃ fn, Go.Proofs.Try.prog.funcs[12]? = some fn ∧ (fn.name == "runtime.NumGoroutine") = false ∧ fn.body = some c12 ∧ fn.ntmps = 52 ∧ fn.results.toList = Go.Proofs.Try.f12.results.toList := ⟨Go.Proofs.Try.f12, Go.Proofs.Try.func12, by kernel_rfl, by kernel_rfl, rfl, rfl⟩
theorem fn13 : ∃ fn, Go.Proofs.Try.prog.funcs[13]? = some fn ∧ (fn.name == "runtime.NumGoroutine") = false ∧ fn.body = some c13 ∧ fn.ntmps = 12 ∧ fn.results.toList = Go.Proofs.Try.f13.results.toList := ⟨Go.Proofs.Try.f13, Go.Proofs.Try.func13, by kernel_rfl, by kernel_rfl, rfl, rfl⟩
theorem fn3 : ∃ fn, Go.Proofs.Try.prog.funcs[3]? = some fn ∧ (fn.name == "runtime.NumGoroutine") = false ∧ fn.body = some c3 ∧ fn.ntmps = 133 ∧ fn.results.toList = Go.Proofs.Try.f3.results.toList := ⟨Go.Proofs.Try.f3, Go.Proofs.Try.func3, by kernel_rfl, by kernel_rfl, rfl, rfl⟩
theorem fnAll : ∀ (f : Nat) (i : FnI), f < 27 → fss[f]? = some (some i) → ∃ fn, Go.Proofs.Try.prog.funcs[f]? = some fn ∧ (fn.name == "runtime.NumGoroutine") = false ∧ fn.body = some i.body ∧ fn.ntmps = i.ntmps ∧ fn.results.toList = i.results
  | 0, i, _, h => by
    have e : (none : Option FnI) = some i := Option.some.inj (show some none = some (some i) from h)
    cases e
  | 1, i, _, h => by
    have e : (none : Option FnI) = some i := Option.some.inj (show some none = some (some i) from h)
    cases e
  | 2, i, _, h => by
    have e : (none : Option FnI) = some i := Option.some.inj (show some none = some (some i) from h)
    cases e
  | 3, i, _, h => by
    have e : some (⟨c3, 133, Go.Proofs.Try.f3.results.toList, o3⟩ : FnI) = some i := Option.some.inj (show some (some _) = some (some i) from h)
    cases e
    exact fn3
  | 4, i, _, h => by
    have e : some (⟨c4, 27, Go.Proofs.Try.f4.results.toList, o4⟩ : FnI) = some i := Option.some.inj (show some (some _) = some (some i) from h)
    cases e
    exact fn4
  | 5, i, _, h => by
    have e : some (⟨c5, 17, Go.Proofs.Try.f5.results.toList, o5⟩ : FnI) = some i := Option.some.inj (show some (some _) = some (some i) from h)
    cases e
    exact fn5
  | 6, i, _, h => by
    have e : some (⟨c6, 23, Go.Proofs.Try.f6.results.toList, o6⟩ : FnI) = some i := Option.some.inj (show some (some _) = some (some i) from h)
    cases e
    exact fn6
  | 7, i, _, h => by
    have e : some (⟨c7, 18, Go.Proofs.Try.f7.results.toList, o7⟩ : FnI) = some i := Option.some.inj (show some (some _) = some (some i) from h)
    cases e
    exact fn7
  | 8, i, _, h => by
    have e : some (⟨c8, 27, Go.Proofs.Try.f8.results.toList, o8⟩ : FnI) = some i := Option.some.inj (show some (some _) = some (some i) from h)
    cases e
    exact fn8
  | 9, i, _, h => by
    have e : some (⟨c9, 26, Go.Proofs.Try.f9.results.toList, o9⟩ : FnI) = some i := Option.some.inj (show some (some _) = some (some i) from h)
    cases e
    exact fn9
  | 10, i, _, h => by
    have e : some (⟨c10, 44, Go.Proofs.Try.f10.results.toList, o10⟩ : FnI) = some i := Option.some.inj (show some (some _) = some (some i) from h)
    cases e
    exact fn10
  | 11, i, _, h => by
    have e : some (⟨c11, 10, Go.Proofs.Try.f11.results.toList, o11⟩ : FnI) = some i := Option.some.inj (show some (some _) = some (some i) from h)
    cases e
    exact fn11
  | 12, i, _, h => by
    have e : some (⟨c12, 52, Go.Proofs.Try.f12.results.toList, o12⟩ : FnI) = some i := Option.some.inj (show some (some _) = some (some i) from h)
    cases e
    exact fn12
  | 13, i, _, h => by
    have e : some (⟨c13, 12, Go.Proofs.Try.f13.results.toList, o13⟩ : FnI) = some i := Option.some.inj (show some (some _) = some (some i) from h)
    cases e
    exact fn13
  | 14, i, _, h => by
    have e : some (⟨c14, 19, Go.Proofs.Try.f14.results.toList, o14⟩ : FnI) = some i := Option.some.inj (show some (some _) = some (some i) from h)
    cases e
    exact fn14
  | 15, i, _, h => by
    have e : some (⟨c15, 21, Go.Proofs.Try.f15.results.toList, o15⟩ : FnI) = some i := Option.some.inj (show some (some _) = some (some i) from h)
    cases e
    exact fn15
  | 16, i, _, h => by
    have e : some (⟨c16, 14, Go.Proofs.Try.f16.results.toList, o16⟩ : FnI) = some i := Option.some.inj (show some (some _) = some (some i) from h)
    cases e
    exact fn16
  | 17, i, _, h => by
    have e : some (⟨c17, 18, Go.Proofs.Try.f17.results.toList, o17⟩ : FnI) = some i := Option.some.inj (show some (some _) = some (some i) from h)
    cases e
    exact fn17
  | 18, i, _, h => by
    have e : some (⟨c18, 20, Go.Proofs.Try.f18.results.toList, o18⟩ : FnI) = some i := Option.some.inj (show some (some _) = some (some i) from h)
    cases e
    exact fn18
  | 19, i, _, h => by
    have e : some (⟨c19, 26, Go.Proofs.Try.f19.results.toList, o19⟩ : FnI) = some i := Option.some.inj (show some (some _) = some (some i) from h)
    cases e
    exact fn19
  | 20, i, _, h => by
    have e : some (⟨c20, 20, Go.Proofs.Try.f20.results.toList, o20⟩ : FnI) = some i := Option.some.inj (show some (some _) = some (some i) from h)
    cases e
    exact fn20
  | 21, i, _, h => by
    have e : some (⟨c21, 20, Go.Proofs.Try.f21.results.toList, o21⟩ : FnI) = some i := Option.some.inj (show some (some _) = some (some i) from h)
    cases e
    exact fn21
  | 22, i, _, h => by
    have e : some (⟨c22, 22, Go.Proofs.Try.f22.results.toList, o22⟩ : FnI) = some i := Option.some.inj (show some (some _) = some (some i) from h)
    cases e
    exact fn22
  | 23, i, _, h => by
    have e : some (⟨c23, 12, Go.Proofs.Try.f23.results.toList, o23⟩ : FnI) = some i := Option.some.inj (show some (some _) = some (some i) from h)
    cases e
    exact fn23
  | 24, i, _, h => by
    have e : some (⟨c24, 22, Go.Proofs.Try.f24.results.toList, o24⟩ : FnI) = some i := Option.some.inj (show some (some _) = some (some i) from h)
    cases e
    exact fn24
  | 25, i, _, h => by
    have e : some (⟨c25, 9, Go.Proofs.Try.f25.results.toList, o25⟩ : FnI) = some i := Option.some.inj (show some (some _) = some (some i) from h)
    cases e
    exact fn25
  | 26, i, _, h => by
    have e : some (⟨c26, 18, Go.Proofs.Try.f26.results.toList, o26⟩ : FnI) = some i := Option.some.inj (show some (some _) = some (some i) from h)
    cases e
    exact fn26
  | n + 27, i, hlt, h => by omega
theorem fns0 : ∀ f i, E0.fs f = some i → FnOk Go.Proofs.Try.prog E0 f i := by
  intro f i h
  have hl : fss[f]? = some (some i) := by
    have h : (fss[f]?).getD none = some i := h
    cases hl : fss[f]? with
    | none => rw [hl] at h; cases h
    | some o => rw [hl] at h; simp only [Option.getD_some] at h; rw [h]
  refine ⟨?_, fnsB_ok code0 hl⟩
  have hlt : f < 27 := (List.getElem?_eq_some_iff.1 hl).1
  exact fnAll f i hlt hl
def J0 (w : World) : Prop := True
theorem env0 : EnvOk Go.Proofs.Try.prog E0 J0 := ⟨tabOk0, byte0, by kernel_rfl, fns0, (fun f g h => by cases h), (fun _ _ _ _ => trivial)⟩
end Go.Proofs.Ytpcgppelelfmiaa.Abs
