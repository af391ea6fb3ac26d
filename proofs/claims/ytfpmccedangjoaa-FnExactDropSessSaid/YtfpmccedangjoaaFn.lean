/- A function: its body; its arguments as trees, its result as a tree. -/
import Derived.Test.YtfpmccedangjoaaCode
set_option linter.unusedVariables false
set_option linter.unusedSimpArgs false
namespace Go.Proofs.Ytfpmccedangjoaa.Abs
open Go Go.RowKit

variable {P : Program} {β : Type}

/-- What is asked of a function that the evaluator knows. -/
structure FnOk (P : Program) (E : Env) (f : FuncId) (i : FnI) : Prop where
  fn : ∃ fn, P.funcs[f]? = some fn ∧ (fn.name == "runtime.NumGoroutine") = false ∧ fn.body = some i.body ∧ fn.ntmps = i.ntmps ∧ fn.results.toList = i.results
  code : codeB E i.ords i.ntmps i.body = true

theorem gt_init : ∀ (n i : Nat) (args : List AV) (j : Nat), gt (initT n i args) (i + j) = if j < n then (args[j]?).getD (.sc undef) else .any
  | 0, i, args, j => by simp [initT, gt]
  | n + 1, i, args, j => by
    have hne : ∀ j, Nat.beq i (i + (j + 1)) = false := by
      intro j
      cases hb : Nat.beq i (i + (j + 1))
      · rfl
      · have := Nat.eq_of_beq_eq_true hb; omega
    cases args with
    | nil =>
      simp only [initT, gt]
      cases j with
      | zero => simp [Nat.beq_refl]
      | succ j =>
        rw [hne j]
        have := gt_init n (i + 1) [] j
        rw [show i + 1 + j = i + (j + 1) by omega] at this
        simp [this]
    | cons x xs =>
      simp only [initT, gt]
      cases j with
      | zero => simp [Nat.beq_refl]
      | succ j =>
        rw [hne j]
        have := gt_init n (i + 1) xs j
        rw [show i + 1 + j = i + (j + 1) by omega] at this
        simp [this]

theorem body_sound {E : Env} (hT : TabOk P E.ti) (hsz : ∀ t i, E.ti t = some i → i.ik = some .u8 → i.size = 1) {cal : Cal} {w0 : World} (hc : CallOk P E cal w0) (hm : P.follows .mixedOrders = true) {n : Nat} {f : FuncId} {i : FnI} (hf : FnOk P E f i)
    {w : World} {φ : Phi} {H : Heap} {args : List AV} {us : List Value} {k : AV → Heap → Option β} {r : β} (h : evalBody E.ti (prims E cal β) n i args H k = some r) (hr : HR w0 φ w H) (hl : us.length = args.length) (hle : args.length ≤ i.ntmps) (ha : VRs w0 φ args (fun j => us[j]?)) :
    (callFunc f us.toArray).run P w = .ok (.enter f us.toArray) w ∧ Calls P f us.toArray w fun e w' => ∃ u, e = .returned u ∧ Left w0 φ k r u w' := by
  obtain ⟨⟨fn, h1, h2, h3, h4, h5⟩, hcode⟩ := hf
  have hrun : ∀ w, (program).run P w = .ok P w := fun _ => rfl
  refine ⟨?_, ?_⟩
  · simp only [callFunc, Sem.run_bind, hrun, Result.andThen_ok, h1, h2, h3, Option.isNone_some, Bool.false_eq_true, if_false, Sem.run_pure]
  · have hs : St w0 φ (initT i.ntmps 0 args) H i.ntmps { tmps := us.toArray ++ Array.replicate (fn.ntmps - us.toArray.size) undef, defers := [] } w := by
      refine ⟨hr, fun j => ?_, by simp; omega, rfl⟩
      have hg := gt_init i.ntmps 0 args j
      rw [Nat.zero_add] at hg
      rw [hg]
      split
      · rename_i hj
        rw [VRs_iff] at ha
        cases hx : args[j]? with
        | some x =>
          obtain ⟨u, e1, e2⟩ := ha j x hx
          have hlt : j < us.length := (List.getElem?_eq_some_iff.1 e1).1
          simp only [Option.getD_some]
          have : (us.toArray ++ Array.replicate (fn.ntmps - us.toArray.size) undef).getD j undef = u := by
            simp [Array.getD_eq_getD_getElem?, Array.getElem?_append, hlt]
            have := (List.getElem?_eq_some_iff.1 e1).2
            exact this
          rw [this]
          exact e2
        | none =>
          have hlt : ¬ j < us.length := by rw [hl]; have := List.getElem?_eq_none_iff.1 hx; omega
          simp only [Option.getD_none]
          have : (us.toArray ++ Array.replicate (fn.ntmps - us.toArray.size) undef).getD j undef = undef := by
            simp only [Array.getD_eq_getD_getElem?]
            rw [Array.getElem?_append_right (by simpa using Nat.le_of_not_lt hlt)]
            rw [Array.getElem?_replicate]
            split <;> rfl
          rw [this]
          exact VR_sc _ _ _
      · rw [VR]; trivial
    refine calls_of_wp h1 h3 (wp_mono (code_sound hT hsz hc hm i.body φ _ H _ w _ hcode hs h) fun e a w' ⟨ex, φ', tm, H', g1, g2, g3, g4⟩ => ?_)
    have fin : (resK E.ti (prims E cal β) tm H' i.results fun l => k (packA l) H') = some r → ∃ v, (results fn a.tmps).run P w' = .ok v w' ∧ ∃ u, Ending.returned v = .returned u ∧ Left w0 φ k r u w' := by
      intro hk
      obtain ⟨vs, us', q1, q2, q3, q4, q5⟩ := results_sound hT g3.hr g3.tr _ _ hk
      rw [← h5] at q1
      have hq : (results fn a.tmps).run P w' = .ok (if h : us'.toArray.size = 1 then us'.toArray[0] else .tuple us'.toArray) w' := by
        simp only [results, Sem.run_bind]
        rw [Array.mapM_eq_mapM_toList]
        simp only [Sem.run_map, Sem.run_pure]
        erw [q1]
        rfl
      refine ⟨_, hq, _, rfl, packA vs, φ', H', q5, g2, g3.hr, ?_⟩
      by_cases h1' : us'.length = 1
      · rw [dif_pos (by simpa using h1')]
        obtain ⟨u, rfl⟩ := List.length_eq_one_iff.1 h1'
        obtain ⟨v, rfl⟩ := List.length_eq_one_iff.1 (q2.symm.trans h1')
        rw [VRs] at q4
        obtain ⟨⟨u', e1, e2⟩, _⟩ := q4
        cases e1
        exact e2
      · rw [dif_neg (by simpa using h1')]
        have : packA vs = .tup vs := by
          match vs, q2 with
          | [], _ => rfl
          | [v], q2 => simp at q2; omega
          | _ :: _ :: _, _ => rfl
        rw [this, VR]
        exact ⟨us', rfl, q2, q4⟩
    cases e with
    | normal => cases g1; exact ⟨g3.defers, fin g4⟩
    | ret => cases g1; exact ⟨g3.defers, fin g4⟩
    | exit i => cases g1; cases g4
    | _ => cases g1

end Go.Proofs.Ytfpmccedangjoaa.Abs
