/- For all two whole numbers, the program's PcOk returns what the reference's returns; no condition. -/
import Derived.Test.YtgidofkechabbaaPFnExactPcOkx1
namespace Go.Proofs.Ytgidofkechabbaa.Pure
open Go.RowKit Go.Proofs.Ytgidofkechabbaa.PFnExactPcOk Go.Proofs.YtgidofkechabbaaW.PrintWords Go.Proofs.YtgidofkechabbaaW.PrintLast

theorem pc_in : ∀ a b c, spec_l1In.f a b c = impl_within.f a b c := fun _ _ _ => rfl
theorem pc_some (a b c : Int) : ∃ r, impl_within.f a b c = some r := by unfold impl_within.f; split <;> exact ⟨_, rfl⟩
theorem pc_j (a b c : Int) (x : Bool) : spec_PcOk.j0 1 a b c x = impl_PcOk.j0 1 a b c x := rfl
theorem pc_j_some (a b c : Int) (x : Bool) : ∃ r, impl_PcOk.j0 1 a b c x = some r := by
  have h : ∀ p q, ∃ r, (impl_within.f b p q).bind (fun t => some t) = some r := fun p q => by
    obtain ⟨r, e⟩ := pc_some b p q
    exact ⟨r, by rw [e]; rfl⟩
  obtain ⟨r6, e6⟩ := pc_some b 0 3
  simp only [impl_PcOk.j0]
  split
  · exact h _ _
  · split
    · exact h _ _
    · split
      · exact h _ _
      · split
        · exact h _ _
        · split
          · rw [e6]
            simp only [Option.bind_some]
            split
            · exact ⟨_, rfl⟩
            · exact h _ _
          · split
            · exact ⟨_, rfl⟩
            · split <;> exact ⟨_, rfl⟩

theorem FnExactPcOk : laws_FnExactPcOk.Pure := by
  intro a b _ _
  refine ⟨1, ?_⟩
  have e : spec_PcOk.f 1 a b = impl_PcOk.f 1 a b := rfl
  obtain ⟨r, hr⟩ : ∃ r, impl_PcOk.f 1 a b = some r := by
    unfold impl_PcOk.f
    split <;> exact pc_j_some _ _ _ _
  unfold laws_FnExactPcOk.f
  rw [e, hr]
  simp

end Go.Proofs.Ytgidofkechabbaa.Pure
