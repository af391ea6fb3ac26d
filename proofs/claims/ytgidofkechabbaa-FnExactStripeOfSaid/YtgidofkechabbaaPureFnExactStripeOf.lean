/- For every text of client bytes, the program's StripeOf returns what the reference's returns; no condition. -/
import Derived.Test.YtgidofkechabbaaPFnExactStripeOfx1
namespace Go.Proofs.Ytgidofkechabbaa.Pure
open Go.RowKit Go.Proofs.Ytgidofkechabbaa.PFnExactStripeOf Go.Proofs.YtgidofkechabbaaW.PrintWords Go.Proofs.YtgidofkechabbaaW.PrintLast

theorem stripe_both (s : ByteArray) (hn : s.size ≤ 1048576) (d : Nat) : ∀ (k : Nat) (i acc : Int), 0 ≤ i → i ≤ s.size → (s.size : Int) - i = d → d < k → 0 ≤ acc → acc ≤ 255 * i →
    ∃ r, spec_StripeOf.l0 k s (acc % 3) i = some r ∧ impl_StripeOf.l0 k s acc i = some r := by
  induction d with
  | zero =>
    intro k i acc h0 h1 hd hk ha hb
    obtain ⟨k, rfl⟩ : ∃ m, k = m + 1 := ⟨k - 1, by omega⟩
    refine ⟨acc % 3, ?_, ?_⟩
    · simp only [spec_StripeOf.l0]; rw [if_neg (by omega)]
    · simp only [impl_StripeOf.l0]; rw [if_neg (by omega), Int.tmod_eq_emod_of_nonneg ha]
  | succ d ih =>
    intro k i acc h0 h1 hd hk ha hb
    obtain ⟨k, rfl⟩ : ∃ m, k = m + 1 := ⟨k - 1, by omega⟩
    have hlt : i < (s.size : Int) := by omega
    obtain ⟨b0, b1⟩ := bt_range s i
    obtain ⟨r, e1, e2⟩ := ih k (i + 1) (acc + bt s i) (by omega) (by omega) (by omega) (by omega) (by omega) (by omega)
    have w1 : wrap64 (bt s i) = bt s i := by unfold wrap64; omega
    have w2 : wrap64 (i + 1) = i + 1 := by unfold wrap64; omega
    have w3 : wrap64 (acc + bt s i) = acc + bt s i := by unfold wrap64; omega
    have w4 : wrap64 (acc % 3 + bt s i) = acc % 3 + bt s i := by unfold wrap64; omega
    have w5 : Int.tmod (acc % 3 + bt s i) 3 = (acc + bt s i) % 3 := by rw [Int.tmod_eq_emod_of_nonneg (by omega)]; omega
    refine ⟨r, ?_, ?_⟩
    · simp only [spec_StripeOf.l0]; rw [if_pos hlt, if_pos h0, w1, w2, w4, w5]; exact e1
    · simp only [impl_StripeOf.l0]; rw [if_pos hlt, if_pos h0, w1, w2, w3]; exact e2

theorem FnExactStripeOf : laws_FnExactStripeOf.Pure := by
  intro s _
  by_cases h : (s.size : Int) > 1048576
  · exact ⟨0, by unfold laws_FnExactStripeOf.f; rw [if_pos h]⟩
  · obtain ⟨r, e1, e2⟩ := stripe_both s (by omega) s.size (s.size + 1) 0 0 (by omega) (by omega) (by omega) (by omega) (by omega) (by omega)
    refine ⟨s.size + 1, ?_⟩
    unfold laws_FnExactStripeOf.f spec_StripeOf.f impl_StripeOf.f
    rw [if_neg h]
    rw [show ((0 : Int) % 3) = 0 from rfl] at e1
    rw [e1, e2]
    simp

end Go.Proofs.Ytgidofkechabbaa.Pure
