/- For every list of whole numbers, the program's InOk returns what the reference's returns, and leaves the list as it was; no condition. -/
import Derived.Test.YtgidofkechabbaaPFnExactInOkx1
namespace Go.Proofs.Ytgidofkechabbaa.Pure
open Go.RowKit Go.Proofs.Ytgidofkechabbaa.PFnExactInOk Go.Proofs.YtgidofkechabbaaW.PrintWords Go.Proofs.YtgidofkechabbaaW.PrintLast

theorem set_all {α : Type} (xs ys : List α) (d : α) (n : Nat) (hn : n < xs.length) (hl : ys.length = xs.length) (h : ∀ j, j < n → ys[j]? = xs[j]?) :
    (ys.set n (xs.getD n d)).length = xs.length ∧ ∀ j, j < n + 1 → (ys.set n (xs.getD n d))[j]? = xs[j]? := by
  refine ⟨by simpa using hl, fun j hj => ?_⟩
  rw [List.getElem?_set]
  by_cases e : n = j
  · subst e
    rw [if_pos rfl, if_pos (by omega), List.getD_eq_getElem?_getD, List.getElem?_eq_getElem hn]
    rfl
  · rw [if_neg e]
    exact h j (by omega)
theorem all_alike {α : Type} (xs ys : List α) (hl : ys.length = xs.length) (h : ∀ j, j < xs.length → ys[j]? = xs[j]?) : ys = xs := by
  apply List.ext_getElem?
  intro j
  by_cases hj : j < xs.length
  · exact h j hj
  · rw [List.getElem?_eq_none (by omega), List.getElem?_eq_none (by omega)]

theorem to_ints (xs : List Int) (hx : xs.length ≤ 1048576) (d : Nat) : ∀ (k n : Nat) (ys : List Int), n ≤ xs.length → xs.length - n = d → d < k → ys.length = xs.length → (∀ j, j < n → ys[j]? = xs[j]?) →
    laws_toIntS.l0 k xs ys (n : Int) = some xs := by
  induction d with
  | zero =>
    intro k n ys h1 hd hk hl hj
    obtain ⟨k, rfl⟩ : ∃ m, k = m + 1 := ⟨k - 1, by omega⟩
    simp only [laws_toIntS.l0]
    rw [if_neg (by omega), all_alike xs ys hl (fun j h => hj j (by omega))]
  | succ d ih =>
    intro k n ys h1 hd hk hl hj
    obtain ⟨k, rfl⟩ : ∃ m, k = m + 1 := ⟨k - 1, by omega⟩
    have w : wrap64 ((n : Int) + 1) = ((n + 1 : Nat) : Int) := by unfold wrap64; omega
    obtain ⟨q1, q2⟩ := set_all xs ys 0 n (by omega) hl hj
    simp only [laws_toIntS.l0]
    rw [if_pos (by omega), if_pos (by omega), if_pos (by omega), w]
    exact ih k (n + 1) _ (by omega) (by omega) (by omega) q1 q2
theorem to_ints_all (xs : List Int) (hx : xs.length ≤ 1048576) (k : Nat) (hk : xs.length < k) : laws_toIntS.f k xs = some xs := by
  unfold laws_toIntS.f
  rw [if_pos (by omega), if_pos (by omega)]
  exact to_ints xs hx xs.length k 0 _ (by omega) (by omega) hk (by simp) (fun j h => by omega)

theorem eq_ints (xs : List Int) (hx : xs.length ≤ 1048576) (d : Nat) : ∀ (k : Nat) (i : Int), 0 ≤ i → i ≤ xs.length → (xs.length : Int) - i = d → d < k → laws_eqIntS.l0 k xs xs i = some true := by
  induction d with
  | zero =>
    intro k i h0 h1 hd hk
    obtain ⟨k, rfl⟩ : ∃ m, k = m + 1 := ⟨k - 1, by omega⟩
    simp only [laws_eqIntS.l0]
    rw [if_neg (by omega)]
  | succ d ih =>
    intro k i h0 h1 hd hk
    obtain ⟨k, rfl⟩ : ∃ m, k = m + 1 := ⟨k - 1, by omega⟩
    have w : wrap64 (i + 1) = i + 1 := by unfold wrap64; omega
    simp only [laws_eqIntS.l0]
    rw [if_pos (by omega), if_pos h0, if_pos (by omega), if_pos trivial, w]
    exact ih k (i + 1) (by omega) (by omega) (by omega) (by omega)

theorem in_within (a b c : Int) : ∃ r, spec_l1In.f a b c = some r := by unfold spec_l1In.f; split <;> exact ⟨_, rfl⟩
theorem in_id (a : Int) : impl_isId.f a = spec_l1In.f a 1 65535 := by
  obtain ⟨r, e⟩ := in_within a 1 65535
  have e' : impl_within.f a 1 65535 = some r := e
  unfold impl_isId.f
  rw [e', e]
  rfl
theorem in_ok (xs : List Int) (hx : xs.length ≤ 1048576) (d : Nat) : ∀ (k : Nat) (i : Int), 0 ≤ i → i ≤ xs.length → (xs.length : Int) - i = d → d < k →
    ∃ r, spec_InOk.l0 k xs i = some r ∧ impl_InOk.l0 k xs xs (xs.length : Int) i = some r := by
  induction d with
  | zero =>
    intro k i h0 h1 hd hk
    obtain ⟨k, rfl⟩ : ∃ m, k = m + 1 := ⟨k - 1, by omega⟩
    refine ⟨decide ((xs.length : Int) ≤ 4), ?_, ?_⟩
    · simp only [spec_InOk.l0]; rw [if_neg (by omega)]
    · simp only [impl_InOk.l0]; rw [if_neg (by omega)]
  | succ d ih =>
    intro k i h0 h1 hd hk
    obtain ⟨k, rfl⟩ : ∃ m, k = m + 1 := ⟨k - 1, by omega⟩
    have hlt : i < (xs.length : Int) := by omega
    have w : wrap64 (i + 1) = i + 1 := by unfold wrap64; omega
    have w' : wrap64 (i - 1) = i - 1 := by unfold wrap64; omega
    obtain ⟨r, e1, e2⟩ := ih k (i + 1) (by omega) (by omega) (by omega) (by omega)
    obtain ⟨b, eb⟩ := in_within (rd xs i) 1 65535
    simp only [spec_InOk.l0, impl_InOk.l0]
    rw [if_pos hlt, if_pos h0, if_pos hlt, if_pos h0, if_pos hlt, in_id, eb, w, w']
    simp only [Option.bind_some]
    cases b with
    | false => exact ⟨false, by simp, by simp⟩
    | true =>
      simp only [if_true]
      by_cases hp : i > 0
      · have g1 : (0 : Int) ≤ i - 1 := by omega
        have g2 : i - 1 < (xs.length : Int) := by omega
        by_cases hge : rd xs (i - 1) ≥ rd xs i
        · simp only [if_pos hp, if_pos g1, if_pos g2, if_pos hge]; exact ⟨false, rfl, rfl⟩
        · simp only [if_pos hp, if_pos g1, if_pos g2, if_neg hge]; exact ⟨r, e1, e2⟩
      · rw [if_neg hp, if_neg hp]; exact ⟨r, e1, e2⟩

theorem FnExactInOk : laws_FnExactInOk.Pure := by
  intro xs _ _ _
  by_cases h : (xs.length : Int) > 1048576
  · exact ⟨0, by unfold laws_FnExactInOk.f; rw [if_pos h]⟩
  · have hx : xs.length ≤ 1048576 := by omega
    obtain ⟨r, e1, e2⟩ := in_ok xs hx xs.length (xs.length + 1) 0 (by omega) (by omega) (by omega) (by omega)
    have e3 := eq_ints xs hx xs.length (xs.length + 1) 0 (by omega) (by omega) (by omega) (by omega)
    refine ⟨xs.length + 1, ?_⟩
    unfold laws_FnExactInOk.f
    rw [if_neg h, to_ints_all xs hx _ (by omega)]
    simp only [Option.bind_some]
    unfold spec_InOk.f impl_InOk.f laws_eqIntS.f
    rw [e1, e2, if_pos rfl, e3]
    simp

end Go.Proofs.Ytgidofkechabbaa.Pure
