/- A law's step: a structure is put into a place that was made before. -/
import Derived.Test.YtpcgppelelfmiaaDoorAt
set_option linter.unusedVariables false
set_option linter.unusedSimpArgs false
namespace Go.Proofs.YtpcgppelelfmiaaDoor.Abs
open Go

variable {β : Type} {H : Heap} {r : Option β}
theorem lm_store {i w : Nat} {z ys : List AV} {K : Heap → Option β} (hi : H[i]? = some ⟨z, true, true⟩) (hz : z.length = w) (hy : ys.length = w) (hl : ys.all isLeaf = true) (h : ∀ H', H'[i]? = some ⟨ys, true, true⟩ → Kept H H' i 1 → K H' = r) :
    pStore w (.ptr i 0) (.agg ys) H (fun H => K H) = r := by
  have hc : cellsA (.agg ys) = some ys := by
    show (if ys.all isLeaf then some ys else none) = _
    rw [if_pos hl]
  have li : i < H.length := (List.getElem?_eq_some_iff.1 hi).1
  rw [st_at w i 0 _ ⟨z, true, true⟩ ys _ _ hi hc hy (by show 0 + w ≤ z.length; omega) rfl]
  have hs : splice z 0 ys = ys := by
    unfold splice
    rw [List.take_zero, List.nil_append, List.drop_of_length_le (by rw [hz, hy]; omega), List.append_nil]
  simp only [hs]
  refine h _ (List.getElem?_set_self li) ⟨by rw [List.length_set]; exact Nat.le_refl _, fun j b hj hd => ?_⟩
  rw [List.getElem?_set_ne (by omega)]
  exact hj

end Go.Proofs.YtpcgppelelfmiaaDoor.Abs
