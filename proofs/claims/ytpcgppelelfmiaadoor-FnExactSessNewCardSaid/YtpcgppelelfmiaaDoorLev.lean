/- Texts cut at each '/', and texts in which '+' or '#' stands: in plain words, and as the library's laws say it. -/
import Derived.Test.YtpcgppelelfmiaaDoorAbs
import Derived.Lib.SplitLaws
import Derived.Lib.IndexAny
set_option linter.unusedVariables false
set_option linter.unusedSimpArgs false
namespace Go.Proofs.YtpcgppelelfmiaaDoor.Abs
open Go

/-- The levels of bytes: what is read of the level that is on the way, what is left. -/
def lvL : List UInt8 → List UInt8 → List (List UInt8)
  | cur, [] => [cur]
  | cur, b :: l => if b = 47 then cur :: lvL [] l else lvL (cur ++ [b]) l
def ofL (l : List UInt8) : ByteArray := ⟨l.toArray⟩
def vLevels (s : ByteArray) : List ByteArray := (lvL [] s.data.toList).map ofL
def vHas (s : ByteArray) (b : UInt8) : Bool := s.data.toList.any fun c => c == b
def vPH (s : ByteArray) : Bool := vHas s 43 || vHas s 35
def sepB : ByteArray := ⟨#[47]⟩
def phB : ByteArray := ⟨#[43, 35]⟩

def consH (c : List UInt8) : List (List UInt8) → List (List UInt8)
  | [] => [c]
  | h :: t => (c ++ h) :: t
theorem consH_nil {X : List (List UInt8)} (h : X ≠ []) : consH [] X = X := by
  cases X with
  | nil => exact absurd rfl h
  | cons h t => rfl
theorem consH_consH (a b : List UInt8) {X : List (List UInt8)} (h : X ≠ []) : consH a (consH b X) = consH (a ++ b) X := by
  cases X with
  | nil => exact absurd rfl h
  | cons h t => simp [consH]
theorem splitK_ne (sep : List UInt8) (k : Nat) (l : List UInt8) : Lib.splitK sep 0 k l ≠ [] := by
  cases k with
  | zero => simp [Lib.splitK]
  | succ k =>
    unfold Lib.splitK
    split <;> simp
theorem index_at (l : List UInt8) : Lib.index (47 :: l) [47] = 0 := by
  unfold Lib.index
  simp
theorem index_ne (b : UInt8) (l : List UInt8) (h : b ≠ 47) : Lib.index (b :: l) [47] = if Lib.index l [47] == -1 then -1 else Lib.index l [47] + 1 := by
  rw [Lib.index]
  rw [if_neg]
  simpa using fun h' => h h'.symm
theorem splitK_ne_cons (b : UInt8) (h : b ≠ 47) (k : Nat) (l : List UInt8) : Lib.splitK [47] 0 k (b :: l) = consH [b] (Lib.splitK [47] 0 k l) := by
  cases k with
  | zero => rfl
  | succ k =>
    have hge := Lib.index_ge l [47]
    unfold Lib.splitK
    rw [index_ne b l h]
    by_cases hi : Lib.index l [47] = -1
    · simp [hi, consH]
    · have e1 : (Lib.index l [47] == -1) = false := by simpa using hi
      have e2 : (Lib.index l [47] + 1 == -1) = false := by simp; omega
      have e3 : (Lib.index l [47] + 1).toNat = (Lib.index l [47]).toNat + 1 := by omega
      simp only [e1, e2, e3, Bool.false_eq_true, if_false, consH, Nat.add_zero, List.length_singleton]
      rw [show (Lib.index l [47]).toNat + 1 + 1 = ((Lib.index l [47]).toNat + 1) + 1 from rfl, List.drop_succ_cons, List.take_succ_cons]
      rfl
theorem lvL_split : ∀ (l cur : List UInt8), lvL cur l = consH cur (Lib.splitK [47] 0 (Lib.count l [47]) l)
  | [], cur => by
    have e : Lib.count [] [47] = 0 := by rw [Lib.count_one]; rfl
    rw [e]
    simp [lvL, Lib.splitK, consH]
  | b :: l, cur => by
    rw [lvL]
    by_cases h : b = 47
    · subst h
      rw [if_pos rfl, lvL_split l [], Lib.count_cons_eq, Nat.add_comm, Lib.splitK, index_at]
      rw [consH_nil (splitK_ne _ _ _)]
      simp [consH]
    · rw [if_neg h, lvL_split l (cur ++ [b]), Lib.count_cons_ne _ _ _ h, splitK_ne_cons b h, consH_consH _ _ (splitK_ne _ _ _)]
theorem ofL_data (s : ByteArray) : ofL s.data.toList = s := by
  cases s
  rfl
theorem map_ofL (l : List ByteArray) : (l.map (·.data.toList)).map ofL = l := by
  rw [List.map_map]
  conv => rhs; rw [← List.map_id l]
  exact List.map_congr_left fun s _ => ofL_data s
/-- The library's law of Split says the same. -/
theorem split_levels (s : ByteArray) : Lib.splitB sepB 0 (Lib.countB s sepB) s = vLevels s := by
  have h := Lib.splitB_data sepB 0 (Lib.countB s sepB) s
  rw [← map_ofL (Lib.splitB sepB 0 (Lib.countB s sepB) s), h, vLevels, lvL_split, consH_nil (splitK_ne _ _ _)]
  rfl
theorem levels_len (s : ByteArray) : (vLevels s).length = Lib.countB s sepB + 1 := by
  rw [← split_levels]
  exact Lib.splitB_all sepB (Nat.le_refl _) 0 _ s rfl
theorem indexAny_any (chars : List UInt8) : ∀ l : List UInt8, decide (0 ≤ Lib.indexAny l chars) = l.any fun c => chars.contains c
  | [] => rfl
  | b :: l => by
    have ih := indexAny_any chars l
    have hge := Lib.indexAny_ge chars l
    rw [Lib.indexAny, List.any_cons, ← ih]
    by_cases h : chars.contains b = true
    · rw [if_pos h, h]
      simp
    · rw [if_neg h]
      have h' : chars.contains b = false := by simpa using h
      rw [h', Bool.false_or]
      by_cases hi : Lib.indexAny l chars = -1
      · rw [hi]
        rfl
      · rw [if_neg (by simpa using hi)]
        congr 1
        simp
        omega
theorem any_or {α : Type} (p q : α → Bool) : ∀ l : List α, (l.any fun c => p c || q c) = (l.any p || l.any q)
  | [] => rfl
  | x :: l => by
    rw [List.any_cons, List.any_cons, List.any_cons, any_or p q l]
    cases p x <;> cases q x <;> simp
/-- The library's law of ContainsAny says the same. -/
theorem has_ph (s : ByteArray) : Lib.containsAny s.data.toList phB.data.toList = vPH s := by
  unfold Lib.containsAny vPH vHas
  rw [indexAny_any, ← any_or]
  congr 1
  funext c
  simp [phB]
  rfl

end Go.Proofs.YtpcgppelelfmiaaDoor.Abs
