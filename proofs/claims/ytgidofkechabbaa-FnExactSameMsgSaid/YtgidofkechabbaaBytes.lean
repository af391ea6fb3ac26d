/- The functions over bytes (numbers of the first seat). -/
import Derived.Test.YtgidofkechabbaaTools
set_option linter.unusedVariables false
set_option linter.unusedSimpArgs false
namespace Go.Proofs.Ytgidofkechabbaa.Abs
open Go

variable {β : Type}

theorem wrapI (n : Int) (h0 : -9223372036854775808 ≤ n) (h1 : n ≤ 9223372036854775807) : IntKind.i64.wrap n = n := by
  rw [IntKind.wrap_i64]; omega

/-- laws.szByteS -/
theorem sz_byteS (n ty : Nat) (s : ByteArray) (left : Int) (h0 : 0 ≤ left) (h1 : left ≤ 1048576) (hs : s.size ≤ maxLen) :
    tree E0 (n + 1) ty 49 [.ro s.size (bytesAV s), .sc (.int .i64 left)] = some (.sc (.int .i64 (if left - s.size < 0 then -1 else left - s.size))) := by
  have hm : maxLen = 9223372036854775807 := by decide
  rw [hm] at hs
  rw [tree_def, f49_eq, f49]
  have hw := wrapI (left - s.size) (by omega) (by omega)
  simp only [PR_len, PR_bin, PR_cond, pLen, pBin, isSh, binI, Bool.false_eq_true, if_false, if_true, Option.bind_some, hw, pCond, asB]
  by_cases h : left - (s.size : Int) < 0
  · simp [h]
  · simp [h]

/-- spec.l1Same, bytes.Equal -/
theorem same_bytes (n ty : Nat) (s t : ByteArray) : tree E0 (n + 1) ty 50 [.ro s.size (bytesAV s), .ro t.size (bytesAV t)] = some (.sc (.bool (s.toList == t.toList))) := by
  rw [tree_def, f50_eq, f50]
  have e : ∀ u : ByteArray, content [] 1 (.ro u.size (bytesAV u)) = some (bytesAV u) := by
    intro u
    simp [content, bytesAV_len]
  have eb : ∀ u : ByteArray, (bytesAV u).mapM byteOf = some u.data.toList := fun u => byteOf_bytes _
  simp only [PR_cvBS, PR_bin, pCvBS, e, eb, Option.bind_some, pBin, binS]
  simp
theorem same_bytes2 (n ty : Nat) (s t : ByteArray) : tree E0 (n + 1) ty 52 [.ro s.size (bytesAV s), .ro t.size (bytesAV t)] = some (.sc (.bool (s.toList == t.toList))) := by
  rw [tree_def, f52_eq, f52]
  have e : ∀ u : ByteArray, content [] 1 (.ro u.size (bytesAV u)) = some (bytesAV u) := by
    intro u
    simp [content, bytesAV_len]
  have eb : ∀ u : ByteArray, (bytesAV u).mapM byteOf = some u.data.toList := fun u => byteOf_bytes _
  simp only [PR_cvBS, PR_bin, pCvBS, e, eb, Option.bind_some, pBin, binS]
  simp

/-- laws.eqByteS of the same bytes -/
theorem eq_byteS_loop (n : Nat) (s : ByteArray) (hs : s.size ≤ 1048576) (H : Heap) (k : AV → Heap → Option β) : ∀ (j : Nat) (m i : Nat), i + j = s.size → j < m →
    f53_l0 (PR n β) n k m (.ro s.size (bytesAV s)) (.ro s.size (bytesAV s)) (.sc (.int .i64 i)) H = k (.sc (.bool true)) H
  | 0, m + 1, i, hi, hm => by
    rw [f53_l0]
    have h : ¬ ((i : Int) < (s.size : Int)) := by omega
    simp [pLen, pBin, isSh, binI, pCond, asB, h]
  | j + 1, m + 1, i, hi, hm => by
    rw [f53_l0]
    have h : (i : Int) < (s.size : Int) := by omega
    have h2 : i < s.size := by omega
    have h3 : 1 ≤ s.size - i := by omega
    have hw := wrapI (i + 1) (by omega) (by omega)
    have hl : (bytesAV s).drop i = (bytesAV s)[i]'(by rw [bytesAV_len]; omega) :: (bytesAV s).drop (i + 1) := List.drop_eq_getElem_cons _
    have hb : (bytesAV s)[i]'(by rw [bytesAV_len]; omega) = .sc (.int .u8 (s.data.toList[i]'(by simpa using h2)).toNat) := by simp [bytesAV]
    have ih := eq_byteS_loop n s hs H k j m (i + 1) (by omega) (by omega)
    simp only [Int.natCast_add, Int.cast_ofNat_Int] at ih
    simp [pLen, pBin, isSh, binI, pCond, asB, pIadr, asI, h, pLoad, one, bytesAV_len, h2, h3, hl, hb, hw]
    exact ih
theorem eq_byteS (n ty : Nat) (s : ByteArray) (hs : s.size ≤ 1048576) (hn : s.size < n) : tree E0 (n + 1) ty 53 [.ro s.size (bytesAV s), .ro s.size (bytesAV s)] = some (.sc (.bool true)) := by
  rw [tree_def, f53_eq, f53]
  simp [pLen, pBin, isSh, binI, pCond, asB]
  have := eq_byteS_loop (β := AV) n s hs [] (fun x H => ownTree ti0 E0.tp ty H x) s.size n 0 (by omega) hn
  simp only [Int.ofNat_eq_natCast, Int.natCast_zero] at this
  rw [this]
  simp

end Go.Proofs.Ytgidofkechabbaa.Abs
