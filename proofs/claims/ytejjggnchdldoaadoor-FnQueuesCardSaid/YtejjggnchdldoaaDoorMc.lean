/- What the proof needs, part 3: a sound evaluator over trees, the program's functions on it, and what they come to. -/
import Derived.Test.YtejjggnchdldoaaDoorMb
import Derived.Laws.BitsLemmas
set_option linter.unusedVariables false
set_option linter.unusedSimpArgs false
set_option maxRecDepth 100000
namespace Go.Proofs.YtejjggnchdldoaaDoor.Abs
open Go
theorem i64_and255 (n : Int) : bits .and .i64 n 255 = n % 256 := by
 have h255 : (BitVec.ofInt 64 255).toNat = 2 ^ 8 - 1 := by decide
 have key : (BitVec.ofInt 64 n &&& BitVec.ofInt 64 255).toNat = (n % ((2 ^ 64 : Nat) : Int)).toNat % 2 ^ 8 := by
  rw [BitVec.toNat_and, BitVec.toNat_ofInt, h255, Nat.and_two_pow_sub_one_eq_mod]
 show IntKind.i64.wrap ((BitVec.ofInt 64 n &&& BitVec.ofInt 64 255).toNat : Nat) = n % 256
 rw [key, IntKind.wrap_i64]
 omega
section
variable {β : Type} {n : Nat} {H : Heap}
theorem PR_hmD {ty : Nat} {f : FuncId} {args : List AV} {k : AV → Heap → Option β} (hh : E0.hm f = true) (he : E0.ext f = none) : (PR n β).call ty (.fn f [] []) args H k = evalFn E0 n β f args H k := by
 show callF E0 (evalFn E0 n) ty f ([] ++ args ++ []) H k = _
 simp only [callF, he, hh, List.nil_append, List.append_nil, if_true]
def cur (code : ByteArray) (i : Nat) (h : Int) : List AV := [.ro code.size (bytesAV code), .sc (.int .i64 i), .sc (.int .i64 h)]
def curB (code : ByteArray) (i : Nat) (h : Int) : Blk := ⟨cur code i h, true, true⟩
theorem ldC {c o : Nat} {code : ByteArray} {i : Nat} {h : Int} {x : AV} {K : AV → Option β} {r : Option β} (hc : H[c]? = some (curB code i h)) (hx : (cur code i h)[o]? = some x) (hk : K x = r) : pLoad false 1 (.ptr c (0 + o)) H (fun t => K t) = r := by
 obtain ⟨hlt, he⟩ := List.getElem?_eq_some_iff.1 hx
 have e : ((cur code i h).drop o).take 1 = [x] := by
  rw [List.drop_eq_getElem_cons hlt, he]
  rfl
 rw [Nat.zero_add]
 simp only [pLoad, rdCells, hc, curB, if_true, Bool.false_eq_true, if_false]
 rw [if_pos (by omega), Option.bind_some, e]
 exact hk
theorem stC {c o : Nat} {code : ByteArray} {i i' : Nat} {h h' : Int} {v : Value} {K : Heap → Option β} {r : Option β} (hc : H[c]? = some (curB code i h)) (hv : leafV v = true) (ho : o < 3) (hs : splice (cur code i h) o [.sc v] = cur code i' h') (hk : K (H.set c (curB code i' h')) = r) : pStore 1 (.ptr c (0 + o)) (.sc v) H (fun H => K H) = r := by
 rw [Nat.zero_add, st_at 1 c o (.sc v) (curB code i h) [.sc v] H _ hc (by simp only [cellsA, isLeaf, hv, if_true]) rfl (by show o + 1 ≤ 3; omega) rfl]
 show K (H.set c ⟨splice (cur code i h) o [.sc v], true, true⟩) = r
 rw [hs]
 exact hk
theorem set_get {c : Nat} {b : Blk} (hl : c < H.length) : (H.set c b)[c]? = some b := by
 rw [List.getElem?_set_self hl]
theorem and255 (z : Int) (k : AV → Option β) : pBin .and (.sc (.int .i64 z)) (.sc (.int .i64 255)) k = k (.sc (.int .i64 (z % 256))) := by
 rw [← i64_and255]
 rfl
theorem w_nil {id off : Nat} {K : AV → Option β} {r : Option β} (h : K (.ptr id off) = r) : pNil (.ptr id off) (fun t => K t) = r := h
theorem w_cvI {a z : Int} {k : IntKind} {K : AV → Option β} {r : Option β} (hz : IntKind.i64.wrap a = z) (h : K (.sc (.int .i64 z)) = r) : pCvI .i64 (.sc (.int k a)) (fun t => K t) = r := by
 show K (.sc (.int .i64 (IntKind.i64.wrap a))) = r
 rw [hz]
 exact h
theorem by_at' (s : ByteArray) (i : Nat) (h : i < s.size) (H : Heap) (k : AV → Option β) : (pIadr 1 (.ro s.size (bytesAV s)) (.sc (.int .i64 i)) fun t => pLoad false 1 t H k) = k (.sc (.int .u8 (s.data.toList.getD i 0).toNat)) := by
 rw [iadr_ro 1 _ _ i _ h (by rw [bytesAV_len]; omega)]
 have hd : (bytesAV s).drop (i * 1) = .sc (.int .u8 (s.data.toList.getD i 0).toNat) :: (bytesAV s).drop (i + 1) := by
  rw [Nat.mul_one, List.drop_eq_getElem_cons (by rw [bytesAV_len]; omega)]
  congr 1
  simp [bytesAV, List.getD_eq_getElem?_getD, h]
 rw [hd, ld1_rp]
theorem byte_run (c : Nat) (code : ByteArray) (hs : code.size ≤ 1048576) (i : Nat) (h : Int) (hc : H[c]? = some (curB code i h)) (ty : Nat) :
  ∃ (x i' : Nat) (h' : Int), x < 256 ∧ ∀ K : AV → Heap → Option β, (PR (n + 1) β).call ty (.fn 86 [] []) [.ptr c 0] H K = K (.sc (.int .i64 x)) (H.set c (curB code i' h')) := by
 have hl : c < H.length := (List.getElem?_eq_some_iff.1 hc).1
 obtain ⟨h1, hh1⟩ : ∃ z, IntKind.i64.wrap (IntKind.i64.wrap (h * 6364136223846793005) + 1442695040888963407) = z := ⟨_, rfl⟩
 obtain ⟨y, hy⟩ : ∃ z, bits .xor .i64 (h1 / 2 ^ (33 : Int).toNat) (h1 / 2 ^ (47 : Int).toNat) = z := ⟨_, rfl⟩
 have hc1 : (H.set c (curB code i h1))[c]? = some (curB code i h1) := set_get hl
 by_cases hlt : i < code.size
 ·have hb := (code.data.toList.getD i 0).toNat_lt
  refine ⟨((y % 256 + (code.data.toList.getD i 0).toNat) % 256).toNat, i + 1, h1, by omega, fun K => ?_⟩
  rw [PR_hmD rfl rfl, f86_eq, f86]
  simp only [PR_nil, PR_fadr, PR_load, PR_bin, PR_store, PR_len, PR_cond, PR_iadr, PR_cvI]
  refine w_nil ?_
  refine w_fadr ?_
  refine ldC (o := 2) (x := .sc (.int .i64 h)) hc rfl ?_
  refine w_bin (v := .sc (.int .i64 (IntKind.i64.wrap (h * 6364136223846793005)))) (fun k => rfl) ?_
  refine w_bin (v := .sc (.int .i64 h1)) (fun k => by rw [← hh1]; rfl) ?_
  refine w_nil ?_
  refine w_fadr ?_
  refine stC (i' := i) (h' := h1) hc rfl (by omega) rfl ?_
  refine w_nil ?_
  refine w_fadr ?_
  refine ldC (o := 2) (x := .sc (.int .i64 h1)) hc1 rfl ?_
  refine w_bin (v := .sc (.int .i64 (h1 / 2 ^ (33 : Int).toNat))) (fun k => rfl) ?_
  refine w_nil ?_
  refine w_fadr ?_
  refine ldC (o := 2) (x := .sc (.int .i64 h1)) hc1 rfl ?_
  refine w_bin (v := .sc (.int .i64 (h1 / 2 ^ (47 : Int).toNat))) (fun k => rfl) ?_
  refine w_bin (v := .sc (.int .i64 y)) (fun k => by rw [← hy]; rfl) ?_
  refine w_bin (v := .sc (.int .i64 (y % 256))) (fun k => and255 _ k) ?_
  refine w_nil ?_
  refine w_fadr ?_
  refine ldC (o := 1) (x := .sc (.int .i64 i)) hc1 rfl ?_
  refine w_nil ?_
  refine w_fadr ?_
  refine ldC (o := 0) (x := .ro code.size (bytesAV code)) hc1 rfl ?_
  refine w_len ?_
  refine w_bin (v := .sc (.bool (decide (i < code.size)))) (fun k => lss_nat _ _ k) ?_
  refine w_letJ ?_
  refine w_cT (by simpa using hlt) ?_
  refine w_nil ?_
  refine w_fadr ?_
  refine ldC (o := 0) (x := .ro code.size (bytesAV code)) hc1 rfl ?_
  refine w_nil ?_
  refine w_fadr ?_
  refine ldC (o := 1) (x := .sc (.int .i64 i)) hc1 rfl ?_
  rw [by_at' code i hlt]
  refine w_cvI (z := (code.data.toList.getD i 0).toNat) (wrap64 _ (by omega) (by omega)) ?_
  refine w_bin (v := .sc (.int .i64 (y % 256 + (code.data.toList.getD i 0).toNat))) (fun k => by rw [add64, wrap64 _ (by omega) (by omega)]) ?_
  refine w_bin (v := .sc (.int .i64 ((y % 256 + (code.data.toList.getD i 0).toNat) % 256))) (fun k => and255 _ k) ?_
  refine w_nil ?_
  refine w_fadr ?_
  refine ldC (o := 1) (x := .sc (.int .i64 i)) hc1 rfl ?_
  refine w_bin (v := .sc (.int .i64 ((i + 1 : Nat) : Int))) (fun k => inc_nat _ k (by omega)) ?_
  refine w_nil ?_
  refine w_fadr ?_
  refine stC (i' := i + 1) (h' := h1) hc1 rfl (by omega) rfl ?_
  rw [List.set_set, show (((y % 256 + (code.data.toList.getD i 0).toNat) % 256).toNat : Int) = (y % 256 + (code.data.toList.getD i 0).toNat) % 256 by omega]
 ·refine ⟨(y % 256).toNat, i, h1, by omega, fun K => ?_⟩
  rw [PR_hmD rfl rfl, f86_eq, f86]
  simp only [PR_nil, PR_fadr, PR_load, PR_bin, PR_store, PR_len, PR_cond, PR_iadr, PR_cvI]
  refine w_nil ?_
  refine w_fadr ?_
  refine ldC (o := 2) (x := .sc (.int .i64 h)) hc rfl ?_
  refine w_bin (v := .sc (.int .i64 (IntKind.i64.wrap (h * 6364136223846793005)))) (fun k => rfl) ?_
  refine w_bin (v := .sc (.int .i64 h1)) (fun k => by rw [← hh1]; rfl) ?_
  refine w_nil ?_
  refine w_fadr ?_
  refine stC (i' := i) (h' := h1) hc rfl (by omega) rfl ?_
  refine w_nil ?_
  refine w_fadr ?_
  refine ldC (o := 2) (x := .sc (.int .i64 h1)) hc1 rfl ?_
  refine w_bin (v := .sc (.int .i64 (h1 / 2 ^ (33 : Int).toNat))) (fun k => rfl) ?_
  refine w_nil ?_
  refine w_fadr ?_
  refine ldC (o := 2) (x := .sc (.int .i64 h1)) hc1 rfl ?_
  refine w_bin (v := .sc (.int .i64 (h1 / 2 ^ (47 : Int).toNat))) (fun k => rfl) ?_
  refine w_bin (v := .sc (.int .i64 y)) (fun k => by rw [← hy]; rfl) ?_
  refine w_bin (v := .sc (.int .i64 (y % 256))) (fun k => and255 _ k) ?_
  refine w_nil ?_
  refine w_fadr ?_
  refine ldC (o := 1) (x := .sc (.int .i64 i)) hc1 rfl ?_
  refine w_nil ?_
  refine w_fadr ?_
  refine ldC (o := 0) (x := .ro code.size (bytesAV code)) hc1 rfl ?_
  refine w_len ?_
  refine w_bin (v := .sc (.bool (decide (i < code.size)))) (fun k => lss_nat _ _ k) ?_
  refine w_letJ ?_
  refine w_cF (by simpa using hlt) ?_
  rw [show ((y % 256).toNat : Int) = y % 256 by omega]
theorem below_run (c : Nat) (code : ByteArray) (hs : code.size ≤ 1048576) (i : Nat) (h : Int) (hc : H[c]? = some (curB code i h)) (ty m : Nat) (h1 : 1 ≤ m) (h2 : m ≤ 256) :
  ∃ (x i' : Nat) (h' : Int), x < m ∧ ∀ K : AV → Heap → Option β, (PR (n + 2) β).call ty (.fn 66 [] []) [.ptr c 0, .sc (.int .i64 m)] H K = K (.sc (.int .i64 x)) (H.set c (curB code i' h')) := by
 obtain ⟨x, i', h', hx, hr⟩ := byte_run (β := β) (n := n) c code hs i h hc 3
 refine ⟨x % m, i', h', Nat.mod_lt _ (by omega), fun K => ?_⟩
 rw [PR_hmD rfl rfl, f66_eq, f66]
 simp only [PR_bin, PR_cond]
 refine w_bin (v := .sc (.bool (decide ((m : Int) ≤ 0)))) (fun k => rfl) ?_
 refine w_cF (by simp; omega) ?_
 refine w_bin (v := .sc (.bool (decide ((m : Int) ≤ 256)))) (fun k => rfl) ?_
 refine w_cT (by simp; omega) ?_
 rw [hr]
 refine w_bin (v := .sc (.int .i64 ((x % m : Nat) : Int))) (fun k => ?_) ?_
 ·show (binI .rem .i64 (x : Int) (m : Int)).bind (fun v => k (.sc v)) = _
  have e : binI .rem .i64 (x : Int) (m : Int) = some (.int .i64 ((x : Int).tmod m)) := by
   show (if (m : Int) = 0 then none else some (Value.int .i64 ((x : Int).tmod m))) = _
   rw [if_neg (by omega)]
  rw [e]
  show k (.sc (.int .i64 ((x : Int).tmod (m : Int)))) = _
  rw [show ((x : Int).tmod (m : Int)) = ((x % m : Nat) : Int) from rfl]
 ·rfl
theorem int_run (c d : Nat) (hcd : c ≠ d) (code : ByteArray) (hs : code.size ≤ 1048576) (i : Nat) (h : Int) (hc : H[c]? = some (curB code i h)) (tab : List Int) (h1 : 1 ≤ tab.length) (h2 : tab.length ≤ 256) (hd : H[d]? = some ⟨tab.map fun z => .sc (.int .i64 z), true, true⟩) (ty : Nat) :
  ∃ (z : Int) (i' : Nat) (h' : Int), z ∈ tab ∧ ∀ K : AV → Heap → Option β, (PR (n + 3) β).call ty (.fn 69 [] []) [.ptr c 0, .sl d 0 tab.length 1] H K = K (.sc (.int .i64 z)) (H.set c (curB code i' h')) := by
 obtain ⟨x, i', h', hx, hr⟩ := below_run (β := β) (n := n) c code hs i h hc 3 tab.length h1 h2
 refine ⟨tab[x], i', h', List.getElem_mem hx, fun K => ?_⟩
 rw [PR_hmD rfl rfl, f69_eq, f69]
 simp only [PR_len, PR_iadr, PR_load]
 have hlen : ∀ k : AV → Option β, pLen (.sl d 0 tab.length 1) k = k (.sc (.int .i64 tab.length)) := fun _ => rfl
 rw [hlen, hr, iadr_sl 1 tab.length d 0 x _ hx]
 have hd' : (H.set c (curB code i' h'))[d]? = some ⟨tab.map fun z => .sc (.int .i64 z), true, true⟩ := by
  rw [List.getElem?_set_ne hcd]
  exact hd
 refine w_ld (c := .sc (.int .i64 tab[x])) hd' (by simpa using hx) ?_ ?_
 ·refine one_of ?_
  simp [hx]
 ·rfl
theorem new_end (code : ByteArray) (h : Int) (K : AV → Heap → Option β) : ((fillA [.nl, .sc (.int .i64 0), .sc (.int .i64 0)] [(0, 1, .ro code.size (bytesAV code)), (2, 1, .sc (.int .i64 h))]).bind fun ct => pBox (.agg ct) H fun t H => K t H) = K (.ptr H.length 0) (H ++ [curB code 0 h]) := rfl
theorem new_loop (code : ByteArray) (hs : code.size ≤ 1048576) : ∀ (j m i : Nat) (h : Int), i + j = min code.size 4000 → j < m →
  ∃ h' : Int, ∀ k : AV → Heap → Option β, f42_l0 (PR n β) n k m (.ro code.size (bytesAV code)) (.sc (.int .i64 h)) (.sc (.int .i64 i)) H = k (.ptr H.length 0) (H ++ [curB code 0 h'])
 | 0, m + 1, i, h, hi, hm => by
  refine ⟨h, fun k => ?_⟩
  rw [f42_l0]
  simp only [PR_len, PR_bin, PR_cond, PR_guard, PR_pick, PR_iadr, PR_load, PR_cvI, PR_fill, PR_box]
  refine w_len ?_
  refine w_bin (v := .sc (.bool (decide (i < code.size)))) (fun k => lss_nat _ _ k) ?_
  by_cases hl : i < code.size
  ·have e : decide (i < code.size) = true := by simpa using hl
   refine w_gT e ?_
   refine w_gT e ?_
   refine w_bin (v := .sc (.bool (decide ((i : Int) < 4000)))) (fun k => rfl) ?_
   refine w_pT e ?_
   refine w_cF (by simp; omega) ?_
   exact new_end code h k
  ·have e : decide (i < code.size) = false := by simpa using hl
   refine w_gF e ?_
   refine w_gF e ?_
   refine w_pF e ?_
   refine w_cF rfl ?_
   exact new_end code h k
 | j + 1, m + 1, i, h, hi, hm => by
  have hl : i < code.size := by omega
  have hb := (code.data.toList.getD i 0).toNat_lt
  obtain ⟨h', ih⟩ := new_loop code hs j m (i + 1) (bits .and .i64 (IntKind.i64.wrap (IntKind.i64.wrap (IntKind.i64.wrap (h * 137) + (code.data.toList.getD i 0).toNat) + 11)) 1073741823) (by omega) (by omega)
  refine ⟨h', fun k => ?_⟩
  rw [f42_l0]
  simp only [PR_len, PR_bin, PR_cond, PR_guard, PR_pick, PR_iadr, PR_load, PR_cvI, PR_fill, PR_box]
  refine w_len ?_
  refine w_bin (v := .sc (.bool (decide (i < code.size)))) (fun k => lss_nat _ _ k) ?_
  have e : decide (i < code.size) = true := by simpa using hl
  refine w_gT e ?_
  refine w_gT e ?_
  refine w_bin (v := .sc (.bool (decide ((i : Int) < 4000)))) (fun k => rfl) ?_
  refine w_pT e ?_
  refine w_cT (by simp; omega) ?_
  refine w_bin (v := .sc (.int .i64 (IntKind.i64.wrap (h * 137)))) (fun k => rfl) ?_
  rw [by_at' code i hl]
  refine w_cvI (z := (code.data.toList.getD i 0).toNat) (wrap64 _ (by omega) (by omega)) ?_
  refine w_bin (v := .sc (.int .i64 (IntKind.i64.wrap (IntKind.i64.wrap (h * 137) + (code.data.toList.getD i 0).toNat)))) (fun k => rfl) ?_
  refine w_bin (v := .sc (.int .i64 (IntKind.i64.wrap (IntKind.i64.wrap (IntKind.i64.wrap (h * 137) + (code.data.toList.getD i 0).toNat) + 11)))) (fun k => rfl) ?_
  refine w_bin (v := .sc (.int .i64 (bits .and .i64 (IntKind.i64.wrap (IntKind.i64.wrap (IntKind.i64.wrap (h * 137) + (code.data.toList.getD i 0).toNat) + 11)) 1073741823))) (fun k => rfl) ?_
  refine w_bin (v := .sc (.int .i64 ((i + 1 : Nat) : Int))) (fun k => inc_nat _ k (by omega)) ?_
  exact ih k
theorem new_run (code : ByteArray) (hs : code.size ≤ 1048576) (hn : 4000 < n) (ty : Nat) :
  ∃ h : Int, ∀ K : AV → Heap → Option β, (PR (n + 1) β).call ty (.fn 42 [] []) [.ro code.size (bytesAV code)] H K = K (.ptr H.length 0) (H ++ [curB code 0 h]) := by
 obtain ⟨h', e⟩ := new_loop (β := β) (n := n) (H := H) code hs (min code.size 4000) n 0 (IntKind.i64.wrap (128361 + (code.size : Int))) (by omega) (by omega)
 refine ⟨h', fun K => ?_⟩
 rw [PR_hmD rfl rfl, f42_eq, f42]
 simp only [PR_len, PR_bin]
 refine w_len ?_
 refine w_bin (v := .sc (.int .i64 (IntKind.i64.wrap (128361 + (code.size : Int))))) (fun k => rfl) ?_
 exact e K
def usedTab : List Int := [1, 2, 3, 4, 65535, 65534, 0, -1, 65536]
end
end Go.Proofs.YtejjggnchdldoaaDoor.Abs
set_option linter.unusedVariables false
set_option linter.unusedSimpArgs false
set_option maxRecDepth 100000
namespace Go.Proofs.YtejjggnchdldoaaDoor.Abs
open Go
theorem tyByteS : ∃ i j, ti0 23 = some i ∧ ti0 i.elem = some j ∧ j.size = 1 ∧ j.cty.length = 1 := ⟨_, _, rfl, rfl, rfl, rfl⟩
structure MsgV where
 fTopic : ByteArray
 fBody : ByteArray
 fQos : Int
 fRetain : Bool
def encMsg (x : MsgV) : List AV := .sc (.string x.fTopic) :: bytesC x.fBody :: .sc (.int .i64 x.fQos) :: .sc (.bool x.fRetain) :: []
def wtMsg (x : MsgV) : Nat := x.fTopic.size + (x.fBody.size + 0)
def okMsg (x : MsgV) : Prop := okS x.fTopic ∧ okS x.fBody ∧ okI x.fQos ∧ True
theorem lenMsg (x : MsgV) : (encMsg x).length = 4 := rfl
theorem flMsg (x : MsgV) : (encMsg x).all isFl = true := rfl
def ctyMsg : List Nat := [9, 23, 3, 4]
theorem tyMsg : ∃ i, ti0 39 = some i ∧ i.cty = ctyMsg := ⟨_, rfl, rfl⟩
theorem okWMsg (d : Nat) (x : MsgV) : okLW (okW ti0 E0.tp (d + 2)) ctyMsg (encMsg x) := ⟨trivial, ⟨okW_bytes (d := d + 0) tyByteS x.fBody, ⟨trivial, ⟨trivial, trivial⟩⟩⟩⟩
theorem tyMsgS : ∃ i j, ti0 37 = some i ∧ ti0 i.elem = some j ∧ j.size = 4 ∧ j.cty = ctyMsg := ⟨_, _, rfl, rfl, rfl, rfl⟩
def zzMsg : List AV := [(.sc (.string ⟨#[]⟩)), .nl, (.sc (.int .i64 0)), (.sc (.bool false))]
end Go.Proofs.YtejjggnchdldoaaDoor.Abs
set_option linter.unusedVariables false
set_option linter.unusedSimpArgs false
namespace Go.Proofs.YtejjggnchdldoaaDoor.Abs
open Go
section own
variable {ti : Nat → Option TI} {tp : Nat → Option (List Nat)}
theorem ownL_cons {f : Nat → AV → Option (AV × List Nat)} {t : Nat} {ts : List Nat} {x : AV} {xs : List AV} {p : List AV × List Nat} (h : ownL f (t :: ts) (x :: xs) = some p) :
  ∃ a b, f t x = some a ∧ ownL f ts xs = some b ∧ p = (a.1 :: b.1, a.2 ++ b.2) := by
 simp only [ownL, Option.bind_eq_some_iff] at h
 obtain ⟨a, h1, b, h2, h3⟩ := h
 exact ⟨a, b, h1, h2, (Option.some.inj h3).symm⟩
theorem ownL_nil {f : Nat → AV → Option (AV × List Nat)} {ts : List Nat} {p : List AV × List Nat} (h : ownL f ts [] = some p) : ts = [] ∧ p = ([], []) := by
 cases ts with
 | nil => exact ⟨rfl, (Option.some.inj h).symm⟩
 | cons t ts => simp [ownL] at h
theorem ownL_len {f : Nat → AV → Option (AV × List Nat)} : ∀ {ts : List Nat} {xs : List AV} {p : List AV × List Nat}, ownL f ts xs = some p → ts.length = xs.length ∧ p.1.length = xs.length
 | ts, [], p, h => by
  obtain ⟨rfl, rfl⟩ := ownL_nil h
  exact ⟨rfl, rfl⟩
 | [], _ :: _, p, h => by simp [ownL] at h
 | t :: ts, x :: xs, p, h => by
  obtain ⟨a, b, h1, h2, rfl⟩ := ownL_cons h
  obtain ⟨e1, e2⟩ := ownL_len h2
  simp [e1, e2]
theorem ownL_append {f : Nat → AV → Option (AV × List Nat)} : ∀ {ts us : List Nat} {xs ys : List AV} {p q : List AV × List Nat}, ownL f ts xs = some p → ownL f us ys = some q → ownL f (ts ++ us) (xs ++ ys) = some (p.1 ++ q.1, p.2 ++ q.2)
 | ts, us, [], ys, p, q, h, h' => by
  obtain ⟨rfl, rfl⟩ := ownL_nil h
  exact h'
 | [], _, _ :: _, _, _, _, h, _ => by simp [ownL] at h
 | t :: ts, us, x :: xs, ys, p, q, h, h' => by
  obtain ⟨a, b, h1, h2, rfl⟩ := ownL_cons h
  have ih := ownL_append h2 h'
  rw [List.cons_append, List.cons_append, ownL, h1, Option.bind_some, ih]
  simp
theorem ownL_frame {f f' : Nat → AV → Option (AV × List Nat)} : ∀ {ts : List Nat} {xs : List AV} {p : List AV × List Nat}, (∀ t x a, f t x = some a → (∀ i ∈ a.2, i ∈ p.2) → f' t x = some a) → ownL f ts xs = some p → ownL f' ts xs = some p
 | ts, [], p, _, h => by
  obtain ⟨rfl, rfl⟩ := ownL_nil h
  rfl
 | [], _ :: _, p, _, h => by simp [ownL] at h
 | t :: ts, x :: xs, p, hf, h => by
  obtain ⟨a, b, h1, h2, rfl⟩ := ownL_cons h
  have e1 := hf t x a h1 fun i hi => List.mem_append_left _ hi
  have e2 := ownL_frame (f' := f') (fun t x a' h hi => hf t x a' h fun i hi' => List.mem_append_right _ (hi i hi')) h2
  rw [ownL, e1, Option.bind_some, e2]
  rfl
theorem own_frame {H H' : Heap} : ∀ (d ty : Nat) (x : AV) (p : AV × List Nat), ownT ti tp H d ty x = some p → (∀ i ∈ p.2, H'[i]? = H[i]?) → ownT ti tp H' d ty x = some p
 | 0, _, _, _, h, _ => by simp [ownT] at h
 | d + 1, ty, x, p, h, hs => by
  cases x with
  | sc v => exact h
  | nl => exact h
  | sl id off n z =>
   rw [ownT_sl] at h ⊢
   simp only [Option.bind_eq_some_iff] at h
   obtain ⟨i, h1, j, h2, h3⟩ := h
   split at h3
   case isFalse => cases h3
   rename_i hz
   split at h3
   case isFalse => cases h3
   rename_i ha
   simp only [Option.bind_eq_some_iff] at h3
   obtain ⟨cs, h4, q, h5, h6⟩ := h3
   obtain rfl := (Option.some.inj h6).symm
   have hid := hs id List.mem_cons_self
   have e1 : isApp H' id = true := by simpa only [isApp, hid] using ha
   have e2 : rdCells H' id off (n * z) = some cs := by simpa only [rdCells, hid] using h4
   have e3 := ownL_frame (f' := ownT ti tp H' d) (fun t x a h hi => own_frame d t x a h fun i' hi' => hs i' (List.mem_cons_of_mem _ (hi i' hi'))) h5
   simp only [h1, h2, Option.bind_some, hz, if_true, e1, e3]
   rw [hz] at e2
   rw [e2]
   simp only [Option.bind_some, e3]
  | agg cs =>
   rw [ownT_agg] at h ⊢
   simp only [Option.bind_eq_some_iff] at h
   obtain ⟨i, h1, q, h2, h3⟩ := h
   obtain rfl := (Option.some.inj h3).symm
   have e3 := ownL_frame (f' := ownT ti tp H' d) (fun t x a h hi => own_frame d t x a h fun i' hi' => hs i' (hi i' hi')) h2
   rw [h1, Option.bind_some, e3]
   rfl
  | tup cs =>
   rw [ownT_tup] at h ⊢
   simp only [Option.bind_eq_some_iff] at h
   obtain ⟨i, h1, q, h2, h3⟩ := h
   obtain rfl := (Option.some.inj h3).symm
   have e3 := ownL_frame (f' := ownT ti tp H' d) (fun t x a h hi => own_frame d t x a h fun i' hi' => hs i' (hi i' hi')) h2
   rw [h1, Option.bind_some, e3]
   rfl
  | _ => simp [ownT] at h
theorem ownL_lt {f : Nat → AV → Option (AV × List Nat)} {N : Nat} : ∀ {ts : List Nat} {xs : List AV} {p : List AV × List Nat}, (∀ t x a, f t x = some a → ∀ i ∈ a.2, i < N) → ownL f ts xs = some p → ∀ i ∈ p.2, i < N
 | ts, [], p, _, h => by
  obtain ⟨rfl, rfl⟩ := ownL_nil h
  intro i hi
  cases hi
 | [], _ :: _, p, _, h => by simp [ownL] at h
 | t :: ts, x :: xs, p, hf, h => by
  obtain ⟨a, b, h1, h2, rfl⟩ := ownL_cons h
  intro i hi
  rcases List.mem_append.1 hi with hi | hi
  ·exact hf t x a h1 i hi
  ·exact ownL_lt hf h2 i hi
theorem own_lt {H : Heap} : ∀ (d ty : Nat) (x : AV) (p : AV × List Nat), ownT ti tp H d ty x = some p → ∀ i ∈ p.2, i < H.length
 | 0, _, _, _, h => by simp [ownT] at h
 | d + 1, ty, x, p, h => by
  cases x with
  | sc v =>
   obtain rfl := (Option.some.inj h).symm
   intro i hi
   cases hi
  | nl =>
   obtain rfl := (Option.some.inj h).symm
   intro i hi
   cases hi
  | sl id off n z =>
   rw [ownT_sl] at h
   simp only [Option.bind_eq_some_iff] at h
   obtain ⟨i, h1, j, h2, h3⟩ := h
   split at h3
   case isFalse => cases h3
   split at h3
   case isFalse => cases h3
   rename_i ha
   simp only [Option.bind_eq_some_iff] at h3
   obtain ⟨cs, h4, q, h5, h6⟩ := h3
   obtain rfl := (Option.some.inj h6).symm
   intro i' hi'
   rcases List.mem_cons.1 hi' with rfl | hi'
   ·unfold isApp at ha
    cases hg : H[i']? with
    | none => rw [hg] at ha; cases ha
    | some b => exact (List.getElem?_eq_some_iff.1 hg).1
   ·exact ownL_lt (fun t x a h => own_lt d t x a h) h5 i' hi'
  | agg cs =>
   rw [ownT_agg] at h
   simp only [Option.bind_eq_some_iff] at h
   obtain ⟨i, h1, q, h2, h3⟩ := h
   obtain rfl := (Option.some.inj h3).symm
   exact ownL_lt (fun t x a h => own_lt d t x a h) h2
  | tup cs =>
   rw [ownT_tup] at h
   simp only [Option.bind_eq_some_iff] at h
   obtain ⟨i, h1, q, h2, h3⟩ := h
   obtain rfl := (Option.some.inj h3).symm
   exact ownL_lt (fun t x a h => own_lt d t x a h) h2
  | _ => simp [ownT] at h
end own
def OwnC (d : Nat) (H : Heap) (ts : List Nat) (raw cells : List AV) (ids : List Nat) : Prop := ownL (ownT ti0 E0.tp H d) ts raw = some (cells, ids)
theorem OwnC.frame {d : Nat} {H H' : Heap} {ts : List Nat} {raw cells : List AV} {ids : List Nat} (h : OwnC d H ts raw cells ids) (hs : ∀ i ∈ ids, H'[i]? = H[i]?) : OwnC d H' ts raw cells ids :=
 ownL_frame (fun t x a h hi => own_frame d t x a h fun i hi' => hs i (hi i hi')) h
theorem OwnC.lt {d : Nat} {H : Heap} {ts : List Nat} {raw cells : List AV} {ids : List Nat} (h : OwnC d H ts raw cells ids) : ∀ i ∈ ids, i < H.length := ownL_lt (fun t x a h => own_lt d t x a h) h
theorem OwnC.grow {d : Nat} {H : Heap} {ts : List Nat} {raw cells : List AV} {ids : List Nat} (h : OwnC d H ts raw cells ids) (X : List Blk) : OwnC d (H ++ X) ts raw cells ids :=
 h.frame fun i hi => List.getElem?_append_left (h.lt i hi)
theorem OwnC.append {d : Nat} {H : Heap} {ts us : List Nat} {raw raw' cells cells' : List AV} {ids ids' : List Nat} (h : OwnC d H ts raw cells ids) (h' : OwnC d H us raw' cells' ids') : OwnC d H (ts ++ us) (raw ++ raw') (cells ++ cells') (ids ++ ids') := ownL_append h h'
theorem OwnC.len {d : Nat} {H : Heap} {ts : List Nat} {raw cells : List AV} {ids : List Nat} (h : OwnC d H ts raw cells ids) : ts.length = raw.length ∧ cells.length = raw.length := ownL_len h
def OwnS (d : Nat) (H : Heap) (w : Nat) (cty : List Nat) (x : AV) (k : Nat) (cells : List AV) : Prop :=
 (x = .nl ∧ k = 0 ∧ cells = []) ∨ ∃ id raw ids, x = .sl id 0 k w ∧ H[id]? = some ⟨raw, true, true⟩ ∧ raw.length = k * w ∧ OwnC d H (List.replicate k cty).flatten raw cells ids ∧ (id :: ids).Nodup
theorem OwnS.nil (d : Nat) (H : Heap) (w : Nat) (cty : List Nat) : OwnS d H w cty .nl 0 [] := .inl ⟨rfl, rfl, rfl⟩
theorem OwnS.grow {d : Nat} {H : Heap} {w : Nat} {cty : List Nat} {x : AV} {k : Nat} {cells : List AV} (h : OwnS d H w cty x k cells) (X : List Blk) : OwnS d (H ++ X) w cty x k cells := by
 rcases h with h | ⟨id, raw, ids, h1, h2, h3, h4, h5⟩
 ·exact .inl h
 ·exact .inr ⟨id, raw, ids, h1, by rw [List.getElem?_append_left (List.getElem?_eq_some_iff.1 h2).1]; exact h2, h3, h4.grow X, h5⟩
variable {β : Type} {n : Nat} {r : Option β}
theorem set_at (A : Heap) (b b' : Blk) (R : Heap) : (A ++ b :: R).set A.length b' = A ++ b' :: R := by
 rw [List.set_append_right _ _ (Nat.le_refl _), Nat.sub_self]
 rfl
theorem get_at (A : Heap) (b : Blk) (R : Heap) : (A ++ b :: R)[A.length]? = some b := by
 rw [List.getElem?_append_right (Nat.le_refl _), Nat.sub_self]
 rfl
theorem app_one {d : Nat} {H X : Heap} {w bytes : Nat} {cty : List Nat} {x : AV} {k : Nat} {cells er ec : List AV} {eids : List Nat} {K : AV → Heap → Option β} (hx : OwnS d H w cty x k cells) (hw : er.length = w) (hl : er.all isLeaf = true)
  (he : OwnC d (H ++ X) cty er ec eids) (hn : eids.Nodup) (hge : ∀ i ∈ eids, H.length ≤ i) (hb : (k + 1) * bytes ≤ 140737488355328)
  (h : ∀ x' H', OwnS d H' w cty x' (k + 1) (cells ++ ec) → K x' H' = r) :
  pNewSl 1 w er true (H ++ X) (fun y G => pApp w bytes x y G K) = r := by
 have hy : ∀ G : Heap, content (G ++ [⟨er, true, true⟩]) w (.sl G.length 0 1 w) = some er := by
  intro G
  simp only [content, if_true, Nat.one_mul, rdCells, get_at G _ [], Nat.zero_add, hw, Nat.le_refl, List.drop_zero]
  rw [← hw, List.take_length]
 have hell : (H ++ X).length ∉ eids := fun hm => Nat.lt_irrefl _ (he.lt _ hm)
 rcases hx with ⟨rfl, rfl, rfl⟩ | ⟨id, raw, ids, rfl, h2, h3, h4, h5⟩
 ·simp only [pNewSl, pApp, lenA, Option.bind_some, hy]
  rw [show content (H ++ X ++ [⟨er, true, true⟩]) w .nl = some [] from rfl]
  simp only [Option.bind_some, kill]
  rw [if_pos hb, if_pos hl]
  refine h _ _ (.inr ⟨_, er, eids, rfl, ?_, by simp [hw], ?_, ?_⟩)
  ·rw [List.getElem?_append_right (Nat.le_refl _), Nat.sub_self]
   rfl
  ·simp only [Nat.zero_add, List.replicate_one, List.flatten_cons, List.flatten_nil, List.append_nil, List.nil_append]
   exact (he.grow _).grow _
  ·rw [List.nodup_cons]
   refine ⟨fun hm => ?_, hn⟩
   have := he.lt _ hm
   simp at this
   omega
 ·have hid : id < H.length := (List.getElem?_eq_some_iff.1 h2).1
  have hg : (H ++ X ++ [(⟨er, true, true⟩ : Blk)])[id]? = some ⟨raw, true, true⟩ := by
   rw [List.append_assoc, List.getElem?_append_left hid]
   exact h2
  have hcx : content (H ++ X ++ [⟨er, true, true⟩]) w (.sl id 0 k w) = some raw := by
   simp only [content, if_true, rdCells, hg, Nat.zero_add, h3, Nat.le_refl, List.drop_zero]
   rw [← h3, List.take_length]
  simp only [pNewSl, pApp, lenA, Option.bind_some, hy, hcx, kill, hg, if_true]
  rw [if_pos hb, if_pos hl]
  have hn5 := List.nodup_cons.1 h5
  have hne : ∀ i ∈ ids, i ≠ id := fun i hi e => hn5.1 (e ▸ hi)
  have hne2 : ∀ i ∈ eids, i ≠ id := fun i hi e => by
   have := hge i hi
   omega
  refine h _ _ (.inr ⟨_, raw ++ er, ids ++ eids, rfl, ?_, by simp [h3, hw, Nat.succ_mul], ?_, ?_⟩)
  ·rw [List.getElem?_append_right (Nat.le_refl _), Nat.sub_self]
   rfl
  ·have e : (List.replicate (k + 1) cty).flatten = (List.replicate k cty).flatten ++ cty := by
    rw [List.replicate_succ', List.flatten_append]
    simp
   rw [e]
   refine OwnC.append ?_ ?_
   ·refine OwnC.grow (OwnC.frame (H := H ++ X ++ [⟨er, true, true⟩]) ((h4.grow X).grow _) fun i hi => ?_) _
    rw [List.getElem?_set_ne (fun e => hne i hi e.symm)]
   ·refine OwnC.grow (OwnC.frame (H := H ++ X ++ [⟨er, true, true⟩]) (he.grow _) fun i hi => ?_) _
    rw [List.getElem?_set_ne (fun e => hne2 i hi e.symm)]
  ·rw [List.nodup_cons]
   refine ⟨fun hm => ?_, ?_⟩
   ·rcases List.mem_append.1 hm with hm | hm
    ·have := h4.lt _ hm
     simp at this
     omega
    ·have := he.lt _ hm
     simp at this
     omega
   ·rw [List.nodup_append]
    refine ⟨hn5.2, hn, fun a ha b hb e => ?_⟩
    have h1 := h4.lt a ha
    have h2 := hge b hb
    omega
theorem own_new {d : Nat} {H : Heap} {ts : List Nat} {cs : List AV} (h : okLW (okW ti0 E0.tp d) ts cs) : OwnC d (H ++ (instL ti0 E0.tp H.length ts cs).2) ts (instL ti0 E0.tp H.length ts cs).1 cs (List.range' H.length (instL ti0 E0.tp H.length ts cs).2.length) :=
 own_instL (fun ty t N h h' _ => own_inst d ty t N h h') ts cs H.length h (Lies_end _ _) (instL_live _ _ _)
theorem own_res {d : Nat} {H : Heap} {w tyS k : Nat} {cty : List Nat} {x : AV} {cells : List AV} (hty : ∃ i j, ti0 tyS = some i ∧ ti0 i.elem = some j ∧ j.size = w ∧ j.cty = cty) (h : OwnS d H w cty x k cells) : ∃ ids, ownT ti0 E0.tp H (d + 1) tyS x = some (.ro k cells, ids) ∧ ids.Nodup := by
 rcases h with ⟨rfl, rfl, rfl⟩ | ⟨id, raw, ids, rfl, h2, h3, h4, h5⟩
 ·exact ⟨[], rfl, List.nodup_nil⟩
 ·obtain ⟨i, j, e1, e2, rfl, rfl⟩ := hty
  refine ⟨id :: ids, ?_, h5⟩
  rw [ownT_sl]
  have ha : isApp H id = true := by simp only [isApp, h2]
  have hr : rdCells H id 0 (k * j.size) = some raw := by
   simp only [rdCells, h2, if_true, Nat.zero_add, h3, Nat.le_refl, List.drop_zero]
   rw [← h3, List.take_length]
  have h4' : ownL (ownT ti0 E0.tp H d) (List.replicate k j.cty).flatten raw = some (cells, ids) := h4
  simp only [e1, e2, Option.bind_some, if_true, ha, hr, h4']
end Go.Proofs.YtejjggnchdldoaaDoor.Abs
set_option linter.unusedVariables false
set_option linter.unusedSimpArgs false
namespace Go.Proofs.YtejjggnchdldoaaDoor.Abs
open Go
section
variable {ti : Nat → Option TI} {tp : Nat → Option (List Nat)} {H : Heap}
theorem ownL_dep {d d' : Nat} (hd : ∀ ty x t I, ownT ti tp H d ty x = some (t, I) → okW ti tp d' ty t → ownT ti tp H d' ty x = some (t, I)) : ∀ (ts : List Nat) (xs cells : List AV) (I : List Nat), ownL (ownT ti tp H d) ts xs = some (cells, I) → okLW (okW ti tp d') ts cells → ownL (ownT ti tp H d') ts xs = some (cells, I)
 | ts, [], cells, I, h, _ => by
  obtain ⟨rfl, e⟩ := ownL_nil h
  cases e
  rfl
 | [], _ :: _, _, _, h, _ => by simp [ownL] at h
 | t :: ts, x :: xs, cells, I, h, ho => by
  obtain ⟨a, b, h1, h2, e⟩ := ownL_cons h
  cases e
  have e1 := hd t x a.1 a.2 h1 ho.1
  have e2 := ownL_dep hd ts xs b.1 b.2 h2 ho.2
  rw [ownL, e1, Option.bind_some, e2]
  rfl
theorem own_dep : ∀ (d d' ty : Nat) (x t : AV) (I : List Nat), ownT ti tp H d ty x = some (t, I) → okW ti tp d' ty t → ownT ti tp H d' ty x = some (t, I)
 | 0, _, _, _, _, _, h, _ => by simp [ownT] at h
 | d + 1, 0, _, _, _, _, _, ho => by cases ho
 | d + 1, d' + 1, ty, x, t, I, h, ho => by
  cases x with
  | sc v =>
   obtain ⟨rfl, rfl⟩ : AV.sc v = t ∧ [] = I := by simpa [ownT] using h
   rfl
  | nl =>
   obtain ⟨rfl, rfl⟩ : AV.ro 0 [] = t ∧ [] = I := by simpa [ownT] using h
   rfl
  | sl id off n z =>
   rw [ownT_sl] at h ⊢
   simp only [Option.bind_eq_some_iff] at h
   obtain ⟨i, h1, j, h2, h3⟩ := h
   split at h3
   case isFalse => cases h3
   rename_i hz
   split at h3
   case isFalse => cases h3
   rename_i ha
   simp only [Option.bind_eq_some_iff] at h3
   obtain ⟨cs, h4, q, h5, h6⟩ := h3
   obtain ⟨rfl, rfl⟩ : AV.ro n q.1 = t ∧ id :: q.2 = I := by simpa using h6
   obtain ⟨i', j', g1, g2, g3, g4⟩ := ho
   rw [h1] at g1
   cases g1
   rw [h2] at g2
   cases g2
   have e3 := ownL_dep (fun ty x t I h ho => own_dep d d' ty x t I h ho) _ _ _ _ h5 g4
   rw [hz] at h4
   simp only [h1, h2, Option.bind_some, hz, if_true, ha, h4, e3]
  | agg cs =>
   rw [ownT_agg] at h ⊢
   simp only [Option.bind_eq_some_iff] at h
   obtain ⟨i, h1, q, h2, h3⟩ := h
   obtain ⟨rfl, rfl⟩ : AV.agg q.1 = t ∧ q.2 = I := by simpa using h3
   obtain ⟨i', g1, g2⟩ := ho
   rw [h1] at g1
   cases g1
   have e3 := ownL_dep (fun ty x t I h ho => own_dep d d' ty x t I h ho) _ _ _ _ h2 g2
   rw [h1, Option.bind_some, e3]
   rfl
  | tup cs =>
   rw [ownT_tup] at h ⊢
   simp only [Option.bind_eq_some_iff] at h
   obtain ⟨i, h1, q, h2, h3⟩ := h
   obtain ⟨rfl, rfl⟩ : AV.tup q.1 = t ∧ q.2 = I := by simpa using h3
   obtain ⟨i', g1, g2⟩ := ho
   rw [h1] at g1
   cases g1
   have e3 := ownL_dep (fun ty x t I h ho => own_dep d d' ty x t I h ho) _ _ _ _ h2 g2
   rw [h1, Option.bind_some, e3]
   rfl
  | _ => simp [ownT] at h
theorem ownL_view {d : Nat} (hd : ∀ ty x t I, ownT ti tp H d ty x = some (t, I) → viewV H d x = some t) : ∀ (ts : List Nat) (xs cells : List AV) (I : List Nat), ownL (ownT ti tp H d) ts xs = some (cells, I) → xs.mapM (viewV H d) = some cells
 | ts, [], cells, I, h => by
  obtain ⟨rfl, e⟩ := ownL_nil h
  cases e
  rfl
 | [], _ :: _, _, _, h => by simp [ownL] at h
 | t :: ts, x :: xs, cells, I, h => by
  obtain ⟨a, b, h1, h2, e⟩ := ownL_cons h
  cases e
  simp only [List.mapM_cons, hd t x a.1 a.2 h1, ownL_view hd ts xs b.1 b.2 h2, Option.pure_def, Option.bind_eq_bind, Option.bind_some]
theorem own_view : ∀ (d ty : Nat) (x t : AV) (I : List Nat), ownT ti tp H d ty x = some (t, I) → viewV H d x = some t
 | 0, _, _, _, _, h => by simp [ownT] at h
 | d + 1, ty, x, t, I, h => by
  have ih := ownL_view (ti := ti) (tp := tp) (H := H) (d := d) (fun ty x t I h => own_view d ty x t I h)
  cases x with
  | sc v =>
   obtain ⟨rfl, rfl⟩ : AV.sc v = t ∧ [] = I := by simpa [ownT] using h
   rfl
  | nl =>
   obtain ⟨rfl, rfl⟩ : AV.ro 0 [] = t ∧ [] = I := by simpa [ownT] using h
   rfl
  | sl id off n z =>
   rw [ownT_sl] at h
   simp only [Option.bind_eq_some_iff] at h
   obtain ⟨i, h1, j, h2, h3⟩ := h
   split at h3
   case isFalse => cases h3
   split at h3
   case isFalse => cases h3
   simp only [Option.bind_eq_some_iff] at h3
   obtain ⟨cs, h4, q, h5, h6⟩ := h3
   obtain ⟨rfl, rfl⟩ : AV.ro n q.1 = t ∧ id :: q.2 = I := by simpa using h6
   rw [viewV_sl, h4, Option.bind_some, ih _ _ _ _ h5]
   rfl
  | agg cs =>
   rw [ownT_agg] at h
   simp only [Option.bind_eq_some_iff] at h
   obtain ⟨i, h1, q, h2, h3⟩ := h
   obtain ⟨rfl, rfl⟩ : AV.agg q.1 = t ∧ q.2 = I := by simpa using h3
   rw [viewV_agg, ih _ _ _ _ h2]
   rfl
  | tup cs =>
   rw [ownT_tup] at h
   simp only [Option.bind_eq_some_iff] at h
   obtain ⟨i, h1, q, h2, h3⟩ := h
   obtain ⟨rfl, rfl⟩ : AV.tup q.1 = t ∧ q.2 = I := by simpa using h3
   show (cs.mapM (viewV H d)).bind _ = _
   rw [ih _ _ _ _ h2]
   rfl
  | _ => simp [ownT] at h
theorem okLW_mono {f g : Nat → AV → Prop} (hfg : ∀ t x, f t x → g t x) : ∀ {ts : List Nat} {cs : List AV}, okLW f ts cs → okLW g ts cs
 | [], [], h => h
 | _ :: ts, _ :: cs, h => ⟨hfg _ _ h.1, okLW_mono hfg h.2⟩
theorem okW_mono : ∀ (d ty : Nat) (x : AV), okW ti tp d ty x → okW ti tp (d + 1) ty x
 | 0, _, _, h => by cases h
 | d + 1, ty, x, h => by
  cases x with
  | sc v => trivial
  | ro n cells =>
   obtain ⟨i, j, h1, h2, h3, h4⟩ := h
   exact ⟨i, j, h1, h2, h3, okLW_mono (okW_mono d) h4⟩
  | agg cs =>
   obtain ⟨i, h1, h2⟩ := h
   exact ⟨i, h1, okLW_mono (okW_mono d) h2⟩
  | tup cs =>
   obtain ⟨i, h1, h2⟩ := h
   exact ⟨i, h1, okLW_mono (okW_mono d) h2⟩
  | _ => cases h
theorem okW_le {d d' ty : Nat} {x : AV} (h : okW ti tp d ty x) (hd : d ≤ d') : okW ti tp d' ty x := by
 induction hd with
 | refl => exact h
 | step _ ih => exact okW_mono _ _ _ ih
theorem okLW_le {d d' : Nat} {ts : List Nat} {cs : List AV} (h : okLW (okW ti tp d) ts cs) (hd : d ≤ d') : okLW (okW ti tp d') ts cs := okLW_mono (fun _ _ h => okW_le h hd) h
end
inductive Ck where
 | blk (id : Nat) (cs : List AV) (a : Bool)
 | own (x : AV) (ty : Nat) (t : AV)
 | shr (x : AV) (ty : Nat) (t : AV) (y : AV) (ty' : Nat) (t' : AV)
 | shs (x : AV) (ty : Nat) (t : AV) (ys : List (AV × Nat × AV))
def CkOk (H : Heap) (c : Ck) (I : List Nat) : Prop :=
 match c with
 | .blk id cs a => I = [id] ∧ H[id]? = some ⟨cs, true, a⟩
 | .own x ty t => isLeaf x = true ∧ okW ti0 E0.tp 6 ty t ∧ ownT ti0 E0.tp H 6 ty x = some (t, I)
 | .shr x ty t y ty' t' => (isLeaf x = true ∧ okW ti0 E0.tp 6 ty t ∧ ownT ti0 E0.tp H 6 ty x = some (t, I)) ∧ okW ti0 E0.tp 6 ty' t' ∧ ∃ J, ownT ti0 E0.tp H 6 ty' y = some (t', J) ∧ ∀ i ∈ J, i ∈ I
 | .shs x ty t ys => (isLeaf x = true ∧ okW ti0 E0.tp 6 ty t ∧ ownT ti0 E0.tp H 6 ty x = some (t, I)) ∧ ∀ q ∈ ys, okW ti0 E0.tp 6 q.2.1 q.2.2 ∧ ∃ J, ownT ti0 E0.tp H 6 q.2.1 q.1 = some (q.2.2, J) ∧ ∀ i ∈ J, i ∈ I
def SepI (H : Heap) : List Ck → List Nat → Prop
 | [], I => I = []
 | c :: L, I => ∃ J R, I = J ++ R ∧ CkOk H c J ∧ SepI H L R
def Sep (H : Heap) (L : List Ck) : Prop := ∃ I, SepI H L I ∧ I.Nodup
inductive Pk : List Ck → Ck → List Ck → Prop
 | here {c : Ck} {L : List Ck} : Pk (c :: L) c L
 | there {a c : Ck} {L L' : List Ck} : Pk L c L' → Pk (a :: L) c (a :: L')
section
variable {H H' : Heap} {L L' L1 L2 : List Ck} {c : Ck} {I J R : List Nat}
theorem sep_nil : Sep H [] := ⟨[], rfl, List.nodup_nil⟩
theorem CkOk.frame (h : CkOk H c I) (hs : ∀ i ∈ I, H'[i]? = H[i]?) : CkOk H' c I := by
 cases c with
 | blk id cs a =>
  obtain ⟨rfl, h2⟩ := h
  exact ⟨rfl, by rw [hs id (by simp)]; exact h2⟩
 | own x ty t => exact ⟨h.1, h.2.1, own_frame 6 ty x _ h.2.2 hs⟩
 | shr x ty t y ty' t' =>
  obtain ⟨⟨h1, h2, h3⟩, h4, J, h5, h6⟩ := h
  exact ⟨⟨h1, h2, own_frame 6 ty x _ h3 hs⟩, h4, J, own_frame 6 ty' y _ h5 fun i hi => hs i (h6 i hi), h6⟩
 | shs x ty t ys =>
  obtain ⟨⟨h1, h2, h3⟩, h4⟩ := h
  exact ⟨⟨h1, h2, own_frame 6 ty x _ h3 hs⟩, fun q hq => by
   obtain ⟨g1, J, g2, g3⟩ := h4 q hq
   exact ⟨g1, J, own_frame 6 _ _ _ g2 fun i hi => hs i (g3 i hi), g3⟩⟩
theorem CkOk.lt (h : CkOk H c I) : ∀ i ∈ I, i < H.length := by
 cases c with
 | blk id cs a =>
  obtain ⟨rfl, h2⟩ := h
  intro i hi
  rw [List.mem_singleton] at hi
  subst hi
  exact (List.getElem?_eq_some_iff.1 h2).1
 | own x ty t => exact own_lt 6 ty x _ h.2.2
 | shr x ty t y ty' t' => exact own_lt 6 ty x _ h.1.2.2
 | shs x ty t ys => exact own_lt 6 ty x _ h.1.2.2
theorem SepI.frame : ∀ {L : List Ck} {I : List Nat}, SepI H L I → (∀ i ∈ I, H'[i]? = H[i]?) → SepI H' L I
 | [], I, h, _ => h
 | c :: L, I, h, hs => by
  obtain ⟨J, R, rfl, h1, h2⟩ := h
  exact ⟨J, R, rfl, h1.frame fun i hi => hs i (List.mem_append_left _ hi), h2.frame fun i hi => hs i (List.mem_append_right _ hi)⟩
theorem SepI.lt : ∀ {L : List Ck} {I : List Nat}, SepI H L I → ∀ i ∈ I, i < H.length
 | [], I, h => by
  cases (show I = [] from h)
  intro i hi
  cases hi
 | c :: L, I, h => by
  obtain ⟨J, R, rfl, h1, h2⟩ := h
  intro i hi
  rcases List.mem_append.1 hi with hi | hi
  ·exact h1.lt i hi
  ·exact h2.lt i hi
theorem SepI.grow (h : SepI H L I) (X : List Blk) : SepI (H ++ X) L I := h.frame fun i hi => List.getElem?_append_left (h.lt i hi)
theorem Sep.grow (h : Sep H L) (X : List Blk) : Sep (H ++ X) L := by
 obtain ⟨I, h1, h2⟩ := h
 exact ⟨I, h1.grow X, h2⟩
theorem Sep.new {X : List Blk} (hs : Sep H L) (hc : CkOk (H ++ X) c J) (hJ : J.Nodup) (hge : ∀ i ∈ J, H.length ≤ i) : Sep (H ++ X) (c :: L) := by
 obtain ⟨I, h1, h2⟩ := hs
 refine ⟨J ++ I, ⟨J, I, rfl, hc, h1.grow X⟩, List.nodup_append.2 ⟨hJ, h2, fun a ha b hb e => ?_⟩⟩
 have := h1.lt b hb
 have := hge a ha
 omega
theorem Pk.sepI : ∀ {L L' : List Ck} {c : Ck} {I : List Nat}, Pk L c L' → SepI H L I → ∃ J R, CkOk H c J ∧ SepI H L' R ∧ I.Perm (J ++ R)
 | _, _, _, _, .here, h => by
  obtain ⟨J, R, rfl, h1, h2⟩ := h
  exact ⟨J, R, h1, h2, List.Perm.refl _⟩
 | _, _, _, _, .there p, h => by
  obtain ⟨J, R, rfl, h1, h2⟩ := h
  obtain ⟨J', R', g1, g2, g3⟩ := p.sepI h2
  refine ⟨J', J ++ R', g1, ⟨J, R', rfl, h1, g2⟩, ?_⟩
  refine (List.Perm.append_left J g3).trans ?_
  rw [← List.append_assoc, ← List.append_assoc]
  exact List.Perm.append_right R' List.perm_append_comm
theorem Sep.pick (h : Sep H L) (p : Pk L c L') : Sep H (c :: L') := by
 obtain ⟨I, h1, h2⟩ := h
 obtain ⟨J, R, g1, g2, g3⟩ := p.sepI h1
 exact ⟨J ++ R, ⟨J, R, rfl, g1, g2⟩, g3.nodup_iff.1 h2⟩
theorem Sep.tail (h : Sep H (c :: L)) : Sep H L := by
 obtain ⟨I, ⟨J, R, rfl, h1, h2⟩, h3⟩ := h
 exact ⟨R, h2, (List.nodup_append.1 h3).2.1⟩
theorem Sep.blk {id : Nat} {cs : List AV} {a : Bool} (h : Sep H L) (p : Pk L (.blk id cs a) L') : H[id]? = some ⟨cs, true, a⟩ := by
 obtain ⟨I, ⟨J, R, rfl, h1, h2⟩, h3⟩ := h.pick p
 exact h1.2
theorem Sep.put {id : Nat} {cs : List AV} {a : Bool} (h : Sep H L) (p : Pk L (.blk id cs a) L') (cs' : List AV) (a' : Bool) : Sep (H.set id ⟨cs', true, a'⟩) (.blk id cs' a' :: L') := by
 obtain ⟨I, ⟨J, R, rfl, ⟨rfl, h1⟩, h2⟩, h3⟩ := h.pick p
 have hn := (List.nodup_cons.1 h3).1
 have hl := (List.getElem?_eq_some_iff.1 h1).1
 refine ⟨[id] ++ R, ⟨[id], R, rfl, ⟨rfl, by rw [List.getElem?_set_self hl]⟩, h2.frame fun i hi => ?_⟩, h3⟩
 rw [List.getElem?_set_ne]
 rintro rfl
 exact hn hi
theorem Sep.own {x t : AV} {ty : Nat} (h : Sep H L) (p : Pk L (.own x ty t) L') : isLeaf x = true ∧ okW ti0 E0.tp 6 ty t ∧ ∃ I, ownT ti0 E0.tp H 6 ty x = some (t, I) ∧ I.Nodup := by
 obtain ⟨I, ⟨J, R, rfl, ⟨h0, h1, h1'⟩, h2⟩, h3⟩ := h.pick p
 exact ⟨h0, h1, J, h1', (List.nodup_append.1 h3).1⟩
theorem Sep.seen {x t y t' : AV} {ty ty' : Nat} (h : Sep H L) (p : Pk L (.shr x ty t y ty' t') L') : okW ti0 E0.tp 6 ty' t' ∧ ∃ I, ownT ti0 E0.tp H 6 ty' y = some (t', I) := by
 obtain ⟨I, ⟨J, R, rfl, ⟨h0, h1, J', h1', h3⟩, h2⟩, h4⟩ := h.pick p
 exact ⟨h1, J', h1'⟩
theorem Sep.toShs {x t : AV} {ty : Nat} (h : Sep H L) (p : Pk L (.own x ty t) L') : Sep H (.shs x ty t [] :: L') := by
 obtain ⟨I, ⟨J, R, rfl, h0, h2⟩, h3⟩ := h.pick p
 exact ⟨J ++ R, ⟨J, R, rfl, ⟨h0, fun q hq => by cases hq⟩, h2⟩, h3⟩
theorem Sep.ofShs {x t : AV} {ty : Nat} {ys : List (AV × Nat × AV)} (h : Sep H L) (p : Pk L (.shs x ty t ys) L') : Sep H (.own x ty t :: L') := by
 obtain ⟨I, ⟨J, R, rfl, ⟨h0, _⟩, h2⟩, h3⟩ := h.pick p
 exact ⟨J ++ R, ⟨J, R, rfl, h0, h2⟩, h3⟩
theorem Sep.seenS {x t : AV} {ty k : Nat} {ys : List (AV × Nat × AV)} {q : AV × Nat × AV} (h : Sep H L) (p : Pk L (.shs x ty t ys) L') (hk : ys[k]? = some q) : okW ti0 E0.tp 6 q.2.1 q.2.2 ∧ ∃ I, ownT ti0 E0.tp H 6 q.2.1 q.1 = some (q.2.2, I) := by
 obtain ⟨I, ⟨J, R, rfl, ⟨h0, h1⟩, h2⟩, h4⟩ := h.pick p
 obtain ⟨g1, J', g2, _⟩ := h1 q (List.mem_of_getElem? hk)
 exact ⟨g1, J', g2⟩
theorem Sep.forget {x t y t' : AV} {ty ty' : Nat} (h : Sep H L) (p : Pk L (.shr x ty t y ty' t') L') : Sep H (.own x ty t :: L') := by
 obtain ⟨I, ⟨J, R, rfl, ⟨h0, _⟩, h2⟩, h4⟩ := h.pick p
 exact ⟨J ++ R, ⟨J, R, rfl, h0, h2⟩, h4⟩
theorem Sep.nl {ty : Nat} (h : Sep H L) (hty : ∃ i j, ti0 ty = some i ∧ ti0 i.elem = some j) : Sep H (.own .nl ty (.ro 0 []) :: L) := by
 obtain ⟨I, h1, h2⟩ := h
 obtain ⟨i, j, e1, e2⟩ := hty
 exact ⟨[] ++ I, ⟨[], I, rfl, ⟨rfl, ⟨i, j, e1, e2, by simp, by simp [okLW]⟩, rfl⟩, h1⟩, h2⟩
inductive OwnR : List Ck → List AV → List Nat → List AV → List Ck → Prop
 | nil {L : List Ck} : OwnR L [] [] [] L
 | sc {L L' : List Ck} {v : Value} {raw cells : List AV} {ty : Nat} {tys : List Nat} : OwnR L raw tys cells L' → OwnR L (.sc v :: raw) (ty :: tys) (.sc v :: cells) L'
 | nl {L L' : List Ck} {raw cells : List AV} {ty : Nat} {tys : List Nat} : OwnR L raw tys cells L' → OwnR L (.nl :: raw) (ty :: tys) (.ro 0 [] :: cells) L'
 | own {L L1 L' : List Ck} {x t : AV} {raw cells : List AV} {ty : Nat} {tys : List Nat} : Pk L (.own x ty t) L1 → OwnR L1 raw tys cells L' → OwnR L (x :: raw) (ty :: tys) (t :: cells) L'
 | agg {L L1 L' : List Ck} {cs ts raw cells : List AV} {ty : Nat} {tys cty : List Nat} : (∃ i, ti0 ty = some i ∧ i.cty = cty) → OwnR L cs cty ts L1 → OwnR L1 raw tys cells L' → OwnR L (.agg cs :: raw) (ty :: tys) (.agg ts :: cells) L'
theorem OwnR.sound : ∀ {L L' : List Ck} {raw cells : List AV} {tys : List Nat} {I : List Nat}, OwnR L raw tys cells L' → SepI H L I → ∀ d, okLW (okW ti0 E0.tp d) tys cells → ∃ J R, ownL (ownT ti0 E0.tp H d) tys raw = some (cells, J) ∧ SepI H L' R ∧ I.Perm (J ++ R)
 | _, _, _, _, _, I, .nil, h, d, _ => ⟨[], I, rfl, h, List.Perm.refl _⟩
 | _, _, _, _, _, I, .sc q, h, d + 1, ho => by
  obtain ⟨J, R, h1, h2, h3⟩ := q.sound h (d + 1) ho.2
  refine ⟨J, R, ?_, h2, h3⟩
  rw [ownL, ownT_sc, Option.bind_some, h1]
  rfl
 | _, _, _, _, _, I, .nl q, h, d + 1, ho => by
  obtain ⟨J, R, h1, h2, h3⟩ := q.sound h (d + 1) ho.2
  refine ⟨J, R, ?_, h2, h3⟩
  rw [ownL, show ownT ti0 E0.tp H (d + 1) _ .nl = some (.ro 0 [], []) from rfl, Option.bind_some, h1]
  rfl
 | _, _, _, _, _, I, .own p q, h, d, ho => by
  obtain ⟨J1, R1, g1, g2, g3⟩ := p.sepI h
  obtain ⟨J, R, h1, h2, h3⟩ := q.sound g2 d ho.2
  have e := own_dep 6 d _ _ _ _ g1.2.2 ho.1
  refine ⟨J1 ++ J, R, ?_, h2, ?_⟩
  ·rw [ownL, e, Option.bind_some, h1]
   rfl
  ·refine g3.trans ?_
   rw [List.append_assoc]
   exact List.Perm.append_left J1 h3
 | _, _, _, _, _, I, .agg hty p q, h, d + 1, ho => by
  obtain ⟨i, e1, rfl⟩ := hty
  obtain ⟨i', g1, g2⟩ := ho.1
  rw [e1] at g1
  cases g1
  obtain ⟨J1, R1, a1, a2, a3⟩ := p.sound h (d + 1) (okLW_le g2 (Nat.le_succ d))
  obtain ⟨J, R, h1, h2, h3⟩ := q.sound a2 (d + 1) ho.2
  have a1' := ownL_dep (fun ty x t I h ho => own_dep (d + 1) d ty x t I h ho) _ _ _ _ a1 g2
  refine ⟨J1 ++ J, R, ?_, h2, ?_⟩
  ·rw [ownL, ownT_agg, e1, Option.bind_some, a1', Option.bind_some, Option.bind_some, h1]
   rfl
  ·refine a3.trans ?_
   rw [List.append_assoc]
   exact List.Perm.append_left J1 h3
 | _, _, _, _, _, I, .sc q, h, 0, ho => by cases ho.1
 | _, _, _, _, _, I, .nl q, h, 0, ho => by cases ho.1
 | _, _, _, _, _, I, .agg _ p q, h, 0, ho => by cases ho.1
end
end Go.Proofs.YtejjggnchdldoaaDoor.Abs
set_option linter.unusedVariables false
set_option linter.unusedSimpArgs false
namespace Go.Proofs.YtejjggnchdldoaaDoor.Abs
open Go
def Gd {β : Type} (G : Option β → Prop) (o : Option β) : Prop := G o
section
variable {β : Type} {n : Nat} {H : Heap} {L L' L1 L2 : List Ck} {G : Option β → Prop} {K : AV → Option β} {KH : AV → Heap → Option β}
theorem g_congr {a b : Option β} (e : a = b) (h : Gd G b) : Gd G a := by rw [e]; exact h
theorem g_new {cs : List AV} (hs : Sep H L) (h : ∀ i H', Sep H' (.blk i cs true :: L) → Gd G (KH (.ptr i 0) H')) : Gd G (pNew cs H fun x H => KH x H) :=
 h _ _ (hs.new (J := [H.length]) ⟨rfl, by rw [List.getElem?_append_right (Nat.le_refl _), Nat.sub_self]; rfl⟩ (by simp) (by simp))
theorem g_newSl {k w : Nat} {cs : List AV} {a : Bool} (hs : Sep H L) (h : ∀ i H', Sep H' (.blk i cs a :: L) → Gd G (KH (.sl i 0 k w) H')) : Gd G (pNewSl k w cs a H fun x H => KH x H) :=
 h _ _ (hs.new (J := [H.length]) ⟨rfl, by rw [List.getElem?_append_right (Nat.le_refl _), Nat.sub_self]; rfl⟩ (by simp) (by simp))
theorem g_box {x : AV} {cs : List AV} (hs : Sep H L) (hc : cellsA x = some cs) (h : ∀ i H', Sep H' (.blk i cs true :: L) → Gd G (KH (.ptr i 0) H')) : Gd G (pBox x H fun x H => KH x H) := by
 refine g_congr (b := pNew cs H fun x H => KH x H) ?_ (g_new hs h)
 show (cellsA x).bind _ = _
 rw [hc]
 rfl
theorem cells_fl {cs : List AV} (h : cs.all isFl = true) : cellsA (.agg cs) = some cs := fl_cells h
theorem cells_agg {cs : List AV} (h : cs.all isLeaf = true) : cellsA (.agg cs) = some cs := by
 show (if cs.all isLeaf then some cs else none) = _
 rw [if_pos h]
theorem lf_c {x : AV} {xs : List AV} (h : isLeaf x = true) (hs : xs.all isLeaf = true) : (x :: xs).all isLeaf = true := by
 rw [List.all_cons, h, hs]
 rfl
theorem cells_leaf {x : AV} (h : isLeaf x = true) : cellsA x = some [x] := by
 cases x <;> simp_all [cellsA, isLeaf]
theorem g_ld {i o : Nat} {cs : List AV} {a : Bool} {c : AV} (hs : Sep H L) (hp : Pk L (.blk i cs a) L1) (hc : cs[o]? = some c) (h : Gd G (K c)) : Gd G (pLoad false 1 (.ptr i o) H fun x => K x) := by
 refine g_congr ?_ h
 obtain ⟨hlt, he⟩ := List.getElem?_eq_some_iff.1 hc
 have e : rdCells H i o 1 = some [c] := by
  simp only [rdCells, hs.blk hp, if_true]
  rw [if_pos (by omega), List.drop_eq_getElem_cons hlt, he]
  rfl
 exact ldF e _
theorem g_ldA {i o w : Nat} {cs ds : List AV} {a : Bool} (hs : Sep H L) (hp : Pk L (.blk i cs a) L1) (hl : o + w ≤ cs.length) (hc : (cs.drop o).take w = ds) (h : Gd G (K (.agg ds))) : Gd G (pLoad true w (.ptr i o) H fun x => K x) := by
 refine g_congr ?_ h
 have e : rdCells H i o w = some ds := by
  simp only [rdCells, hs.blk hp, if_true]
  rw [if_pos hl, hc]
 exact ldT e _
theorem g_ldW {i w : Nat} {cs : List AV} {a : Bool} (hs : Sep H L) (hp : Pk L (.blk i cs a) L1) (hl : cs.length = w) (h : Gd G (K (.agg cs))) : Gd G (pLoad true w (.ptr i 0) H fun x => K x) :=
 g_ldA hs hp (by omega) (by rw [List.drop_zero, ← hl, List.take_length]) h
theorem g_st {i o w : Nat} {cs cs' ds : List AV} {a : Bool} {y : AV} {KS : Heap → Option β} (hs : Sep H L) (hp : Pk L (.blk i cs a) L1) (hy : cellsA y = some ds) (hd : ds.length = w) (hl : o + w ≤ cs.length) (hc : splice cs o ds = cs') (h : ∀ H', Sep H' (.blk i cs' a :: L1) → Gd G (KS H')) : Gd G (pStore w (.ptr i o) y H fun H => KS H) := by
 have hb := hs.blk hp
 refine g_congr (st_at w i o y ⟨cs, true, a⟩ ds H _ hb hy hd hl rfl) ?_
 have := hs.put hp cs' a
 rw [← hc] at this
 exact h _ (by rw [← hc]; exact this)
theorem g_ldR {cells : List AV} {c : AV} (hc : cells[0]? = some c) (h : Gd G (K c)) : Gd G (pLoad false 1 (.rp cells) H fun x => K x) := by
 cases cells with
 | nil => cases hc
 | cons x xs =>
  obtain rfl : x = c := by simpa using hc
  refine g_congr (ld1_rp x xs H _) h
theorem g_ldAR {w : Nat} {cells ds : List AV} (hl : w ≤ cells.length) (hc : cells.take w = ds) (h : Gd G (K (.agg ds))) : Gd G (pLoad true w (.rp cells) H fun x => K x) := by
 refine g_congr ?_ h
 simp only [pLoad, hl, if_true, hc]
theorem g_ldE {w : Nat} {cs rest : List AV} (hw : cs.length = w) (h : Gd G (K (.agg cs))) : Gd G (pLoad true w (.rp (cs ++ rest)) H fun x => K x) := g_congr (ld_rp w cs rest H _ hw) h
theorem g_fadr {o i off o' : Nat} (e : off + o = o') (h : Gd G (K (.ptr i o'))) : Gd G (pFadr o (.ptr i off) fun x => K x) := by subst e; exact h
theorem g_fadrR {o : Nat} {cells : List AV} (h : Gd G (K (.rp (cells.drop o)))) : Gd G (pFadr o (.rp cells) fun x => K x) := h
theorem g_nil {id off : Nat} (h : Gd G (K (.ptr id off))) : Gd G (pNil (.ptr id off) fun t => K t) := h
theorem g_nilR {cs : List AV} (h : Gd G (K (.rp cs))) : Gd G (pNil (.rp cs) fun t => K t) := h
theorem g_fld {o : Nat} {cs : List AV} {c : AV} (hc : cs[o]? = some c) (h : Gd G (K c)) : Gd G (pFld false o 1 (.agg cs) fun x => K x) := by
 refine g_congr ?_ h
 obtain ⟨hlt, he⟩ := List.getElem?_eq_some_iff.1 hc
 simp only [pFld]
 rw [if_pos (by omega), List.drop_eq_getElem_cons hlt, he]
 rfl
theorem g_fldA {o w : Nat} {cs ds : List AV} (hl : o + w ≤ cs.length) (hc : (cs.drop o).take w = ds) (h : Gd G (K (.agg ds))) : Gd G (pFld true o w (.agg cs) fun x => K x) := by
 refine g_congr ?_ h
 simp only [pFld]
 rw [if_pos hl, hc]
 rfl
theorem fill_c {z cs z' r : List AV} {o n : Nat} {v : AV} {rest : List (Nat × Nat × AV)} (h : cellsA v = some cs) (hl : cs.length = n) (ho : o + n ≤ z.length) (hz : splice z o cs = z') (h2 : fillA z' rest = some r) : fillA z ((o, n, v) :: rest) = some r := by
 subst hz
 subst hl
 simp only [fillA, h, Option.bind_some, if_true, if_pos ho]
 exact h2
theorem g_fill {zs cs : List AV} {ps : List (Nat × Nat × AV)} {KL : List AV → Option β} (hf : fillA zs ps = some cs) (h : Gd G (KL cs)) : Gd G ((fillA zs ps).bind fun c => KL c) := by
 rw [hf]
 exact h
theorem g_extr {i : Nat} {vs : List AV} {v : AV} (hv : vs[i]? = some v) (h : Gd G (K v)) : Gd G (pExtr (.tup vs) i fun x => K x) := by
 refine g_congr ?_ h
 show (vs[i]?).bind _ = _
 rw [hv]
 rfl
theorem g_len {m : Nat} {cs : List AV} (h : Gd G (K (.sc (.int .i64 m)))) : Gd G (pLen (.ro m cs) fun x => K x) := h
theorem g_lenS {s : ByteArray} (h : Gd G (K (.sc (.int .i64 s.size)))) : Gd G (pLenS (.sc (.string s)) fun x => K x) := h
theorem g_lenN (h : Gd G (K (.sc (.int .i64 (0 : Nat))))) : Gd G (pLen .nl fun x => K x) := h
theorem g_lenL {i o m w : Nat} (h : Gd G (K (.sc (.int .i64 m)))) : Gd G (pLen (.sl i o m w) fun x => K x) := h
theorem len_own {d ty m : Nat} {x : AV} {cells : List AV} {I : List Nat} (h : ownT ti0 E0.tp H d ty x = some (.ro m cells, I)) : lenA x = some m := by
 cases d with
 | zero => simp [ownT] at h
 | succ d =>
  cases x with
  | sc v => simp [ownT] at h
  | nl =>
   have := (Option.some.inj h)
   simp only [Prod.mk.injEq, AV.ro.injEq] at this
   rw [← this.1.1]
   rfl
  | sl id off n z =>
   rw [ownT_sl] at h
   simp only [Option.bind_eq_some_iff] at h
   obtain ⟨i, h1, j, h2, h3⟩ := h
   split at h3
   case isFalse => cases h3
   split at h3
   case isFalse => cases h3
   simp only [Option.bind_eq_some_iff] at h3
   obtain ⟨cs, h4, q, h5, h6⟩ := h3
   obtain ⟨h7, -⟩ : AV.ro n q.1 = .ro m cells ∧ _ := by simpa only [Prod.mk.injEq, Option.some.injEq] using h6
   cases h7
   rfl
  | agg cs =>
   rw [ownT_agg] at h
   simp only [Option.bind_eq_some_iff] at h
   obtain ⟨i, h1, q, h2, h3⟩ := h
   simp at h3
  | tup cs =>
   rw [ownT_tup] at h
   simp only [Option.bind_eq_some_iff] at h
   obtain ⟨i, h1, q, h2, h3⟩ := h
   simp at h3
  | _ => simp [ownT] at h
theorem g_lenO {x : AV} {ty m : Nat} {cells : List AV} (hs : Sep H L) (hp : Pk L (.own x ty (.ro m cells)) L1) (h : Gd G (K (.sc (.int .i64 m)))) : Gd G (pLen x fun x => K x) := by
 obtain ⟨_, _, I, e, _⟩ := hs.own hp
 have hl := len_own e
 refine g_congr ?_ h
 have key : ∀ (x : AV), (∀ v, x ≠ .sc v) → lenA x = some m → pLen x K = K (.sc (.int .i64 m)) := by
  intro x hx hl
  cases x with
  | sc v => exact absurd rfl (hx v)
  | nl => cases hl; rfl
  | ro n cs => cases hl; rfl
  | sl a b c d => cases hl; rfl
  | _ => cases hl
 refine key x (fun v hv => ?_) hl
 subst hv
 simp [ownT] at e
theorem g_bin {op : BinOp} {x y v : AV} (e : ∀ k : AV → Option β, pBin op x y k = k v) (h : Gd G (K v)) : Gd G (pBin op x y fun t => K t) := g_congr (e _) h
theorem g_binB {op : BinOp} {x y v : AV} (e : ∀ k : AV → Option β, pBinB op x y k = k v) (h : Gd G (K v)) : Gd G (pBinB op x y fun t => K t) := g_congr (e _) h
theorem g_eql {a b : Int} (h : Gd G (K (.sc (.bool (decide (a = b)))))) : Gd G (pBin .eql (.sc (.int .i64 a)) (.sc (.int .i64 b)) fun t => K t) := h
theorem g_neq {a b : Int} (h : Gd G (K (.sc (.bool (!decide (a = b)))))) : Gd G (pBin .neq (.sc (.int .i64 a)) (.sc (.int .i64 b)) fun t => K t) := h
theorem g_lss {a b : Int} (h : Gd G (K (.sc (.bool (decide (a < b)))))) : Gd G (pBin .lss (.sc (.int .i64 a)) (.sc (.int .i64 b)) fun t => K t) := h
theorem g_leq {a b : Int} (h : Gd G (K (.sc (.bool (decide (a ≤ b)))))) : Gd G (pBin .leq (.sc (.int .i64 a)) (.sc (.int .i64 b)) fun t => K t) := h
theorem g_gtr {a b : Int} (h : Gd G (K (.sc (.bool (decide (b < a)))))) : Gd G (pBin .gtr (.sc (.int .i64 a)) (.sc (.int .i64 b)) fun t => K t) := h
theorem g_geq {a b : Int} (h : Gd G (K (.sc (.bool (decide (b ≤ a)))))) : Gd G (pBin .geq (.sc (.int .i64 a)) (.sc (.int .i64 b)) fun t => K t) := h
theorem g_add {a b : Int} (h0 : -9223372036854775808 ≤ a + b) (h1 : a + b ≤ 9223372036854775807) (h : Gd G (K (.sc (.int .i64 (a + b))))) : Gd G (pBin .add (.sc (.int .i64 a)) (.sc (.int .i64 b)) fun t => K t) := by
 refine g_congr ?_ h
 show K (.sc (.int .i64 (IntKind.i64.wrap (a + b)))) = _
 rw [wrap64 _ h0 h1]
theorem g_sub {a b : Int} (h0 : -9223372036854775808 ≤ a - b) (h1 : a - b ≤ 9223372036854775807) (h : Gd G (K (.sc (.int .i64 (a - b))))) : Gd G (pBin .sub (.sc (.int .i64 a)) (.sc (.int .i64 b)) fun t => K t) := by
 refine g_congr ?_ h
 show K (.sc (.int .i64 (IntKind.i64.wrap (a - b)))) = _
 rw [wrap64 _ h0 h1]
theorem g_mul {a b : Int} (h0 : -9223372036854775808 ≤ a * b) (h1 : a * b ≤ 9223372036854775807) (h : Gd G (K (.sc (.int .i64 (a * b))))) : Gd G (pBin .mul (.sc (.int .i64 a)) (.sc (.int .i64 b)) fun t => K t) := by
 refine g_congr ?_ h
 show K (.sc (.int .i64 (IntKind.i64.wrap (a * b)))) = _
 rw [wrap64 _ h0 h1]
theorem g_eqlS {a b : ByteArray} (h : Gd G (K (.sc (.bool (a.toList == b.toList))))) : Gd G (pBin .eql (.sc (.string a)) (.sc (.string b)) fun t => K t) := h
theorem g_neqS {a b : ByteArray} (h : Gd G (K (.sc (.bool (!(a.toList == b.toList)))))) : Gd G (pBin .neq (.sc (.string a)) (.sc (.string b)) fun t => K t) := h
theorem g_not {b : Bool} (h : Gd G (K (.sc (.bool (!b))))) : Gd G (pUn .not (.sc (.bool b)) fun t => K t) := h
theorem g_letJ {α : Sort _} {γ : Type} {G : Option γ → Prop} {x : α} {f : α → Option γ} (h : Gd G (f x)) : Gd G (letJ x f) := h
theorem g_cT {b : Bool} {x y : Option β} (hb : b = true) (h : Gd G x) : Gd G (pCond (.sc (.bool b)) x y) := by subst hb; exact h
theorem g_cF {b : Bool} {x y : Option β} (hb : b = false) (h : Gd G y) : Gd G (pCond (.sc (.bool b)) x y) := by subst hb; exact h
theorem g_c {b : Bool} {x y : Option β} (h1 : b = true → Gd G x) (h2 : b = false → Gd G y) : Gd G (pCond (.sc (.bool b)) x y) := by
 cases b
 ·exact h2 rfl
 ·exact h1 rfl
theorem g_cD {p : Prop} [Decidable p] {x y : Option β} (h1 : p → Gd G x) (h2 : ¬ p → Gd G y) : Gd G (pCond (.sc (.bool (decide p))) x y) := g_c (fun h => h1 (of_decide_eq_true h)) (fun h => h2 (of_decide_eq_false h))
theorem g_cN {b : Bool} {x y : Option β} (h1 : b = false → Gd G x) (h2 : b = true → Gd G y) : Gd G (pCond (.sc (.bool (!b))) x y) := g_c (fun h => h1 (by simpa using h)) (fun h => h2 (by simpa using h))
theorem g_cND {p : Prop} [Decidable p] {x y : Option β} (h1 : ¬ p → Gd G x) (h2 : p → Gd G y) : Gd G (pCond (.sc (.bool (!decide p))) x y) := g_cN (fun h => h1 (of_decide_eq_false h)) (fun h => h2 (of_decide_eq_true h))
theorem g_cDT {p : Prop} [Decidable p] {x y : Option β} (hp : p) (h : Gd G x) : Gd G (pCond (.sc (.bool (decide p))) x y) := g_cT (decide_eq_true hp) h
theorem g_cDF {p : Prop} [Decidable p] {x y : Option β} (hp : ¬ p) (h : Gd G y) : Gd G (pCond (.sc (.bool (decide p))) x y) := g_cF (decide_eq_false hp) h
theorem g_gd {b t : Bool} {m : (AV → Heap → Option β) → Option β} (h1 : b = t → Gd G (m fun x H => KH x H)) (h2 : b = (!t) → Gd G (KH (.sc undef) H)) : Gd G (pGuard (.sc (.bool b)) t H m fun x H => KH x H) := by
 cases b <;> cases t <;> first | exact h1 rfl | exact h2 rfl
theorem g_gY {b t : Bool} {m : (AV → Heap → Option β) → Option β} (hb : b = t) (h : Gd G (m fun x H => KH x H)) : Gd G (pGuard (.sc (.bool b)) t H m fun x H => KH x H) := by
 subst hb
 cases b <;> exact h
theorem g_gN {b t : Bool} {m : (AV → Heap → Option β) → Option β} (hb : b = !t) (h : Gd G (KH (.sc undef) H)) : Gd G (pGuard (.sc (.bool b)) t H m fun x H => KH x H) := by
 subst hb
 cases t <;> exact h
theorem g_gU {t : Bool} {m : (AV → Heap → Option β) → Option β} (h : Gd G (KH (.sc undef) H)) : Gd G (pGuard (.sc undef) t H m fun x H => KH x H) := h
theorem g_pT {b : Bool} {x y : AV} (hb : b = true) (h : Gd G (K x)) : Gd G (pPick (.sc (.bool b)) x y fun t => K t) := by
 subst hb
 cases x <;> cases y <;> exact h
theorem g_pF {b : Bool} {x y : AV} (hb : b = false) (h : Gd G (K y)) : Gd G (pPick (.sc (.bool b)) x y fun t => K t) := by
 subst hb
 cases x <;> cases y <;> exact h
theorem g_pS {b : Bool} {x y : AV} (h1 : b = true → Gd G (K x)) (h2 : b = false → Gd G (K y)) : Gd G (pPick (.sc (.bool b)) x y fun t => K t) := by
 cases hb : b
 ·exact g_pF rfl (h2 hb)
 ·exact g_pT rfl (h1 hb)
inductive VwC (L : List Ck) : Nat → AV → AV → Prop
 | sc {d : Nat} {v : Value} : VwC L (d + 1) (.sc v) (.sc v)
 | nl {d : Nat} : VwC L (d + 1) .nl (.ro 0 [])
 | ro {d n : Nat} {cs : List AV} : VwC L (d + 1) (.ro n cs) (.ro n cs)
 | rp {d : Nat} {cs : List AV} : VwC L (d + 1) (.rp cs) (.rp cs)
 | own {d : Nat} {x t : AV} {ty : Nat} {L' : List Ck} : 6 ≤ d → Pk L (.own x ty t) L' → VwC L d x t
 | shr {d : Nat} {x t y t' : AV} {ty ty' : Nat} {L' : List Ck} : 6 ≤ d → Pk L (.shr x ty t y ty' t') L' → VwC L d y t'
 | shsE {d k : Nat} {x t y t' : AV} {ty ty' : Nat} {ys : List (AV × Nat × AV)} {L' : List Ck} : 6 ≤ d → Pk L (.shs x ty t ys) L' → ys[k]? = some (y, ty', t') → VwC L d y t'
 | shsO {d : Nat} {x t : AV} {ty : Nat} {ys : List (AV × Nat × AV)} {L' : List Ck} : 6 ≤ d → Pk L (.shs x ty t ys) L' → VwC L d x t
end
inductive VwL (L : List Ck) : Nat → List AV → List AV → Prop
 | nil {d : Nat} : VwL L d [] []
 | cons {d : Nat} {x t : AV} {xs ts : List AV} : VwC L d x t → VwL L d xs ts → VwL L d (x :: xs) (t :: ts)
 | agg {d : Nat} {cs ds xs ts : List AV} : VwL L d cs ds → VwL L (d + 1) xs ts → VwL L (d + 1) (.agg cs :: xs) (.agg ds :: ts)
 | aggF {d : Nat} {cs xs ts : List AV} : cs.all isFl = true → VwL L (d + 2) xs ts → VwL L (d + 2) (.agg cs :: xs) (.agg cs :: ts)
 | sl {d i k w : Nat} {cs ds xs ts : List AV} {a : Bool} {L' : List Ck} : Pk L (.blk i cs a) L' → cs.length = k * w → VwL L d cs ds → VwL L (d + 1) xs ts → VwL L (d + 1) (.sl i 0 k w :: xs) (.ro k ds :: ts)
 | slA {d i o k w : Nat} {cs ds xs ts : List AV} {a : Bool} {L' : List Ck} : Pk L (.blk i cs a) L' → o + k * w ≤ cs.length → VwL L d ((cs.drop o).take (k * w)) ds → VwL L (d + 1) xs ts → VwL L (d + 1) (.sl i o k w :: xs) (.ro k ds :: ts)
 | ptr {d i : Nat} {cs ds xs ts : List AV} {a : Bool} {L' : List Ck} : Pk L (.blk i cs a) L' → VwL L d cs ds → VwL L (d + 1) xs ts → VwL L (d + 1) (.ptr i 0 :: xs) (.rp ds :: ts)
 | fn {d f : Nat} {ps cs ps' cs' xs ts : List AV} : VwL L d ps ps' → VwL L d cs cs' → VwL L (d + 1) xs ts → VwL L (d + 1) (.fn f ps cs :: xs) (.fn f ps' cs' :: ts)
section
variable {β : Type} {n : Nat} {H : Heap} {L L' L1 L2 : List Ck} {G : Option β → Prop} {K : AV → Option β} {KH : AV → Heap → Option β}
theorem VwC.sound (hs : Sep H L) {d : Nat} {x t : AV} (h : VwC L d x t) : viewV H d x = some t := by
 cases h with
 | sc => rfl
 | nl => rfl
 | ro => rfl
 | rp => rfl
 | own hd hp =>
  obtain ⟨_, h1, I, h2, _⟩ := hs.own hp
  exact own_view d _ _ _ I (own_dep 6 d _ _ _ _ h2 (okW_le h1 hd))
 | shr hd hp =>
  obtain ⟨h1, I, h2⟩ := hs.seen hp
  exact own_view d _ _ _ I (own_dep 6 d _ _ _ _ h2 (okW_le h1 hd))
 | shsE hd hp hk =>
  obtain ⟨h1, I, h2⟩ := hs.seenS hp hk
  exact own_view d _ _ _ I (own_dep 6 d _ _ _ _ h2 (okW_le h1 hd))
 | shsO hd hp =>
  obtain ⟨_, h1, I, h2, _⟩ := (hs.ofShs hp).own .here
  exact own_view d _ _ _ I (own_dep 6 d _ _ _ _ h2 (okW_le h1 hd))
theorem view_cons {d : Nat} {x t : AV} {xs ts : List AV} (h : viewV H d x = some t) (hs : xs.mapM (viewV H d) = some ts) : (x :: xs).mapM (viewV H d) = some (t :: ts) := by
 simp only [List.mapM_cons, h, hs, Option.pure_def, Option.bind_eq_bind, Option.bind_some]
theorem VwL.sound (hs : Sep H L) : ∀ {d : Nat} {xs ts : List AV}, VwL L d xs ts → xs.mapM (viewV H d) = some ts
 | _, _, _, .nil => rfl
 | _, _, _, .cons h q => view_cons (h.sound hs) (q.sound hs)
 | _, _, _, .agg h q => view_cons (by rw [viewV_agg, h.sound hs]; rfl) (q.sound hs)
 | _, _, _, .aggF h q => view_cons (by rw [viewV_agg, fl_view h]; rfl) (q.sound hs)
 | _, _, _, .sl (i := i) (k := k) (w := w) (cs := cs) hp hl h q => view_cons (by
   rw [viewV_sl]
   have hb := hs.blk hp
   have e : rdCells H i 0 (k * w) = some cs := by
    simp only [rdCells, hb, if_true, List.drop_zero, Nat.zero_add, ← hl, Nat.le_refl, List.take_length]
   rw [e, Option.bind_some, h.sound hs]
   rfl) (q.sound hs)
 | _, _, _, .slA (i := i) (o := o) (k := k) (w := w) (cs := cs) hp hl h q => view_cons (by
   rw [viewV_sl]
   have hb := hs.blk hp
   have e : rdCells H i o (k * w) = some ((cs.drop o).take (k * w)) := by
    simp only [rdCells, hb, if_true, hl]
   rw [e, Option.bind_some, h.sound hs]
   rfl) (q.sound hs)
 | _, _, _, .ptr (i := i) (cs := cs) hp h q => view_cons (by
   have hb := hs.blk hp
   show ((H[i]?).bind fun b => (rdCells H i 0 (b.cells.length - 0)).bind fun cs => (cs.mapM (viewV H _)).bind fun vs => some (AV.rp vs)) = _
   rw [hb, Option.bind_some]
   have e : rdCells H i 0 (cs.length - 0) = some cs := by
    simp only [rdCells, hb, if_true, List.drop_zero, Nat.zero_add, Nat.sub_zero, Nat.le_refl, List.take_length]
   show (rdCells H i 0 (cs.length - 0)).bind _ = _
   rw [e, Option.bind_some, h.sound hs]
   rfl) (q.sound hs)
 | _, _, _, .fn (d := d) (ps := ps) (cs := cs) h1 h2 q => view_cons (by
   show ((ps.mapM (viewV H d)).bind fun us => (cs.mapM (viewV H d)).bind fun ws => some (AV.fn _ us ws)) = _
   rw [h1.sound hs, Option.bind_some, h2.sound hs]
   rfl) (q.sound hs)
theorem g_callE {ty : Nat} {f : FuncId} {caps args vs : List AV} {t : AV} (hs : Sep H L) (hh : plainF f = false) (hv : VwL L 8 (args ++ caps) vs) (ht : tree E0 n ty f vs = some t) (h : Gd G (KH (instT ti0 E0.tp H.length ty t).1 (H ++ (instT ti0 E0.tp H.length ty t).2))) : Gd G ((PR n β).call ty (.fn f [] caps) args H fun x H => KH x H) := g_congr (PR_callC hh (hv.sound hs) ht) h
theorem g_callS {ty : Nat} {f : FuncId} {args vs : List AV} {v : Value} (hs : Sep H L) (hh : plainF f = false) (hv : VwL L 8 args vs) (ht : tree E0 n ty f vs = some (.sc v)) (h : Gd G (KH (.sc v) H)) : Gd G ((PR n β).call ty (.fn f [] []) args H fun x H => KH x H) := by
 refine g_callE hs hh (by rw [List.append_nil]; exact hv) ht ?_
 rw [instT_sc, List.append_nil]
 exact h
theorem inst_own {ty m : Nat} {cells : List AV} (hs : Sep H L) (hok : okW ti0 E0.tp 6 ty (.ro m cells)) : isLeaf (instT ti0 E0.tp H.length ty (.ro m cells)).1 = true ∧ Sep (H ++ (instT ti0 E0.tp H.length ty (.ro m cells)).2) (.own (instT ti0 E0.tp H.length ty (.ro m cells)).1 ty (.ro m cells) :: L) := by
 have hl : isLeaf (instT ti0 E0.tp H.length ty (.ro m cells)).1 = true := rfl
 refine ⟨hl, hs.new (J := List.range' H.length (instT ti0 E0.tp H.length ty (.ro m cells)).2.length) ⟨hl, hok, own_inst 6 ty _ H.length hok (Lies_end _ _)⟩ List.nodup_range' fun i hi => ?_⟩
 rw [List.mem_range'_1] at hi
 exact hi.1
theorem g_callO {ty m : Nat} {f : FuncId} {args vs cells : List AV} (hs : Sep H L) (hh : plainF f = false) (hv : VwL L 8 args vs) (ht : tree E0 n ty f vs = some (.ro m cells)) (hok : okW ti0 E0.tp 6 ty (.ro m cells)) (h : ∀ x H', isLeaf x = true → Sep H' (.own x ty (.ro m cells) :: L) → Gd G (KH x H')) : Gd G ((PR n β).call ty (.fn f [] []) args H fun x H => KH x H) := by
 refine g_callE hs hh (by rw [List.append_nil]; exact hv) ht ?_
 obtain ⟨h1, h2⟩ := inst_own hs hok
 exact h _ _ h1 h2
def InsL (ts : List Nat) (cs : List AV) (Φ : List AV → List Ck → Prop) : Prop := ∀ (H : Heap) (L : List Ck), Sep H L → ∃ xs Lx, xs = (instL ti0 E0.tp H.length ts cs).1 ∧ Sep (H ++ (instL ti0 E0.tp H.length ts cs).2) (Lx ++ L) ∧ Φ xs Lx
theorem ins_nil {ts : List Nat} : InsL ts [] fun xs Lx => xs = [] ∧ Lx = [] := fun H L hs => ⟨[], [], rfl, by simpa [instL] using hs, rfl, rfl⟩
theorem ins_sc {ts : List Nat} {v : Value} {cs : List AV} {Φ : List AV → List Ck → Prop} (h : InsL ts.tail cs Φ) : InsL ts (.sc v :: cs) fun xs Lx => ∃ ys, xs = .sc v :: ys ∧ Φ ys Lx := fun H L hs => by
 obtain ⟨ys, Ly, e1, e2, e3⟩ := h H L hs
 refine ⟨.sc v :: ys, Ly, ?_, ?_, ys, rfl, e3⟩
 ·simp only [instL, instT_sc, List.length_nil, Nat.add_zero]
  rw [e1]
 ·simpa only [instL, instT_sc, List.length_nil, Nat.add_zero, List.nil_append] using e2
theorem ins_ro {ts : List Nat} {m ty : Nat} {cells cs : List AV} {Φ : List AV → List Ck → Prop} (hty : ts.headD 0 = ty) (hok : okW ti0 E0.tp 6 ty (.ro m cells)) (h : InsL ts.tail cs Φ) : InsL ts (.ro m cells :: cs) fun xs Lx => ∃ x ys Ly, isLeaf x = true ∧ xs = x :: ys ∧ Lx = Ly ++ [.own x ty (.ro m cells)] ∧ Φ ys Ly := fun H L hs => by
 subst hty
 obtain ⟨h1, h2⟩ := inst_own hs hok
 obtain ⟨ys, Ly, e1, e2, e3⟩ := h _ _ h2
 refine ⟨_ :: ys, Ly ++ [.own _ (ts.headD 0) (.ro m cells)], ?_, ?_, _, ys, Ly, h1, rfl, rfl, e3⟩
 ·simp only [instL]
  rw [e1, List.length_append]
 ·simp only [instL]
  rw [List.length_append, List.append_assoc] at e2
  rw [List.append_assoc]
  exact e2
theorem ins_agg {ts cty : List Nat} {cs rest : List AV} {Φ Ψ : List AV → List Ck → Prop} (hty : ∃ i, ti0 (ts.headD 0) = some i ∧ i.cty = cty) (h1 : InsL cty cs Ψ) (h : InsL ts.tail rest Φ) : InsL ts (.agg cs :: rest) fun xs Lx => ∃ ys zs Ly Lz, xs = .agg ys :: zs ∧ Lx = Lz ++ Ly ∧ Ψ ys Ly ∧ Φ zs Lz := fun H L hs => by
 obtain ⟨i, hi, rfl⟩ := hty
 obtain ⟨ys, Ly, a1, a2, a3⟩ := h1 H L hs
 obtain ⟨zs, Lz, b1, b2, b3⟩ := h _ _ a2
 refine ⟨.agg ys :: zs, Lz ++ Ly, ?_, ?_, ys, zs, Ly, Lz, rfl, rfl, a3, b3⟩
 ·simp only [instL, instT_agg, hi, Option.getD_some]
  rw [a1, b1, List.length_append]
 ·simp only [instL, instT_agg, hi, Option.getD_some]
  rw [List.length_append, List.append_assoc] at b2
  rw [List.append_assoc]
  exact b2
theorem g_callA {ty : Nat} {f : FuncId} {args vs cs : List AV} {cty : List Nat} {Φ : List AV → List Ck → Prop} (hs : Sep H L) (hh : plainF f = false) (hv : VwL L 8 args vs) (ht : tree E0 n ty f vs = some (.agg cs)) (hty : ∃ i, ti0 ty = some i ∧ i.cty = cty) (hi : InsL cty cs Φ) (h : ∀ xs Lx H', Φ xs Lx → Sep H' (Lx ++ L) → Gd G (KH (.agg xs) H')) : Gd G ((PR n β).call ty (.fn f [] []) args H fun x H => KH x H) := by
 refine g_callE hs hh (by rw [List.append_nil]; exact hv) ht ?_
 obtain ⟨i, e1, rfl⟩ := hty
 obtain ⟨xs, Lx, a1, a2, a3⟩ := hi H L hs
 rw [instT_agg, e1, Option.getD_some, ← a1]
 exact h _ _ _ a3 a2
theorem g_callT {ty : Nat} {f : FuncId} {args vs cs : List AV} {tys : List Nat} {Φ : List AV → List Ck → Prop} (hs : Sep H L) (hh : plainF f = false) (hv : VwL L 8 args vs) (ht : tree E0 n ty f vs = some (.tup cs)) (hty : E0.tp ty = some tys) (hi : InsL tys cs Φ) (h : ∀ xs Lx H', Φ xs Lx → Sep H' (Lx ++ L) → Gd G (KH (.tup xs) H')) : Gd G ((PR n β).call ty (.fn f [] []) args H fun x H => KH x H) := by
 refine g_callE hs hh (by rw [List.append_nil]; exact hv) ht ?_
 obtain ⟨xs, Lx, a1, a2, a3⟩ := hi H L hs
 rw [instT_tup, hty, Option.getD_some, ← a1]
 exact h _ _ _ a3 a2
theorem g_hm {ty : Nat} {f : FuncId} {caps args : List AV} (hh : E0.hm f = true) (he : E0.ext f = none) (h : Gd G (evalFn E0 n β f (args ++ caps) H fun x H => KH x H)) : Gd G ((PR n β).call ty (.fn f [] caps) args H fun x H => KH x H) := by
 refine g_congr ?_ h
 show callF E0 (evalFn E0 n) ty f ([] ++ args ++ caps) H _ = _
 simp only [callF, he, hh, List.nil_append, if_true]
def Src (H : Heap) (L : List Ck) (sz : Nat) (cty : List Nat) (y : AV) (m : Nat) (cb : List AV) (L' : List Ck) : Prop :=
 ∀ I, SepI H L I → ∃ raw J R X, lenA y = some m ∧ content H sz y = some raw ∧ raw.all isLeaf = true ∧ raw.length = m * sz ∧ ownL (ownT ti0 E0.tp H 5) (List.replicate m cty).flatten raw = some (cb, J) ∧ SepI H L' R ∧ I.Perm (J ++ (R ++ X))
def isSc : AV → Bool
 | .sc v => leafV v
 | _ => false
theorem isSc_leaf {l : List AV} (h : l.all isSc = true) : l.all isLeaf = true := by
 rw [List.all_eq_true] at h ⊢
 intro x hx
 have := h x hx
 cases x <;> simp_all [isSc, isLeaf]
theorem ownL_isSc {d : Nat} : ∀ {ts : List Nat} {l : List AV}, ts.length = l.length → l.all isSc = true → ownL (ownT ti0 E0.tp H (d + 1)) ts l = some (l, [])
 | [], [], _, _ => rfl
 | t :: ts, x :: l, h, hl => by
  rw [List.all_cons, Bool.and_eq_true] at hl
  cases x with
  | sc v =>
   rw [ownL, ownT_sc, Option.bind_some, ownL_isSc (ts := ts) (l := l) (by simpa using h) hl.2]
   rfl
  | _ => simp [isSc] at hl
 | [], _ :: _, h, _ => by simp at h
 | _ :: _, [], h, _ => by simp at h
theorem src_ro {sz m : Nat} {cty : List Nat} {cells : List AV} (hc : cty.length = sz) (hl : cells.length = m * sz) (hf : cells.all isSc = true) : Src H L sz cty (.ro m cells) m cells L := fun I h => by
 refine ⟨cells, [], I, [], rfl, ?_, isSc_leaf hf, hl, ownL_isSc (by simp [hc, hl]) hf, h, by simp⟩
 show (if cells.length = m * sz then some cells else none) = _
 rw [if_pos hl]
theorem src_nl {sz : Nat} {cty : List Nat} : Src H L sz cty .nl 0 [] L := fun I h => ⟨[], [], I, [], rfl, rfl, rfl, by simp, by simp [ownL], h, by simp⟩
theorem src_blk {sz m i : Nat} {cty : List Nat} {raw cb : List AV} {a : Bool} (hp : Pk L (.blk i raw a) L1) (hl : raw.length = m * sz) (hf : raw.all isLeaf = true) (hr : OwnR L1 raw (List.replicate m cty).flatten cb L2) (hok : okLW (okW ti0 E0.tp 5) (List.replicate m cty).flatten cb) : Src H L sz cty (.sl i 0 m sz) m cb L2 := fun I h => by
 obtain ⟨J, R, ⟨rfl, h1⟩, h2, h3⟩ := hp.sepI h
 obtain ⟨J', R', g1, g2, g3⟩ := hr.sound h2 5 hok
 refine ⟨raw, J', R', [i], rfl, ?_, hf, hl, g1, g2, ?_⟩
 ·show (if sz = sz then rdCells H i 0 (m * sz) else none) = _
  simp only [if_true, rdCells, h1, Nat.zero_add, List.drop_zero, ← hl, Nat.le_refl, List.take_length]
 ·refine h3.trans (List.perm_append_comm.trans ?_)
  rw [← List.append_assoc]
  exact List.Perm.append_right [i] g3
theorem own_raw {d ty m : Nat} {x : AV} {cells : List AV} {I : List Nat} {i j : TI} (h1 : ti0 ty = some i) (h2 : ti0 i.elem = some j) (h : ownT ti0 E0.tp H (d + 1) ty x = some (.ro m cells, I)) :
  (x = .nl ∧ m = 0 ∧ cells = [] ∧ I = []) ∨ ∃ id off raw J b, x = .sl id off m j.size ∧ I = id :: J ∧ H[id]? = some b ∧ b.live = true ∧ b.app = true ∧ rdCells H id off (m * j.size) = some raw ∧ ownL (ownT ti0 E0.tp H d) (List.replicate m j.cty).flatten raw = some (cells, J) := by
 cases x with
 | sc v => simp [ownT] at h
 | nl =>
  have := (Option.some.inj h)
  simp only [Prod.mk.injEq, AV.ro.injEq] at this
  obtain ⟨⟨rfl, rfl⟩, rfl⟩ := this
  exact .inl ⟨rfl, rfl, rfl, rfl⟩
 | sl id off n z =>
  rw [ownT_sl] at h
  simp only [h1, h2, Option.bind_some] at h
  split at h
  case isFalse => cases h
  rename_i hz
  split at h
  case isFalse => cases h
  rename_i ha
  simp only [Option.bind_eq_some_iff] at h
  obtain ⟨cs, h4, q, h5, h6⟩ := h
  simp only [Option.some.injEq, Prod.mk.injEq, AV.ro.injEq] at h6
  obtain ⟨⟨rfl, rfl⟩, rfl⟩ := h6
  subst hz
  obtain ⟨hl, b, hb, hlv, _, _⟩ := rd_live h4
  have ha' : b.app = true := by simpa only [isApp, hb] using ha
  exact .inr ⟨id, off, cs, q.2, b, rfl, rfl, hb, hlv, ha', h4, h5⟩
 | agg cs =>
  rw [ownT_agg] at h
  simp only [Option.bind_eq_some_iff] at h
  obtain ⟨i, h1, q, h2, h3⟩ := h
  simp at h3
 | tup cs =>
  rw [ownT_tup] at h
  simp only [Option.bind_eq_some_iff] at h
  obtain ⟨i, h1, q, h2, h3⟩ := h
  simp at h3
 | _ => simp [ownT] at h
theorem ownL_leaf {f : Nat → AV → Option (AV × List Nat)} : ∀ {ts : List Nat} {xs : List AV} {p : List AV × List Nat}, (∀ t x a I, f t x = some (a, I) → isFl a = true → isLeaf x = true) → ownL f ts xs = some p → p.1.all isFl = true → xs.all isLeaf = true
 | ts, [], p, _, h, _ => rfl
 | [], _ :: _, p, _, h, _ => by simp [ownL] at h
 | t :: ts, x :: xs, p, hf, h, hl => by
  obtain ⟨a, b, h1, h2, rfl⟩ := ownL_cons h
  rw [List.all_cons, Bool.and_eq_true] at hl
  rw [List.all_cons, Bool.and_eq_true]
  exact ⟨hf t x a.1 a.2 h1 hl.1, ownL_leaf hf h2 hl.2⟩
theorem own_leaf {d ty : Nat} {x a : AV} {I : List Nat} (h : ownT ti0 E0.tp H d ty x = some (a, I)) (hl : isFl a = true) : isLeaf x = true := by
 cases d with
 | zero => simp [ownT] at h
 | succ d =>
  cases x with
  | sc v =>
   obtain ⟨rfl, _⟩ : AV.sc v = a ∧ [] = I := by simpa [ownT] using h
   exact hl
  | nl => rfl
  | sl id off n z => rfl
  | agg cs =>
   rw [ownT_agg] at h
   simp only [Option.bind_eq_some_iff] at h
   obtain ⟨i, h1, q, h2, h3⟩ := h
   obtain ⟨rfl, _⟩ : AV.agg q.1 = a ∧ q.2 = I := by simpa using h3
   cases hl
  | tup cs =>
   rw [ownT_tup] at h
   simp only [Option.bind_eq_some_iff] at h
   obtain ⟨i, h1, q, h2, h3⟩ := h
   obtain ⟨rfl, _⟩ : AV.tup q.1 = a ∧ q.2 = I := by simpa using h3
   cases hl
  | _ => simp [ownT] at h
theorem src_own {sz m ty : Nat} {cty : List Nat} {y : AV} {cb : List AV} (hty : ∃ i j, ti0 ty = some i ∧ ti0 i.elem = some j ∧ j.size = sz ∧ j.cty = cty) (hp : Pk L (.own y ty (.ro m cb)) L2) (hf : cb.all isFl = true) : Src H L sz cty y m cb L2 := fun I h => by
 obtain ⟨i, j, e1, e2, rfl, rfl⟩ := hty
 obtain ⟨J, R, ⟨_, _, h1⟩, h2, h3⟩ := hp.sepI h
 rcases own_raw e1 e2 h1 with ⟨rfl, rfl, rfl, rfl⟩ | ⟨id, off, raw, J', b, rfl, rfl, hb, hlv, ha, h4, h5⟩
 ·exact ⟨[], [], R, [], rfl, rfl, rfl, by simp, by simp [ownL], h2, by simpa using h3⟩
 ·have hl := (rd_live h4).1
  refine ⟨raw, J', R, [id], rfl, ?_, ownL_leaf (fun t x a I h hl => own_leaf h hl) h5 hf, hl, h5, h2, ?_⟩
  ·show (if j.size = j.size then rdCells H id off (m * j.size) else none) = _
   rw [if_pos rfl, h4]
  ·refine h3.trans ?_
   rw [← List.append_assoc]
   exact (List.perm_append_comm (l₁ := [id]) (l₂ := J' ++ R))
theorem src_keep {sz m ty : Nat} {cty : List Nat} {y : AV} {cb : List AV} (hty : ∃ i j, ti0 ty = some i ∧ ti0 i.elem = some j ∧ j.size = sz ∧ j.cty = cty) (hp : Pk L (.own y ty (.ro m cb)) L2) (hf : cb.all isSc = true) : Src H L sz cty y m cb L := fun I h => by
 obtain ⟨i, j, e1, e2, rfl, rfl⟩ := hty
 obtain ⟨J, R, ⟨_, _, h1⟩, h2, h3⟩ := hp.sepI h
 rcases own_raw e1 e2 h1 with ⟨rfl, rfl, rfl, rfl⟩ | ⟨id, off, raw, J', b, rfl, rfl, hb, hlv, ha, h4, h5⟩
 ·exact ⟨[], [], I, [], rfl, rfl, rfl, by simp, by simp [ownL], h, by simp⟩
 ·have hl := (rd_live h4).1
  have key : ∀ {ts : List Nat} {xs cells : List AV} {I : List Nat}, ownL (ownT ti0 E0.tp H 5) ts xs = some (cells, I) → cells.all isSc = true → xs = cells ∧ I = [] := by
   intro ts xs
   induction xs generalizing ts with
   | nil =>
    intro cells I h _
    obtain ⟨_, e⟩ := ownL_nil h
    cases e
    exact ⟨rfl, rfl⟩
   | cons x xs ih =>
    intro cells I h hs
    cases ts with
    | nil => simp [ownL] at h
    | cons t ts =>
     obtain ⟨a, b, h1, h2, e⟩ := ownL_cons h
     cases e
     rw [List.all_cons, Bool.and_eq_true] at hs
     obtain ⟨rfl, e2⟩ := ih h2 hs.2
     have hx : x = a.1 ∧ a.2 = [] := by
      obtain ⟨a1, a2⟩ := a
      cases a1 with
      | sc v =>
       have := own_sc h1
       subst this
       have : (AV.sc v, ([] : List Nat)) = (.sc v, a2) := Option.some.inj h1
       cases this
       exact ⟨rfl, rfl⟩
      | _ => simp [isSc] at hs
     refine ⟨by rw [hx.1], by rw [hx.2, e2]; rfl⟩
  obtain ⟨rfl, rfl⟩ := key h5 hf
  refine ⟨raw, [], I, [], rfl, ?_, isSc_leaf hf, hl, h5, h, by simp⟩
  show (if j.size = j.size then rdCells H id off (m * j.size) else none) = _
  rw [if_pos rfl, h4]
theorem g_appX {sz bytes k m ty : Nat} {cty : List Nat} {x y : AV} {ca cb : List AV} (hs : Sep H L) (hty : ∃ i j, ti0 ty = some i ∧ ti0 i.elem = some j ∧ j.size = sz ∧ j.cty = cty) (hx : Pk L (.own x ty (.ro k ca)) L1) (hy : Src H L1 sz cty y m cb L2) (hok : okLW (okW ti0 E0.tp 5) (List.replicate m cty).flatten cb) (hb : (k + m) * bytes ≤ 140737488355328)
  (h : ∀ x' H', isLeaf x' = true → Sep H' (.own x' ty (.ro (k + m) (ca ++ cb)) :: L2) → (∃ id cx cy, x' = .sl id 0 (k + m) sz ∧ H'[id]? = some ⟨cx ++ cy, true, true⟩ ∧ content H sz y = some cy ∧ cx.length = k * sz) → Gd G (KH x' H')) : Gd G (pApp sz bytes x y H fun x H => KH x H) := by
 obtain ⟨i, j, e1, e2, rfl, rfl⟩ := hty
 obtain ⟨I, hI, hn⟩ := hs
 obtain ⟨J, R, ⟨hlx, hox, h1⟩, h2, h3⟩ := hx.sepI hI
 obtain ⟨raw, Jy, Ry, X, q1, q2, q3, q4, q5, q6, q7⟩ := hy R h2
 have hn' : (J ++ (Jy ++ (Ry ++ X))).Nodup := (h3.trans (List.Perm.append_left J q7)).nodup_iff.1 hn
 have hRlt : ∀ i ∈ Jy ++ Ry, i < H.length := fun z hz => by
  refine h2.lt z ?_
  refine q7.symm.mem_iff.1 ?_
  rw [← List.append_assoc]
  exact List.mem_append_left _ hz
 have hok' : okW ti0 E0.tp 6 ty (.ro (k + m) (ca ++ cb)) := by
  obtain ⟨i', j', g1, g2, g3, g4⟩ := hox
  rw [e1] at g1
  cases g1
  rw [e2] at g2
  cases g2
  refine ⟨i, j, e1, e2, ?_, ?_⟩
  ·have := okLW_len hok
   have hq := ownL_len q5
   rw [List.length_append, g3, hq.2, q4, Nat.add_mul]
  ·rw [← List.replicate_append_replicate, List.flatten_append]
   exact okLW_append g4 hok
 have fin : ∀ (H1 : Heap) (cx : List AV) (Jx : List Nat), H1.length = H.length → cx.all isLeaf = true ∨ True → ownL (ownT ti0 E0.tp H1 5) (List.replicate k j.cty).flatten cx = some (ca, Jx) → ownL (ownT ti0 E0.tp H1 5) (List.replicate m j.cty).flatten raw = some (cb, Jy) → SepI H1 L2 Ry → (Jx ++ (Jy ++ (Ry ++ X))).Nodup → (∀ i ∈ Jx, i < H1.length) → cx.length = k * j.size →
   Sep (H1 ++ [⟨cx ++ raw, true, true⟩]) (.own (.sl H1.length 0 (k + m) j.size) ty (.ro (k + m) (ca ++ cb)) :: L2) := by
  intro H1 cx Jx hl1 _ a1 a2 a3 a4 a5 a6
  have hg : (H1 ++ [(⟨cx ++ raw, true, true⟩ : Blk)])[H1.length]? = some ⟨cx ++ raw, true, true⟩ := by
   rw [List.getElem?_append_right (Nat.le_refl _), Nat.sub_self]
   rfl
  have fr : ∀ z, z < H1.length → (H1 ++ [(⟨cx ++ raw, true, true⟩ : Blk)])[z]? = H1[z]? := fun z hz => List.getElem?_append_left hz
  have b1 := ownL_frame (f' := ownT ti0 E0.tp (H1 ++ [⟨cx ++ raw, true, true⟩]) 5) (fun t x a h hi => own_frame 5 t x a h fun z hz => fr z (a5 z (hi z hz))) a1
  have b2 := ownL_frame (f' := ownT ti0 E0.tp (H1 ++ [⟨cx ++ raw, true, true⟩]) 5) (fun t x a h hi => own_frame 5 t x a h fun z hz => fr z (by rw [hl1]; exact hRlt z (List.mem_append_left _ (hi z hz)))) a2
  have b3 := a3.grow [⟨cx ++ raw, true, true⟩]
  have b4 := ownL_append b1 b2
  rw [← List.flatten_append, List.replicate_append_replicate] at b4
  refine ⟨(H1.length :: (Jx ++ Jy)) ++ Ry, ⟨H1.length :: (Jx ++ Jy), Ry, rfl, ⟨rfl, hok', ?_⟩, b3⟩, ?_⟩
  ·rw [ownT_sl]
   have ha : isApp (H1 ++ [⟨cx ++ raw, true, true⟩]) H1.length = true := by simp only [isApp, hg]
   have hrd : rdCells (H1 ++ [⟨cx ++ raw, true, true⟩]) H1.length 0 ((k + m) * j.size) = some (cx ++ raw) := by
    have : (cx ++ raw).length = (k + m) * j.size := by rw [List.length_append, a6, q4, Nat.add_mul]
    simp only [rdCells, hg, if_true, Nat.zero_add, List.drop_zero, ← this, Nat.le_refl, List.take_length]
   simp only [e1, e2, Option.bind_some, if_true, ha, hrd, b4]
  ·rw [List.cons_append, List.nodup_cons]
   have hn3 : (Jx ++ Jy ++ Ry).Nodup := by
    rw [List.append_assoc]
    have : (Jx ++ (Jy ++ Ry) ++ X).Nodup := by simpa only [List.append_assoc] using a4
    exact (List.nodup_append.1 this).1
   refine ⟨fun hm => ?_, hn3⟩
   rcases List.mem_append.1 hm with hm | hm
   ·rcases List.mem_append.1 hm with hm | hm
    ·exact Nat.lt_irrefl _ (a5 _ hm)
    ·have := hRlt _ (List.mem_append_left _ hm)
     omega
   ·have := hRlt _ (List.mem_append_right _ hm)
    omega
 rcases own_raw e1 e2 h1 with ⟨rfl, rfl, rfl, rfl⟩ | ⟨id, off, cx, J', b, rfl, rfl, hb1, hlv, hap, h4, h5⟩
 ·have hc : content H j.size .nl = some [] := rfl
  refine g_congr (b := KH (.sl H.length 0 (0 + m) j.size) (H ++ [⟨[] ++ raw, true, true⟩])) ?_ (h _ _ rfl (fin H [] [] rfl (.inr trivial) (by simp [ownL]) q5 q6 (by simpa using hn') (by simp) (by simp)) ⟨_, [], raw, rfl, by rw [List.getElem?_append_right (Nat.le_refl _), Nat.sub_self]; rfl, q2, by simp⟩)
  have hl0 : lenA .nl = some 0 := rfl
  have hk0 : kill H .nl = some H := rfl
  simp only [pApp, hl0, Option.bind_some, q1, q2, hc, hk0]
  rw [if_pos hb, if_pos q3]
  rfl
 ·have hc : content H j.size (.sl id off k j.size) = some cx := by
   show (if j.size = j.size then rdCells H id off (k * j.size) else none) = _
   rw [if_pos rfl, h4]
  have hk : kill H (.sl id off k j.size) = some (H.set id { b with live := false }) := by
   show (H[id]?).bind (fun b => if b.app then some (H.set id { b with live := false }) else none) = _
   rw [hb1, Option.bind_some, if_pos hap]
  have hn2 : (id :: (J' ++ (Jy ++ (Ry ++ X)))).Nodup := hn'
  have hnid := (List.nodup_cons.1 hn2).1
  have hset : ∀ z, z ≠ id → (H.set id { b with live := false })[z]? = H[z]? := fun z hz => List.getElem?_set_ne (fun e => hz e.symm)
  have c1 := ownL_frame (f' := ownT ti0 E0.tp (H.set id { b with live := false }) 5) (fun t x a h hi => own_frame 5 t x a h fun z hz => hset z (fun e => hnid (e ▸ List.mem_append_left _ (hi z hz)))) h5
  have c2 := ownL_frame (f' := ownT ti0 E0.tp (H.set id { b with live := false }) 5) (fun t x a h hi => own_frame 5 t x a h fun z hz => hset z (fun e => hnid (e ▸ List.mem_append_right _ (List.mem_append_left _ (hi z hz))))) q5
  have c3 := q6.frame (H' := H.set id { b with live := false }) fun z hz => hset z (fun e => hnid (e ▸ List.mem_append_right _ (List.mem_append_right _ (List.mem_append_left _ hz))))
  have hJlt : ∀ z ∈ J', z < H.length := fun z hz => own_lt 6 ty _ _ h1 z (List.mem_cons_of_mem _ hz)
  refine g_congr (b := KH (.sl (H.set id { b with live := false }).length 0 (k + m) j.size) (H.set id { b with live := false } ++ [⟨cx ++ raw, true, true⟩])) ?_ (h _ _ rfl (fin _ cx J' (by simp) (.inr trivial) c1 c2 c3 (List.nodup_cons.1 hn2).2 (fun z hz => by rw [List.length_set]; exact hJlt z hz) (rd_live h4).1) ⟨_, cx, raw, rfl, by rw [List.getElem?_append_right (Nat.le_refl _), Nat.sub_self]; rfl, q2, (rd_live h4).1⟩)
  have hl0 : lenA (.sl id off k j.size) = some k := rfl
  simp only [pApp, hl0, Option.bind_some, q1, q2, hc, hk]
  rw [if_pos hb, if_pos q3]
  rfl
theorem g_app {sz bytes k m ty : Nat} {cty : List Nat} {x y : AV} {ca cb : List AV} (hs : Sep H L) (hty : ∃ i j, ti0 ty = some i ∧ ti0 i.elem = some j ∧ j.size = sz ∧ j.cty = cty) (hx : Pk L (.own x ty (.ro k ca)) L1) (hy : Src H L1 sz cty y m cb L2) (hok : okLW (okW ti0 E0.tp 5) (List.replicate m cty).flatten cb) (hb : (k + m) * bytes ≤ 140737488355328)
  (h : ∀ x' H', isLeaf x' = true → Sep H' (.own x' ty (.ro (k + m) (ca ++ cb)) :: L2) → Gd G (KH x' H')) : Gd G (pApp sz bytes x y H fun x H => KH x H) := g_appX hs hty hx hy hok hb fun x' H' h1 h2 _ => h x' H' h1 h2
theorem tree_gd {G : Option AV → Prop} {o : Option AV} (h : Gd G o) : G o := h
theorem ret_tup {ty : Nat} {tys : List Nat} {raw cells : List AV} (hs : Sep H L) (hts : E0.tp ty = some tys) (hr : OwnR L raw tys cells L') (hok : okLW (okW ti0 E0.tp 7) tys cells) : ownTree ti0 E0.tp ty H (.tup raw) = some (.tup cells) := by
 obtain ⟨I, h1, h2⟩ := hs
 obtain ⟨J, R, g1, g2, g3⟩ := hr.sound h1 7 hok
 have hn := (List.nodup_append.1 (g3.nodup_iff.1 h2)).1
 rw [ownTree, ownT_tup, hts, Option.bind_some, g1, Option.bind_some, Option.bind_some, if_pos hn]
theorem ret_agg {ty : Nat} {cty : List Nat} {raw cells : List AV} (hs : Sep H L) (hty : ∃ i, ti0 ty = some i ∧ i.cty = cty) (hr : OwnR L raw cty cells L') (hok : okLW (okW ti0 E0.tp 7) cty cells) : ownTree ti0 E0.tp ty H (.agg raw) = some (.agg cells) := by
 obtain ⟨i, e1, rfl⟩ := hty
 obtain ⟨I, h1, h2⟩ := hs
 obtain ⟨J, R, g1, g2, g3⟩ := hr.sound h1 7 hok
 have hn := (List.nodup_append.1 (g3.nodup_iff.1 h2)).1
 rw [ownTree, ownT_agg, e1, Option.bind_some, g1, Option.bind_some, Option.bind_some, if_pos hn]
theorem ret_own {ty : Nat} {x t : AV} (hs : Sep H L) (hp : Pk L (.own x ty t) L') : ownTree ti0 E0.tp ty H x = some t := by
 obtain ⟨_, h1, I, h2, h3⟩ := hs.own hp
 rw [ownTree, own_dep 6 8 ty x t I h2 (okW_le h1 (by decide)), Option.bind_some, if_pos h3]
theorem g_ret {G : Option AV → Prop} {ty : Nat} {x t : AV} (e : ownTree ti0 E0.tp ty H x = some t) (h : G (some t)) : Gd G (ownTree ti0 E0.tp ty H x) := by
 rw [e]
 exact h
end
end Go.Proofs.YtejjggnchdldoaaDoor.Abs
set_option linter.unusedVariables false
set_option maxRecDepth 100000
namespace Go.Proofs.YtejjggnchdldoaaDoor.Abs
open Go
variable {β : Type}
theorem okAg {d ty : Nat} {cty : List Nat} {cs : List AV} (hty : ∃ i, ti0 ty = some i ∧ i.cty = cty) (h : okLW (okW ti0 E0.tp d) cty cs) : okW ti0 E0.tp (d + 1) ty (.agg cs) := by
 obtain ⟨i, hi, rfl⟩ := hty
 exact ⟨i, hi, h⟩
theorem okNl {d ty : Nat} (h : ∃ i j, ti0 ty = some i ∧ ti0 i.elem = some j) : okW ti0 E0.tp (d + 1) ty (.ro 0 []) := by
 obtain ⟨i, j, h1, h2⟩ := h
 exact ⟨i, j, h1, h2, by simp, by simp [okLW]⟩
theorem Gd.both {G : Option β → Prop} {a b : Option β} (h1 : Gd G a) (h2 : a = b) : Gd G (pBoth a b) := by
 rw [pBoth_eq rfl h2.symm]
 exact h1
theorem g_neg {G : Option β → Prop} {K : AV → Option β} {a : Int} (h0 : -9223372036854775808 ≤ -a) (h1 : -a ≤ 9223372036854775807) (h : Gd G (K (.sc (.int .i64 (-a))))) : Gd G (pUn .neg (.sc (.int .i64 a)) fun t => K t) := by
 refine g_congr ?_ h
 show K (.sc (.int .i64 (IntKind.i64.wrap (0 - a)))) = _
 rw [wrap64 _ (by omega) (by omega), Int.zero_sub]
theorem okB6 (s : ByteArray) : okW ti0 E0.tp 6 23 (bytesC s) := okW_bytes (d := 4) tyByteS s
theorem okB5 (s : ByteArray) : okW ti0 E0.tp 5 23 (bytesC s) := okW_bytes (d := 3) tyByteS s
theorem okRMsg (l : List MsgV) : okW ti0 E0.tp 6 37 (rowsC encMsg l) := okW_rows (d := 5) lenMsg ⟨_, _, rfl, rfl, rfl, rfl⟩ (okWMsg 3) l
theorem okR5Msg (l : List MsgV) : okW ti0 E0.tp 5 37 (rowsC encMsg l) := okW_rows (d := 4) lenMsg ⟨_, _, rfl, rfl, rfl, rfl⟩ (okWMsg 2) l
theorem InsL.mono {ts : List Nat} {cs : List AV} {Φ Ψ : List AV → List Ck → Prop} (h : InsL ts cs Φ) (m : ∀ xs Lx, Φ xs Lx → Ψ xs Lx) : InsL ts cs Ψ := fun H L hs => by
 obtain ⟨xs, Lx, a, b, c⟩ := h H L hs
 exact ⟨xs, Lx, a, b, m _ _ c⟩
theorem insMsg (p : MsgV) : InsL ctyMsg (encMsg p) fun xs Lx => ∃ x1 : AV, isLeaf x1 = true ∧ xs = [.sc (.string p.fTopic), x1, .sc (.int .i64 p.fQos), .sc (.bool p.fRetain)] ∧ Lx = [.own x1 23 (bytesC p.fBody)] :=
 InsL.mono (ins_sc (ins_ro (ty := 23) rfl (okB6 p.fBody) (ins_sc (ins_sc ins_nil)))) (by
  rintro _ _ ⟨_, rfl, ⟨x1, _, _, l1, rfl, rfl, ⟨_, rfl, ⟨_, rfl, ⟨rfl, rfl⟩⟩⟩⟩⟩
  exact ⟨x1, l1, rfl, rfl⟩)
theorem eltMsg {raw : List AV} {y : MsgV} (hl : raw.length = 4) (hlf : raw.all isLeaf = true) (hs : ∀ (k : Nat) (v : Value), (encMsg y)[k]? = some (AV.sc v) → raw[k]? = some (AV.sc v)) : ∃ r1 : AV, isLeaf r1 = true ∧ raw = [.sc (.string y.fTopic), r1, .sc (.int .i64 y.fQos), .sc (.bool y.fRetain)] := by
 match raw, hl with
 | [r0, r1, r2, r3], _ =>
  obtain rfl : r0 = _ := Option.some.inj (hs 0 _ rfl)
  obtain rfl : r2 = _ := Option.some.inj (hs 2 _ rfl)
  obtain rfl : r3 = _ := Option.some.inj (hs 3 _ rfl)
  simp only [List.all_cons, Bool.and_eq_true] at hlf
  exact ⟨r1, hlf.2.1, rfl⟩
end Go.Proofs.YtejjggnchdldoaaDoor.Abs
set_option linter.unusedVariables false
set_option linter.unusedSimpArgs false
namespace Go.Proofs.YtejjggnchdldoaaDoor.Abs
open Go
inductive Sel : List Ck → List Ck → Prop
 | nil {L : List Ck} : Sel L []
 | cons {L L1 L' : List Ck} {c : Ck} : Pk L c L1 → Sel L1 L' → Sel L (c :: L')
 | rest {L : List Ck} : Sel L L
 | skip {L L' : List Ck} {c : Ck} : Sel L L' → Sel (c :: L) L'
section
variable {β : Type} {n : Nat} {H : Heap} {L L' L1 L2 : List Ck} {G : Option β → Prop} {K : AV → Option β} {KH : AV → Heap → Option β}
theorem Sep.none (h : Sep H L) : Sep H [] := by
 induction L with
 | nil => exact h
 | cons c L ih => exact ih h.tail
theorem SepI.cons_iff {c : Ck} {I : List Nat} : SepI H (c :: L) I ↔ ∃ J R, I = J ++ R ∧ CkOk H c J ∧ SepI H L R := Iff.rfl
theorem Sel.sepI : ∀ {L L' : List Ck} {I : List Nat}, Sel L L' → SepI H L I → ∃ J X, SepI H L' J ∧ I.Perm (J ++ X)
 | _, _, I, .nil, h => ⟨[], I, rfl, List.Perm.refl _⟩
 | _, _, I, .rest, h => ⟨I, [], h, by simp⟩
 | _, _, I, .skip q, h => by
  obtain ⟨J, R, rfl, g1, g2⟩ := h
  obtain ⟨J', X, e1, e2⟩ := q.sepI g2
  refine ⟨J', J ++ X, e1, ?_⟩
  refine (List.Perm.append_left J e2).trans ?_
  rw [← List.append_assoc, ← List.append_assoc]
  exact List.Perm.append_right X List.perm_append_comm
 | _, _, I, .cons p q, h => by
  obtain ⟨J, R, g1, g2, g3⟩ := p.sepI h
  obtain ⟨J', X, e1, e2⟩ := q.sepI g2
  refine ⟨J ++ J', X, ⟨J, J', rfl, g1, e1⟩, ?_⟩
  rw [List.append_assoc]
  exact g3.trans (List.Perm.append_left J e2)
theorem Sep.sel (h : Sep H L) (q : Sel L L') : Sep H L' := by
 obtain ⟨I, h1, h2⟩ := h
 obtain ⟨J, X, g1, g2⟩ := q.sepI h1
 exact ⟨J, g1, (List.nodup_append.1 (g2.nodup_iff.1 h2)).1⟩
theorem g_apart {x off : Nat} {ts : List AV} {cs : List AV} {a : Bool} {m : Option β} (hs : Sep H L) (hp : Pk L (.blk x cs a) L1) (ht : ∀ y ∈ ts, ∃ j o ds b, y = .ptr j o ∧ ∃ L2, Pk L1 (.blk j ds b) L2) (h : Gd G m) : Gd G (pApart (.ptr x off) ts H m) := by
 have e : apartB (.ptr x off) ts H = true := by
  have hb := hs.blk hp
  simp only [apartB, hb, Bool.true_and, List.all_eq_true]
  intro y hy
  obtain ⟨j, o, ds, b, rfl, L2, hq⟩ := ht y hy
  obtain ⟨I, ⟨J, R, rfl, ⟨rfl, h1⟩, h2⟩, h3⟩ := hs.pick hp
  obtain ⟨J', R', ⟨rfl, g1⟩, g2, g3⟩ := hq.sepI h2
  have hne : x ≠ j := by
   rintro rfl
   have hn := (List.nodup_cons.1 h3).1
   exact hn (g3.symm.mem_iff.1 (by simp))
  simp [g1, hne]
 unfold pApart
 rw [if_pos e]
 exact h
theorem Gd.bothE {r a b : Option β} (h1 : Gd (· = r) a) (h2 : Gd (· = r) b) : Gd (· = r) (pBoth a b) := pBoth_eq h1 h2
theorem g_same {x o o' : Nat} {m : Option β} (h : Gd G m) : Gd G (pSame (.ptr x o) (.ptr x o') m) := by
 simp only [pSame, if_true]
 exact h
theorem g_iadr {α : Type} {w : Nat} {enc : α → List AV} {l pre t : List α} {x : α} {i : Int} (hi : i = (pre.length : Nat)) (hw : ∀ x, (enc x).length = w) (h0 : 0 < w) (hl : l = pre ++ x :: t) (h : Gd G (K (.rp (enc x ++ (t.map enc).flatten)))) : Gd G (pIadr w (rowsC enc l) (.sc (.int .i64 i)) fun t => K t) := by
 subst hl
 subst hi
 exact g_congr (el_ro hw h0 pre x t _) h
theorem g_iadrN {α : Type} {w : Nat} {enc : α → List AV} {l : List α} {i : Int} (hw : ∀ x, (enc x).length = w) (h0 : 0 < w) (hi : 0 ≤ i) (hl : i < (l.length : Nat)) (h : ∀ x rest, l[i.toNat]? = some x → Gd G (K (.rp (enc x ++ rest)))) : Gd G (pIadr w (rowsC enc l) (.sc (.int .i64 i)) fun t => K t) := by
 have hlt : i.toNat < l.length := by omega
 refine g_iadr (pre := l.take i.toNat) (x := l[i.toNat]) (t := l.drop (i.toNat + 1)) (by simp; omega) hw h0 ?_ (h _ _ (List.getElem?_eq_getElem hlt))
 rw [← List.drop_eq_getElem_cons hlt, List.take_append_drop]
theorem ints_iadr {l pre t : List Int} {x i : Int} (hi : i = (pre.length : Nat)) (hl : l = pre ++ x :: t) (h : Gd G (K (.rp (encI x ++ (t.map encI).flatten)))) : Gd G (pIadr 1 (intsC l) (.sc (.int .i64 i)) fun t => K t) := by
 rw [ints_rows]
 exact g_iadr hi (fun _ => rfl) (by decide) hl h
theorem strs_iadr {l pre t : List ByteArray} {x : ByteArray} {i : Int} (hi : i = (pre.length : Nat)) (hl : l = pre ++ x :: t) (h : Gd G (K (.rp (encS x ++ (t.map encS).flatten)))) : Gd G (pIadr 1 (strsC l) (.sc (.int .i64 i)) fun t => K t) := by
 rw [strs_rows]
 exact g_iadr hi (fun _ => rfl) (by decide) hl h
def bAt (s : ByteArray) (i : Int) : Int := ((s.data.toList.getD i.toNat 0).toNat : Nat)
theorem bAt_range (s : ByteArray) (i : Int) : 0 ≤ bAt s i ∧ bAt s i < 256 := by
 have := (s.data.toList.getD i.toNat 0).toNat_lt
 unfold bAt
 omega
theorem g_iadrB {s : ByteArray} {i : Int} (h0 : 0 ≤ i) (h1 : i < (s.size : Nat)) (h : ∀ rest, Gd G (K (.rp (.sc (.int .u8 (bAt s i)) :: rest)))) : Gd G (pIadr 1 (bytesC s) (.sc (.int .i64 i)) fun t => K t) := by
 have hlt : i.toNat < s.size := by omega
 have e : (bytesAV s).drop (i.toNat * 1) = .sc (.int .u8 (bAt s i)) :: (bytesAV s).drop (i.toNat + 1) := by
  rw [Nat.mul_one, List.drop_eq_getElem_cons (by rw [bytesAV_len]; omega)]
  congr 1
  simp [bytesAV, bAt, List.getD_eq_getElem?_getD, hlt]
 have e2 : (.sc (.int .i64 i) : AV) = .sc (.int .i64 (i.toNat : Nat)) := by
  rw [Int.toNat_of_nonneg h0]
 rw [e2]
 refine g_congr (iadr_ro 1 s.size (bytesAV s) i.toNat _ hlt (by rw [bytesAV_len]; omega)) ?_
 rw [e]
 exact h _
theorem rows_app {α : Type} {enc : α → List AV} (l q : List α) : rowsC enc (l ++ q) = .ro (l.length + q.length) ((l.map enc).flatten ++ (q.map enc).flatten) := by
 show AV.ro _ _ = _
 rw [List.length_append, List.map_append, List.flatten_append]
theorem g_appR {α : Type} {enc : α → List AV} {sz bytes ty : Nat} {cty : List Nat} {x : AV} {l : List α} {i : Nat} {raw cb : List AV} {a : Bool} {e : α} {L3 : List Ck} (hs : Sep H L) (hty : ∃ i j, ti0 ty = some i ∧ ti0 i.elem = some j ∧ j.size = sz ∧ j.cty = cty) (hx : Pk L (.own x ty (rowsC enc l)) L1) (hp : Pk L1 (.blk i raw a) L2) (hl : raw.length = sz) (hf : raw.all isLeaf = true) (hr : OwnR L2 raw cty cb L3) (hok : okLW (okW ti0 E0.tp 5) cty cb) (he : cb = enc e) (hb : (l.length + 1) * bytes ≤ 140737488355328)
  (h : ∀ x' H', isLeaf x' = true → Sep H' (.own x' ty (rowsC enc (l ++ [e])) :: L3) → Gd G (KH x' H')) : Gd G (pApp sz bytes x (.sl i 0 1 sz) H fun x H => KH x H) := by
 have e1 : (List.replicate 1 cty).flatten = cty := by simp
 refine g_app hs hty hx (src_blk hp (by omega) hf (by rw [e1]; exact hr) (by rw [e1]; exact hok)) (by rw [e1]; exact hok) hb fun x' H' lx hs' => h x' H' lx ?_
 rw [rows_app]
 simpa [he] using hs'
theorem g_appI1 {ty : Nat} {cty : List Nat} {x : AV} {l : List Int} {i : Nat} {z : Int} {a : Bool} (hs : Sep H L) (hx : Pk L (.own x ty (intsC l)) L1) (hp : Pk L1 (.blk i [.sc (.int .i64 z)] a) L2) (hty : ∃ i j, ti0 ty = some i ∧ ti0 i.elem = some j ∧ j.size = 1 ∧ j.cty = cty) (hc : cty.length = 1) (hb : (l.length + 1) * 8 ≤ 140737488355328)
  (h : ∀ x' H', isLeaf x' = true → Sep H' (.own x' ty (intsC (l ++ [z])) :: L2) → Gd G (KH x' H')) : Gd G (pApp 1 8 x (.sl i 0 1 1) H fun x H => KH x H) := by
 obtain ⟨c, rfl⟩ := List.length_eq_one_iff.1 hc
 rw [ints_rows] at hx h
 exact g_appR hs hty hx hp rfl rfl (.sc .nil) ⟨trivial, trivial⟩ rfl hb h
theorem g_appS1 {ty : Nat} {cty : List Nat} {x : AV} {l : List ByteArray} {i : Nat} {z : ByteArray} {a : Bool} (hs : Sep H L) (hx : Pk L (.own x ty (strsC l)) L1) (hp : Pk L1 (.blk i [.sc (.string z)] a) L2) (hty : ∃ i j, ti0 ty = some i ∧ ti0 i.elem = some j ∧ j.size = 1 ∧ j.cty = cty) (hc : cty.length = 1) (hb : (l.length + 1) * 16 ≤ 140737488355328)
  (h : ∀ x' H', isLeaf x' = true → Sep H' (.own x' ty (strsC (l ++ [z])) :: L2) → Gd G (KH x' H')) : Gd G (pApp 1 16 x (.sl i 0 1 1) H fun x H => KH x H) := by
 obtain ⟨c, rfl⟩ := List.length_eq_one_iff.1 hc
 rw [strs_rows] at hx h
 exact g_appR hs hty hx hp rfl rfl (.sc .nil) ⟨trivial, trivial⟩ rfl hb h
theorem ownL_at {f : Nat → AV → Option (AV × List Nat)} : ∀ {ts : List Nat} {xs cells : List AV} {I : List Nat} {k ty : Nat} {y t : AV}, ownL f ts xs = some (cells, I) → xs[k]? = some y → ts[k]? = some ty → cells[k]? = some t → ∃ J, f ty y = some (t, J) ∧ ∀ i ∈ J, i ∈ I
 | ts, [], cells, I, k, ty, y, t, h, hy, _, _ => by simp at hy
 | [], _ :: _, _, _, _, _, _, _, h, _, _, _ => by simp [ownL] at h
 | t0 :: ts, x :: xs, cells, I, k, ty, y, t, h, hy, ht, hc => by
  obtain ⟨a, b, h1, h2, e⟩ := ownL_cons h
  cases e
  cases k with
  | zero =>
   simp only [List.getElem?_cons_zero, Option.some.injEq] at hy ht hc
   subst hy
   subst ht
   subst hc
   exact ⟨a.2, h1, fun i hi => List.mem_append_left _ hi⟩
  | succ k =>
   obtain ⟨J, g1, g2⟩ := ownL_at (cells := b.1) (I := b.2) h2 (by simpa using hy) (by simpa using ht) (by simpa using hc)
   exact ⟨J, g1, fun i hi => List.mem_append_right _ (g2 i hi)⟩
theorem g_appRK {α : Type} {enc : α → List AV} {sz bytes ty : Nat} {cty : List Nat} {x : AV} {l : List α} {i k ty' : Nat} {y t' : AV} {raw cb : List AV} {a : Bool} {e : α} {L3 : List Ck} (hs : Sep H L) (hty : ∃ i j, ti0 ty = some i ∧ ti0 i.elem = some j ∧ j.size = sz ∧ j.cty = cty) (hx : Pk L (.own x ty (rowsC enc l)) L1) (hp : Pk L1 (.blk i raw a) L2) (hl : raw.length = sz) (hf : raw.all isLeaf = true) (hr : OwnR L2 raw cty cb L3) (hok : okLW (okW ti0 E0.tp 5) cty cb) (he : cb = enc e) (hb : (l.length + 1) * bytes ≤ 140737488355328)
  (hw : ∀ x, (enc x).length = sz) (hc : cty.length = sz) (hk : raw[k]? = some y) (hk2 : cty[k]? = some ty') (hk3 : cb[k]? = some t') (hok5 : okW ti0 E0.tp 6 ty' t')
  (h : ∀ x' H', isLeaf x' = true → Sep H' (.shr x' ty (rowsC enc (l ++ [e])) y ty' t' :: L3) → Gd G (KH x' H')) : Gd G (pApp sz bytes x (.sl i 0 1 sz) H fun x H => KH x H) := by
 have e1 : (List.replicate 1 cty).flatten = cty := by simp
 have hblk := (hs.pick hx).tail.blk hp
 obtain ⟨ti, tj, t1, t2, t3, t4⟩ := hty
 refine g_appX hs ⟨ti, tj, t1, t2, t3, t4⟩ hx (src_blk hp (by omega) hf (by rw [e1]; exact hr) (by rw [e1]; exact hok)) (by rw [e1]; exact hok) hb fun x' H' lx hs' ⟨id, cx, cy, q1, q2, q3, q4⟩ => h x' H' lx ?_
 have hcy : cy = raw := by
  have : content H sz (.sl i 0 1 sz) = some raw := by
   show (if sz = sz then rdCells H i 0 (1 * sz) else none) = _
   simp only [if_true, rdCells, hblk, Nat.one_mul, Nat.zero_add, List.drop_zero, ← hl, Nat.le_refl, List.take_length]
  rw [this] at q3
  exact (Option.some.inj q3).symm
 subst hcy
 obtain ⟨I, ⟨J, R, rfl, ⟨h0, h1, h2⟩, h3⟩, h4⟩ := hs'
 have hrow : AV.ro (l.length + 1) ((l.map enc).flatten ++ cb) = rowsC enc (l ++ [e]) := by
  rw [rows_app]
  simp [he]
 rw [hrow] at h1 h2
 refine ⟨J ++ R, ⟨J, R, rfl, ⟨⟨h0, h1, h2⟩, hok5, ?_⟩, h3⟩, h4⟩
 rw [← hrow] at h2
 rcases own_raw t1 t2 h2 with ⟨rfl, _⟩ | ⟨id', off, raw', J', b, p1, p2, p3, p4, p5, p6, p7⟩
 ·cases q1
 ·rw [q1] at p1
  cases p1
  rw [q2] at p3
  cases p3
  have hraw : raw' = cx ++ cy := by
   have hlen : (cx ++ cy).length = (l.length + 1) * tj.size := by rw [List.length_append, q4, hl, t3, Nat.add_mul, Nat.one_mul]
   simp only [rdCells, q2, if_true, Nat.zero_add, List.drop_zero] at p6
   rw [if_pos (by rw [hlen]; exact Nat.le_refl _), ← hlen, List.take_length] at p6
   exact (Option.some.inj p6).symm
  subst hraw
  have hlk : k < cy.length := (List.getElem?_eq_some_iff.1 hk).1
  obtain ⟨J2, g1, g2⟩ := ownL_at (k := l.length * tj.size + k) (ty := ty') (y := y) (t := t') p7 (by
   rw [List.getElem?_append_right (by omega), q4, Nat.add_sub_cancel_left]
   exact hk) (by
   rw [List.replicate_succ', List.flatten_append, List.getElem?_append_right (by simp [t4, hc])]
   simp [t4, hc, hk2]) (by
   have hlr := rows_len hw l
   rw [List.getElem?_append_right (by omega), hlr, Nat.add_sub_cancel_left]
   exact hk3)
  exact ⟨J2, own_dep 5 6 ty' y t' J2 g1 hok5, fun z hz => by rw [p2]; exact List.mem_cons_of_mem _ (g2 z hz)⟩
theorem g_appS {α : Type} {enc : α → List AV} {sz bytes ty : Nat} {cty : List Nat} {x y : AV} {l q : List α} (hs : Sep H L) (hty : ∃ i j, ti0 ty = some i ∧ ti0 i.elem = some j ∧ j.size = sz ∧ j.cty = cty) (hx : Pk L (.own x ty (rowsC enc l)) L1) (hy : Src H L1 sz cty y q.length (q.map enc).flatten L2) (hok : okLW (okW ti0 E0.tp 5) (List.replicate q.length cty).flatten (q.map enc).flatten) (hb : (l.length + q.length) * bytes ≤ 140737488355328)
  (h : ∀ x' H', isLeaf x' = true → Sep H' (.own x' ty (rowsC enc (l ++ q)) :: L2) → Gd G (KH x' H')) : Gd G (pApp sz bytes x y H fun x H => KH x H) := by
 refine g_app hs hty hx hy hok hb fun x' H' lx hs' => h x' H' lx ?_
 rw [rows_app]
 exact hs'
theorem g_appN {sz bytes m ty : Nat} {cty : List Nat} {y : AV} {cb : List AV} (hs : Sep H L) (hty : ∃ i j, ti0 ty = some i ∧ ti0 i.elem = some j ∧ j.size = sz ∧ j.cty = cty) (hy : Src H L sz cty y m cb L2) (hok : okLW (okW ti0 E0.tp 5) (List.replicate m cty).flatten cb) (hb : m * bytes ≤ 140737488355328)
  (h : ∀ x' H', isLeaf x' = true → Sep H' (.own x' ty (.ro m cb) :: L2) → Gd G (KH x' H')) : Gd G (pApp sz bytes .nl y H fun x H => KH x H) := by
 obtain ⟨i, j, e1, e2, e3, e4⟩ := hty
 refine g_app (hs.nl (ty := ty) ⟨i, j, e1, e2⟩) ⟨i, j, e1, e2, e3, e4⟩ .here hy hok (by rw [Nat.zero_add]; exact hb) fun x' H' lx hs' => h x' H' lx ?_
 rw [Nat.zero_add, List.nil_append] at hs'
 exact hs'
theorem okLW_scs {d : Nat} : ∀ {ts : List Nat} {l : List AV}, ts.length = l.length → l.all isSc = true → okLW (okW ti0 E0.tp (d + 1)) ts l
 | [], [], _, _ => trivial
 | t :: ts, x :: l, h, hl => by
  rw [List.all_cons, Bool.and_eq_true] at hl
  refine ⟨?_, okLW_scs (by simpa using h) hl.2⟩
  cases x with
  | sc v => trivial
  | _ => simp [isSc] at hl
 | [], _ :: _, h, _ => by simp at h
 | _ :: _, [], h, _ => by simp at h
theorem sc_bytes (s : ByteArray) : (bytesAV s).all isSc = true := by
 simp only [bytesAV, List.all_map, List.all_eq_true]
 intro b _
 rfl
theorem sc_ints (l : List Int) : (l.map fun z => AV.sc (.int .i64 z)).all isSc = true := by
 simp only [List.all_map, List.all_eq_true]
 intro b _
 rfl
theorem sc_strs (l : List ByteArray) : (l.map fun z => AV.sc (.string z)).all isSc = true := by
 simp only [List.all_map, List.all_eq_true]
 intro b _
 rfl
theorem sc_rows {α : Type} {enc : α → List AV} (hf : ∀ x, (enc x).all isSc = true) (l : List α) : ((l.map enc).flatten).all isSc = true := by
 rw [List.all_flatten, List.all_map, List.all_eq_true]
 intro x _
 exact hf x
theorem len_rep {cty : List Nat} {w m : Nat} (h : cty.length = w) : ((List.replicate m cty).flatten).length = m * w := by simp [h]
theorem g_copyB {s : ByteArray} (hs : Sep H L) (hb : s.size ≤ 140737488355328) (h : ∀ x' H', isLeaf x' = true → Sep H' (.own x' 23 (bytesC s) :: L) → Gd G (KH x' H')) : Gd G (pApp 1 1 .nl (bytesC s) H fun x H => KH x H) :=
 g_appN hs ⟨_, _, rfl, rfl, rfl, rfl⟩ (src_ro rfl (by rw [bytesAV_len]; omega) (sc_bytes s)) (okLW_scs (by rw [len_rep (w := 1) rfl, bytesAV_len, Nat.mul_one]) (sc_bytes s)) (by omega) h
theorem g_copyF {α : Type} {enc : α → List AV} {w bytes ty : Nat} {cty : List Nat} {l : List α} (hs : Sep H L) (hty : ∃ i j, ti0 ty = some i ∧ ti0 i.elem = some j ∧ j.size = w ∧ j.cty = cty) (hc : cty.length = w) (hw : ∀ x, (enc x).length = w) (hf : ∀ x, (enc x).all isSc = true) (hb : l.length * bytes ≤ 140737488355328) (h : ∀ x' H', isLeaf x' = true → Sep H' (.own x' ty (rowsC enc l) :: L) → Gd G (KH x' H')) : Gd G (pApp w bytes .nl (rowsC enc l) H fun x H => KH x H) :=
 g_appN hs hty (src_ro hc (rows_len hw l) (sc_rows hf l)) (okLW_scs (by rw [len_rep hc, rows_len hw]) (sc_rows hf l)) hb h
theorem g_copyI {ty : Nat} {cty : List Nat} {l : List Int} (hs : Sep H L) (hty : ∃ i j, ti0 ty = some i ∧ ti0 i.elem = some j ∧ j.size = 1 ∧ j.cty = cty) (hc : cty.length = 1) (hb : l.length * 8 ≤ 140737488355328) (h : ∀ x' H', isLeaf x' = true → Sep H' (.own x' ty (intsC l) :: L) → Gd G (KH x' H')) : Gd G (pApp 1 8 .nl (intsC l) H fun x H => KH x H) := by
 rw [ints_rows] at h ⊢
 exact g_copyF hs hty hc (fun _ => rfl) (fun _ => rfl) hb h
theorem g_copyS {ty : Nat} {cty : List Nat} {l : List ByteArray} (hs : Sep H L) (hty : ∃ i j, ti0 ty = some i ∧ ti0 i.elem = some j ∧ j.size = 1 ∧ j.cty = cty) (hc : cty.length = 1) (hb : l.length * 16 ≤ 140737488355328) (h : ∀ x' H', isLeaf x' = true → Sep H' (.own x' ty (strsC l) :: L) → Gd G (KH x' H')) : Gd G (pApp 1 16 .nl (strsC l) H fun x H => KH x H) := by
 rw [strs_rows] at h ⊢
 exact g_copyF hs hty hc (fun _ => rfl) (fun _ => rfl) hb h
end
end Go.Proofs.YtejjggnchdldoaaDoor.Abs
set_option linter.unusedVariables false
set_option linter.unusedSimpArgs false
namespace Go.Proofs.YtejjggnchdldoaaDoor.Abs
open Go
section
variable {β : Type} {n : Nat} {H : Heap} {L L' L1 L2 : List Ck} {G : Option β → Prop} {K : AV → Option β} {KH : AV → Heap → Option β}
theorem ownL_plain {d : Nat} : ∀ {ts : List Nat} {xs cells : List AV} {I : List Nat}, ownL (ownT ti0 E0.tp H d) ts xs = some (cells, I) → cells.all isSc = true → xs = cells ∧ I = []
 | ts, [], cells, I, h, _ => by
  obtain ⟨_, e⟩ := ownL_nil h
  cases e
  exact ⟨rfl, rfl⟩
 | [], _ :: _, _, _, h, _ => by simp [ownL] at h
 | t :: ts, x :: xs, cells, I, h, hs => by
  obtain ⟨a, b, h1, h2, e⟩ := ownL_cons h
  cases e
  rw [List.all_cons, Bool.and_eq_true] at hs
  obtain ⟨rfl, e2⟩ := ownL_plain h2 hs.2
  have hx : x = a.1 ∧ a.2 = [] := by
   obtain ⟨a1, a2⟩ := a
   cases a1 with
   | sc v =>
    have := own_sc h1
    subst this
    cases d with
    | zero => simp [ownT] at h1
    | succ d =>
     have : (AV.sc v, ([] : List Nat)) = (.sc v, a2) := Option.some.inj h1
     cases this
     exact ⟨rfl, rfl⟩
   | _ => simp [isSc] at hs
  refine ⟨by rw [hx.1], by rw [hx.2, e2]; rfl⟩
theorem ownL_plain2 {d : Nat} : ∀ {ts : List Nat} {l : List AV}, ts.length = l.length → l.all isSc = true → ownL (ownT ti0 E0.tp H (d + 1)) ts l = some (l, [])
 | [], [], _, _ => rfl
 | t :: ts, x :: l, h, hl => by
  rw [List.all_cons, Bool.and_eq_true] at hl
  cases x with
  | sc v =>
   rw [ownL, ownT_sc, Option.bind_some, ownL_plain2 (by simpa using h) hl.2]
   rfl
  | _ => simp [isSc] at hl
 | [], _ :: _, h, _ => by simp at h
 | _ :: _, [], h, _ => by simp at h
theorem Sep.openR {sz m ty : Nat} {x : AV} {cells : List AV} (hs : Sep H L) (hty : ∃ i j, ti0 ty = some i ∧ ti0 i.elem = some j ∧ j.size = sz) (hp : Pk L (.own x ty (.ro m cells)) L1) (hf : cells.all isSc = true) :
  (x = .nl ∧ m = 0 ∧ cells = []) ∨ ∃ id pre post, x = .sl id pre.length m sz ∧ cells.length = m * sz ∧ Sep H (.blk id (pre ++ (cells ++ post)) true :: L1) := by
 obtain ⟨i, j, e1, e2, rfl⟩ := hty
 obtain ⟨I, ⟨J, R, rfl, ⟨_, _, h1⟩, h2⟩, h3⟩ := hs.pick hp
 rcases own_raw e1 e2 h1 with ⟨rfl, rfl, rfl, rfl⟩ | ⟨id, off, raw, J', b, rfl, rfl, hb, hlv, ha, h4, h5⟩
 ·exact .inl ⟨rfl, rfl, rfl⟩
 ·obtain ⟨rfl, rfl⟩ := ownL_plain h5 hf
  obtain ⟨hl, b', hb', _, hle, hc⟩ := rd_live h4
  rw [hb] at hb'
  cases hb'
  have e : b.cells = b.cells.take off ++ (raw ++ b.cells.drop (off + m * j.size)) := by
   rw [hc, ← List.drop_drop, List.take_append_drop, List.take_append_drop]
  have ho : (b.cells.take off).length = off := by rw [List.length_take]; omega
  refine .inr ⟨id, b.cells.take off, b.cells.drop (off + m * j.size), by rw [ho], hl, ?_⟩
  refine ⟨[id] ++ R, ⟨[id], R, rfl, ⟨rfl, ?_⟩, h2⟩, h3⟩
  rw [hb, ← e]
  obtain ⟨c, l, a⟩ := b
  cases hlv
  cases ha
  rfl
theorem Sep.closeR {sz m ty id : Nat} {pre cells post : List AV} (hty : ∃ i j, ti0 ty = some i ∧ ti0 i.elem = some j ∧ j.size = sz ∧ j.cty.length = sz) (hs : Sep H (.blk id (pre ++ (cells ++ post)) true :: L)) (hf : cells.all isSc = true) (hl : cells.length = m * sz) : Sep H (.own (.sl id pre.length m sz) ty (.ro m cells) :: L) := by
 obtain ⟨i, j, e1, e2, rfl, e4⟩ := hty
 obtain ⟨I, ⟨J, R, rfl, ⟨rfl, h1⟩, h2⟩, h3⟩ := hs
 have hlen : ((List.replicate m j.cty).flatten).length = cells.length := by simp [e4, hl]
 refine ⟨[id] ++ R, ⟨[id], R, rfl, ⟨rfl, ⟨i, j, e1, e2, hl, okLW_scs hlen hf⟩, ?_⟩, h2⟩, h3⟩
 rw [ownT_sl]
 have ha : isApp H id = true := by simp only [isApp, h1]
 have hrd : rdCells H id pre.length (m * j.size) = some cells := by
  simp only [rdCells, h1, if_true]
  rw [if_pos (by simp only [List.length_append]; omega), List.drop_left', ← hl, List.take_left']
  ·rfl
  ·rfl
 simp only [e1, e2, Option.bind_some, if_true, ha, hrd, ownL_plain2 (d := 4) hlen hf]
theorem g_iadrS {w m o d : Nat} {z : Int} {K : AV → Option β} (h0 : 0 ≤ z) (h1 : z < m) (hk : Gd G (K (.ptr d (o + z.toNat * w)))) : Gd G (pIadr w (.sl d o m w) (.sc (.int .i64 z)) fun t => K t) := by
 have e := iadr_sl w m d o z.toNat (fun t => K t) (by omega)
 rw [show ((z.toNat : Nat) : Int) = z by omega] at e
 exact g_congr e hk
end
end Go.Proofs.YtejjggnchdldoaaDoor.Abs
set_option linter.unusedVariables false
set_option linter.unusedSimpArgs false
namespace Go.Proofs.YtejjggnchdldoaaDoor.Abs
open Go
section
variable {β : Type} {n : Nat} {H : Heap} {L L' L1 L2 : List Ck} {G : Option β → Prop} {K : AV → Option β} {KH : AV → Heap → Option β}
theorem ownL_len2 {f : Nat → AV → Option (AV × List Nat)} : ∀ {ts : List Nat} {xs cells : List AV} {I : List Nat}, ownL f ts xs = some (cells, I) → xs.length = cells.length
 | ts, [], cells, I, h => by
  obtain ⟨_, e⟩ := ownL_nil h
  cases e
  rfl
 | [], _ :: _, _, _, h => by simp [ownL] at h
 | t :: ts, x :: xs, cells, I, h => by
  obtain ⟨a, b, h1, h2, e⟩ := ownL_cons h
  cases e
  rw [List.length_cons, List.length_cons, ownL_len2 h2]
theorem ownL_scAt {d : Nat} : ∀ {ts : List Nat} {xs cells : List AV} {I : List Nat} {k : Nat} {v : Value}, ownL (ownT ti0 E0.tp H d) ts xs = some (cells, I) → cells[k]? = some (.sc v) → xs[k]? = some (.sc v)
 | ts, [], cells, I, k, v, h, hk => by
  obtain ⟨_, e⟩ := ownL_nil h
  cases e
  simp at hk
 | [], _ :: _, _, _, _, _, h, _ => by simp [ownL] at h
 | t :: ts, x :: xs, cells, I, k, v, h, hk => by
  obtain ⟨a, b, h1, h2, e⟩ := ownL_cons h
  cases e
  cases k with
  | zero =>
   obtain ⟨a1, a2⟩ := a
   have : a1 = .sc v := by simpa using hk
   subst this
   rw [own_sc h1]
   rfl
  | succ k => simpa using ownL_scAt h2 (by simpa using hk)
theorem g_iadrO {sz m ty : Nat} {x : AV} {cells : List AV} {i : Int} (hs : Sep H L) (hty : ∃ i j, ti0 ty = some i ∧ ti0 i.elem = some j ∧ j.size = sz) (hp : Pk L (.own x ty (.ro m cells)) L1) (h0 : 0 ≤ i) (h1 : i < (m : Nat))
  (h : ∀ id off, (∀ k v, k < sz → cells[i.toNat * sz + k]? = some (.sc v) → rdCells H id (off + k) 1 = some [.sc v]) → Gd G (K (.ptr id off))) : Gd G (pIadr sz x (.sc (.int .i64 i)) fun t => K t) := by
 obtain ⟨ti, tj, e1, e2, rfl⟩ := hty
 obtain ⟨_, _, I, e, _⟩ := hs.own hp
 rcases own_raw e1 e2 e with ⟨rfl, rfl, rfl, rfl⟩ | ⟨id, off, raw, J', b, rfl, rfl, hb, hlv, ha, h4, h5⟩
 ·exact absurd h1 (by simp; omega)
 ·refine g_iadrS h0 h1 ?_
  refine h _ _ fun k v hk hc => ?_
  obtain ⟨hl, b', hb', _, hle, hcs⟩ := rd_live h4
  rw [hb] at hb'
  cases hb'
  have hr := ownL_scAt h5 hc
  have hlt := (List.getElem?_eq_some_iff.1 hr).1
  rw [hl] at hlt
  have hg : b.cells[off + i.toNat * tj.size + k]? = some (.sc v) := by
   rw [hcs, List.getElem?_take_of_lt hlt, List.getElem?_drop] at hr
   rw [← hr]
   congr 1
   omega
  obtain ⟨hlt2, he⟩ := List.getElem?_eq_some_iff.1 hg
  simp only [rdCells, hb, hlv, if_true]
  rw [if_pos (by omega), List.drop_eq_getElem_cons hlt2, he]
  rfl
theorem g_ldH {id o : Nat} {c : AV} (e : rdCells H id o 1 = some [c]) (h : Gd G (K c)) : Gd G (pLoad false 1 (.ptr id o) H fun x => K x) := g_congr (ldF e _) h
end
end Go.Proofs.YtejjggnchdldoaaDoor.Abs
set_option linter.unusedVariables false
set_option linter.unusedSimpArgs false
namespace Go.Proofs.YtejjggnchdldoaaDoor.Abs
open Go
section
variable {β : Type} {n : Nat} {H : Heap} {L L' L1 L2 : List Ck} {G : Option β → Prop} {K : AV → Option β} {KH : AV → Heap → Option β}
def zip3 : List AV → List Nat → List AV → List (AV × Nat × AV)
 | x :: xs, t :: ts, c :: cs => (x, t, c) :: zip3 xs ts cs
 | _, _, _ => []
theorem ownL_split {f : Nat → AV → Option (AV × List Nat)} : ∀ {ts1 ts2 : List Nat} {xs cells : List AV} {I : List Nat}, ownL f (ts1 ++ ts2) xs = some (cells, I) → ts1.length ≤ xs.length → ∃ I1 I2, ownL f ts1 (xs.take ts1.length) = some (cells.take ts1.length, I1) ∧ ownL f ts2 (xs.drop ts1.length) = some (cells.drop ts1.length, I2) ∧ (∀ i ∈ I1, i ∈ I) ∧ ∀ i ∈ I2, i ∈ I
 | [], ts2, xs, cells, I, h, _ => ⟨[], I, by simp [ownL], by simpa using h, by simp, fun i hi => hi⟩
 | t :: ts1, ts2, [], cells, I, h, hl => by simp at hl
 | t :: ts1, ts2, x :: xs, cells, I, h, hl => by
  obtain ⟨a, b, h1, h2, e⟩ := ownL_cons h
  cases e
  obtain ⟨I1, I2, g1, g2, g3, g4⟩ := ownL_split (ts1 := ts1) (ts2 := ts2) h2 (by simpa using hl)
  refine ⟨a.2 ++ I1, I2, ?_, ?_, ?_, ?_⟩
  ·show ownL f (t :: ts1) (x :: xs.take ts1.length) = some (a.1 :: b.1.take ts1.length, a.2 ++ I1)
   rw [ownL, h1, Option.bind_some, g1]
   rfl
  ·simpa using g2
  ·intro i hi
   rcases List.mem_append.1 hi with hi | hi
   ·exact List.mem_append_left _ hi
   ·exact List.mem_append_right _ (g3 i hi)
  ·intro i hi
   exact List.mem_append_right _ (g4 i hi)
theorem ownL_zip3 {d : Nat} {I0 : List Nat} : ∀ {ts : List Nat} {xs cells : List AV} {I : List Nat}, ownL (ownT ti0 E0.tp H d) ts xs = some (cells, I) → okLW (okW ti0 E0.tp 6) ts cells → (∀ i ∈ I, i ∈ I0) → ∀ q ∈ zip3 xs ts cells, okW ti0 E0.tp 6 q.2.1 q.2.2 ∧ ∃ J, ownT ti0 E0.tp H 6 q.2.1 q.1 = some (q.2.2, J) ∧ ∀ i ∈ J, i ∈ I0
 | ts, [], cells, I, h, _, _ => by intro q hq; cases ts <;> cases hq
 | [], _ :: _, _, _, h, _, _ => by simp [ownL] at h
 | t :: ts, x :: xs, cells, I, h, ho, hI => by
  obtain ⟨a, b, h1, h2, e⟩ := ownL_cons h
  cases e
  intro q hq
  rcases List.mem_cons.1 hq with rfl | hq
  ·exact ⟨ho.1, a.2, own_dep d 6 t x a.1 a.2 h1 ho.1, fun i hi => hI i (List.mem_append_left _ hi)⟩
  ·exact ownL_zip3 h2 ho.2 (fun i hi => hI i (List.mem_append_right _ hi)) q hq
theorem okLW_split {f : Nat → AV → Prop} : ∀ {ts1 ts2 : List Nat} {cs : List AV}, okLW f (ts1 ++ ts2) cs → okLW f ts1 (cs.take ts1.length) ∧ okLW f ts2 (cs.drop ts1.length)
 | [], ts2, cs, h => ⟨by simp [okLW], by simpa using h⟩
 | t :: ts1, ts2, [], h => by cases h
 | t :: ts1, ts2, c :: cs, h => by
  obtain ⟨g1, g2⟩ := okLW_split (ts1 := ts1) h.2
  exact ⟨⟨h.1, g1⟩, by simpa using g2⟩
theorem g_elt {α : Type} {enc : α → List AV} {w ty : Nat} {cty : List Nat} {x : AV} {l : List α} {y : α} {i : Int} {ys : List (AV × Nat × AV)} (hs : Sep H L) (hty : ∃ i j, ti0 ty = some i ∧ ti0 i.elem = some j ∧ j.size = w ∧ j.cty = cty) (hp : Pk L (.shs x ty (rowsC enc l) ys) L1)
  (hi : 0 ≤ i) (hy : l[i.toNat]? = some y) (hw : ∀ x, (enc x).length = w) (hf : ∀ x, (enc x).all isFl = true) (hc : cty.length = w)
  (h : ∀ id off raw, raw.length = w → raw.all isLeaf = true → rdCells H id off w = some raw → (∀ (k : Nat) (v : Value), (enc y)[k]? = some (AV.sc v) → raw[k]? = some (AV.sc v)) → Sep H (.shs x ty (rowsC enc l) (zip3 raw cty (enc y) ++ ys) :: L1) → Gd G (K (.ptr id off))) : Gd G (pIadr w x (.sc (.int .i64 i)) fun t => K t) := by
 obtain ⟨ti, tj, e1, e2, rfl, rfl⟩ := hty
 obtain ⟨I, ⟨J, R, rfl, ⟨⟨hlf, hok, e⟩, hys⟩, h2⟩, h3⟩ := hs.pick hp
 have hlt : i.toNat < l.length := (List.getElem?_eq_some_iff.1 hy).1
 rcases own_raw e1 e2 e with ⟨rfl, h0, _, _⟩ | ⟨id, off, raw, J', b, rfl, rfl, hb, hlv, ha, h4, h5⟩
 ·omega
 ·obtain ⟨hl, b', hb', _, hle, hcs⟩ := rd_live h4
  rw [hb] at hb'
  cases hb'
  have hm : (i.toNat + 1) * tj.size ≤ l.length * tj.size := Nat.mul_le_mul_right _ hlt
  have hrep : (List.replicate l.length tj.cty).flatten = (List.replicate i.toNat tj.cty).flatten ++ (tj.cty ++ (List.replicate (l.length - i.toNat - 1) tj.cty).flatten) := by
   rw [show l.length = i.toNat + (1 + (l.length - i.toNat - 1)) by omega, ← List.replicate_append_replicate, ← List.replicate_append_replicate, List.flatten_append, List.flatten_append]
   simp
  have hl1 : ((List.replicate i.toNat tj.cty).flatten).length = i.toNat * tj.size := by simp [hc]
  rw [hrep] at h5
  obtain ⟨I1, I2, g1, g2, g3, g4⟩ := ownL_split h5 (by rw [hl1, hl, Nat.add_mul] at *; omega)
  obtain ⟨I3, I4, k1, k2, k3, k4⟩ := ownL_split g2 (by rw [List.length_drop, hl1, hl, hc]; rw [Nat.add_mul] at hm; omega)
  rw [hl1, hc] at k1
  have hcell : (((l.map enc).flatten).drop (i.toNat * tj.size)).take tj.size = enc y := by
   obtain ⟨_, hey⟩ := List.getElem?_eq_some_iff.1 hy
   have hsplit : l = l.take i.toNat ++ y :: l.drop (i.toNat + 1) := by
    rw [← hey, ← List.drop_eq_getElem_cons hlt, List.take_append_drop]
   have hpre : ((l.take i.toNat).map enc).flatten.length = i.toNat * tj.size := by
    rw [rows_len hw, List.length_take, Nat.min_eq_left (Nat.le_of_lt hlt)]
   rw [hsplit, List.map_append, List.flatten_append, List.map_cons, List.flatten_cons]
   have e0 : (l.take i.toNat ++ y :: l.drop (i.toNat + 1)).take i.toNat = l.take i.toNat := by rw [← hsplit]
   rw [List.drop_append_of_le_length (by omega), ← hpre, List.drop_length, List.nil_append, List.take_append_of_le_length (by rw [hw]; exact Nat.le_refl _), ← hw y, List.take_length]
  rw [hcell] at k1
  have hokE : okLW (okW ti0 E0.tp 6) tj.cty (enc y) := by
   obtain ⟨i', j', q1, q2, q3, q4⟩ := hok
   rw [e1] at q1
   cases q1
   rw [e2] at q2
   cases q2
   rw [hrep] at q4
   have q5 := (okLW_split (okLW_split q4).2).1
   rw [hl1, hc] at q5
   show okLW (okW ti0 E0.tp 6) tj.cty (enc y)
   have hcell' : (((rowsC enc l |> fun _ => (l.map enc).flatten)).drop (i.toNat * tj.size)).take tj.size = enc y := hcell
   rw [← hcell]
   exact okLW_le q5 (by decide)
  have hrd : rdCells H id (off + i.toNat * tj.size) tj.size = some ((raw.drop (i.toNat * tj.size)).take tj.size) := by
   simp only [rdCells, hb, hlv, if_true]
   rw [Nat.add_mul] at hm
   rw [if_pos (by omega), hcs, List.drop_take, List.take_take, List.drop_drop, Nat.min_eq_left (by omega)]
  have hrl : ((raw.drop (i.toNat * tj.size)).take tj.size).length = tj.size := by
   rw [List.length_take, List.length_drop, hl]
   rw [Nat.add_mul] at hm
   omega
  refine g_iadrS hi (by omega) ?_
  refine h id _ _ hrl (ownL_leaf (fun t x a I h hl => own_leaf h hl) k1 (hf y)) hrd (fun k v hk => ownL_scAt k1 hk) ⟨(id :: J') ++ R, ⟨id :: J', R, rfl, ⟨⟨hlf, hok, e⟩, fun q hq => ?_⟩, h2⟩, h3⟩
  rcases List.mem_append.1 hq with hq | hq
  ·exact ownL_zip3 k1 hokE (fun i hi => List.mem_cons_of_mem _ (g4 i (k3 i hi))) q hq
  ·exact hys q hq
theorem g_ldE2 {id o w : Nat} {cs : List AV} (e : rdCells H id o w = some cs) (h : Gd G (K (.agg cs))) : Gd G (pLoad true w (.ptr id o) H fun x => K x) := g_congr (ldT e _) h
theorem rd_part {id o w k v : Nat} {cs : List AV} (e : rdCells H id o w = some cs) (hk : k + v ≤ w) : rdCells H id (o + k) v = some ((cs.drop k).take v) := by
 obtain ⟨hl, b, hb, hlv, hle, hcs⟩ := rd_live e
 simp only [rdCells, hb, hlv, if_true]
 rw [if_pos (by omega), hcs, List.drop_take, List.take_take, List.drop_drop, Nat.min_eq_left (by omega)]
theorem g_ldF2 {id o k : Nat} {c : AV} {w : Nat} {cs : List AV} (e : rdCells H id o w = some cs) (hk : k < w) (hc : cs[k]? = some c) (h : Gd G (K c)) : Gd G (pLoad false 1 (.ptr id (o + k)) H fun x => K x) := by
 have e2 := rd_part (k := k) (v := 1) e (by omega)
 obtain ⟨hlt, he⟩ := List.getElem?_eq_some_iff.1 hc
 rw [List.drop_eq_getElem_cons hlt, he] at e2
 exact g_ldH e2 h
theorem g_lenP {x t y : AV} {ty ty' k m : Nat} {cells : List AV} {ys : List (AV × Nat × AV)} (hs : Sep H L) (hp : Pk L (.shs x ty t ys) L1) (hk : ys[k]? = some (y, ty', .ro m cells)) (h : Gd G (K (.sc (.int .i64 m)))) : Gd G (pLen y fun x => K x) := by
 obtain ⟨_, I, e⟩ := hs.seenS hp hk
 have hl := len_own e
 refine g_congr ?_ h
 have key : ∀ (x : AV), (∀ v, x ≠ .sc v) → lenA x = some m → pLen x K = K (.sc (.int .i64 m)) := by
  intro x hx hl
  cases x with
  | sc v => exact absurd rfl (hx v)
  | nl => cases hl; rfl
  | ro n cs => cases hl; rfl
  | sl a b c d => cases hl; rfl
  | _ => cases hl
 refine key y (fun v hv => ?_) hl
 subst hv
 simp [ownT] at e
theorem g_iadrI {ty : Nat} {x : AV} {l : List Int} {y i : Int} (hs : Sep H L) (hp : Pk L (.own x ty (intsC l)) L1) (hty : ∃ i j, ti0 ty = some i ∧ ti0 i.elem = some j ∧ j.size = 1) (h0 : 0 ≤ i) (hy : l[i.toNat]? = some y)
  (h : ∀ id off, rdCells H id off 1 = some [.sc (.int .i64 y)] → Gd G (K (.ptr id off))) : Gd G (pIadr 1 x (.sc (.int .i64 i)) fun t => K t) := by
 have hlt := (List.getElem?_eq_some_iff.1 hy).1
 refine g_iadrO (m := l.length) (cells := l.map fun z => .sc (.int .i64 z)) hs hty hp h0 (by omega) fun id off hc => h id off ?_
 exact hc 0 _ (by omega) (by simp [hy])
def pushB (s : ByteArray) (b : Int) : ByteArray := s.push (UInt8.ofNat b.toNat)
theorem pushB_size (s : ByteArray) (b : Int) : (pushB s b).size = s.size + 1 := by
 unfold pushB
 exact ByteArray.size_push
theorem bytes_push (s : ByteArray) (b : Int) (h0 : 0 ≤ b) (h1 : b < 256) : bytesC (pushB s b) = .ro (s.size + 1) (bytesAV s ++ [.sc (.int .u8 b)]) := by
 show AV.ro (pushB s b).size (bytesAV (pushB s b)) = _
 rw [pushB_size]
 congr 1
 have e : ((UInt8.ofNat b.toNat).toNat : Int) = b := by
  rw [UInt8.toNat_ofNat']
  omega
 unfold bytesAV pushB
 rw [ByteArray.data_push, Array.toList_push, List.map_append, List.map_cons, List.map_nil, e]
theorem g_appB1 {ty : Nat} {cty : List Nat} {x : AV} {s : ByteArray} {i : Nat} {z : Int} {a : Bool} (hs : Sep H L) (hx : Pk L (.own x ty (bytesC s)) L1) (hp : Pk L1 (.blk i [.sc (.int .u8 z)] a) L2) (hty : ∃ i j, ti0 ty = some i ∧ ti0 i.elem = some j ∧ j.size = 1 ∧ j.cty = cty) (hc : cty.length = 1) (hb : 0 ≤ z ∧ z < 256 ∧ s.size + 1 ≤ 140737488355328)
  (h : ∀ x' H', isLeaf x' = true → Sep H' (.own x' ty (bytesC (pushB s z)) :: L2) → Gd G (KH x' H')) : Gd G (pApp 1 1 x (.sl i 0 1 1) H fun x H => KH x H) := by
 obtain ⟨c, rfl⟩ := List.length_eq_one_iff.1 hc
 have e1 : (List.replicate 1 [c]).flatten = [c] := by simp
 rw [bytes_push s z hb.1 hb.2.1] at h
 exact g_app (m := 1) (cb := [.sc (.int .u8 z)]) hs hty hx (src_blk hp rfl rfl (by rw [e1]; exact .sc .nil) (by rw [e1]; exact ⟨trivial, trivial⟩)) (by rw [e1]; exact ⟨trivial, trivial⟩) (by omega) fun x' H' lx hs' => h x' H' lx hs'
theorem g_cvI {k k' : IntKind} {a z : Int} {K : AV → Option β} (hz : k.wrap a = z) (h : Gd G (K (.sc (.int k z)))) : Gd G (pCvI k (.sc (.int k' a)) fun t => K t) := by
 subst hz
 exact h
theorem u8_small {a : Int} (h0 : 0 ≤ a) (h1 : a < 256) : IntKind.u8.wrap a = a := by
 simp only [IntKind.wrap, IntKind.bits, IntKind.signed]
 simp
 omega
end
end Go.Proofs.YtejjggnchdldoaaDoor.Abs
set_option linter.unusedVariables false
set_option linter.unusedSimpArgs false
namespace Go.Proofs.YtejjggnchdldoaaDoor.Abs
open Go
section
variable {β : Type} {n : Nat} {H : Heap} {L L' L1 L2 : List Ck} {G : Option β → Prop} {K : AV → Option β} {KH : AV → Heap → Option β}
theorem rep_cut {cty : List Nat} {m a b : Nat} (ha : a ≤ b) (hb : b ≤ m) : (List.replicate m cty).flatten = (List.replicate a cty).flatten ++ ((List.replicate (b - a) cty).flatten ++ (List.replicate (m - b) cty).flatten) := by
 rw [show m = a + ((b - a) + (m - b)) by omega, ← List.replicate_append_replicate, ← List.replicate_append_replicate, List.flatten_append, List.flatten_append]
 congr 4
 omega
theorem g_sliceS {sz m ty a b : Nat} {cty : List Nat} {x : AV} {cells : List AV} {ys : List (AV × Nat × AV)} {lo hi : Option AV} (hs : Sep H L) (hty : ∃ i j, ti0 ty = some i ∧ ti0 i.elem = some j ∧ j.size = sz ∧ j.cty = cty) (hp : Pk L (.shs x ty (.ro m cells) ys) L1)
  (hlo : bound lo 0 = some ((a : Nat) : Int)) (hhi : bound hi m = some ((b : Nat) : Int)) (hab : a ≤ b) (hb : b ≤ m) (hc : cty.length = sz)
  (h : ∀ y, isLeaf y = true → Sep H (.shs x ty (.ro m cells) ((y, ty, .ro (b - a) ((cells.drop (a * sz)).take ((b - a) * sz))) :: ys) :: L1) → Gd G (K y)) : Gd G (pSlice sz x lo hi fun t => K t) := by
 obtain ⟨ti, tj, e1, e2, rfl, rfl⟩ := hty
 obtain ⟨I, ⟨J, R, rfl, ⟨⟨hlf, hok, e⟩, hys⟩, h2⟩, h3⟩ := hs.pick hp
 have hcl : cells.length = m * tj.size ∧ okLW (okW ti0 E0.tp 5) (List.replicate m tj.cty).flatten cells := by
  obtain ⟨i', j', q1, q2, q3, q4⟩ := hok
  rw [e1] at q1
  cases q1
  rw [e2] at q2
  cases q2
  exact ⟨q3, q4⟩
 have hrl : ∀ k, ((List.replicate k tj.cty).flatten).length = k * tj.size := fun k => by simp [hc]
 have hm1 : a * tj.size ≤ b * tj.size := Nat.mul_le_mul_right _ hab
 have hm2 : b * tj.size ≤ m * tj.size := Nat.mul_le_mul_right _ hb
 have hm3 : (b - a) * tj.size = b * tj.size - a * tj.size := Nat.sub_mul ..
 have hokP : okW ti0 E0.tp 6 ty (.ro (b - a) ((cells.drop (a * tj.size)).take ((b - a) * tj.size))) := by
  refine ⟨ti, tj, e1, e2, ?_, ?_⟩
  ·rw [List.length_take, List.length_drop, hcl.1]
   omega
  ·have q := hcl.2
   rw [rep_cut hab hb] at q
   have q2 := (okLW_split (okLW_split q).2).1
   rw [hrl, hrl] at q2
   exact q2
 have fin : ∀ y JP, isLeaf y = true → ownT ti0 E0.tp H 6 ty y = some (.ro (b - a) ((cells.drop (a * tj.size)).take ((b - a) * tj.size)), JP) → (∀ i ∈ JP, i ∈ J) → Gd G (K y) := by
  intro y JP hy1 hy hJ
  refine h y hy1 ⟨J ++ R, ⟨J, R, rfl, ⟨⟨hlf, hok, e⟩, fun q hq => ?_⟩, h2⟩, h3⟩
  rcases List.mem_cons.1 hq with rfl | hq
  ·exact ⟨hokP, JP, hy, hJ⟩
  ·exact hys q hq
 rcases own_raw e1 e2 e with ⟨rfl, rfl, rfl, rfl⟩ | ⟨id, off, raw, J', bb, rfl, rfl, hbb, hlv, ha, h4, h5⟩
 ·have hb0 : b = 0 := by omega
  have ha0 : a = 0 := by omega
  subst hb0
  subst ha0
  refine g_congr (b := K .nl) ?_ (fin .nl [] rfl (by simp [ownT]) (by simp))
  have hl0 : lenA .nl = some 0 := rfl
  simp only [pSlice, hl0, hlo, hhi, Option.bind_some]
  rfl
 ·obtain ⟨hl, b', hb', _, hle, hcs⟩ := rd_live h4
  rw [hbb] at hb'
  cases hb'
  rw [rep_cut hab hb] at h5
  obtain ⟨I1, I2, g1, g2, g3, g4⟩ := ownL_split h5 (by rw [hrl, hl]; omega)
  obtain ⟨I3, I4, k1, k2, k3, k4⟩ := ownL_split g2 (by rw [hrl, List.length_drop, hrl, hl]; omega)
  rw [hrl, hrl] at k1
  refine g_congr (b := K (.sl id (off + a * tj.size) (b - a) tj.size)) ?_ (fin _ (id :: I3) rfl ?_ ?_)
  ·have hl0 : lenA (.sl id off m tj.size) = some m := rfl
   simp only [pSlice, hl0, hlo, hhi, Option.bind_some, if_true]
   rw [if_pos (by omega)]
   congr 2
   omega
  ·rw [ownT_sl]
   have hap : isApp H id = true := by simp only [isApp, hbb]; exact ha
   have hrd : rdCells H id (off + a * tj.size) ((b - a) * tj.size) = some ((raw.drop (a * tj.size)).take ((b - a) * tj.size)) := by
    simp only [rdCells, hbb, hlv, if_true]
    rw [if_pos (by omega), hcs, List.drop_take, List.take_take, List.drop_drop, Nat.min_eq_left (by omega)]
   simp only [e1, e2, Option.bind_some, if_true, hap, hrd, k1]
  ·intro i hi
   rcases List.mem_cons.1 hi with rfl | hi
   ·exact List.mem_cons_self
   ·exact List.mem_cons_of_mem _ (g4 i (k3 i hi))
theorem rows_sub {α : Type} {enc : α → List AV} {w : Nat} (hw : ∀ x, (enc x).length = w) (l : List α) (a b : Nat) (hab : a ≤ b) (hb : b ≤ l.length) : (AV.ro (b - a) ((((l.map enc).flatten).drop (a * w)).take ((b - a) * w))) = rowsC enc ((l.drop a).take (b - a)) := by
 have h1 : (((l.map enc).flatten).drop (a * w)) = ((l.drop a).map enc).flatten := by
  have e : l = l.take a ++ l.drop a := (List.take_append_drop a l).symm
  have hp : ((l.take a).map enc).flatten.length = a * w := by rw [rows_len hw, List.length_take, Nat.min_eq_left (by omega)]
  rw [e, List.map_append, List.flatten_append]
  have e0 : (l.take a ++ l.drop a).drop a = l.drop a := by rw [← e]
  rw [e0, List.drop_append_of_le_length (by omega), ← hp, List.drop_length, List.nil_append]
 have h2 : (((l.drop a).map enc).flatten).take ((b - a) * w) = (((l.drop a).take (b - a)).map enc).flatten := by
  have e : l.drop a = (l.drop a).take (b - a) ++ (l.drop a).drop (b - a) := (List.take_append_drop _ _).symm
  have hp : (((l.drop a).take (b - a)).map enc).flatten.length = (b - a) * w := by rw [rows_len hw, List.length_take, List.length_drop, Nat.min_eq_left (by omega)]
  have e0 : ((l.drop a).take (b - a) ++ (l.drop a).drop (b - a)).take (b - a) = (l.drop a).take (b - a) := by rw [← e]
  rw [e, List.map_append, List.flatten_append, e0, List.take_append_of_le_length (by omega), ← hp, List.take_length]
 rw [h1, h2]
 show _ = AV.ro _ _
 rw [List.length_take, List.length_drop, Nat.min_eq_left (by omega)]
theorem g_sliceR {α : Type} {enc : α → List AV} {w ty : Nat} {a b : Int} {cty : List Nat} {x : AV} {l : List α} {ys : List (AV × Nat × AV)} {lo hi : Option AV} (hs : Sep H L) (hty : ∃ i j, ti0 ty = some i ∧ ti0 i.elem = some j ∧ j.size = w ∧ j.cty = cty) (hp : Pk L (.shs x ty (rowsC enc l) ys) L1)
  (hlo : bound lo 0 = some a) (hhi : bound hi l.length = some b) (h0 : 0 ≤ a) (hab : a ≤ b) (hb : b ≤ (l.length : Nat)) (hw : ∀ x, (enc x).length = w) (hc : cty.length = w)
  (h : ∀ y, isLeaf y = true → Sep H (.shs x ty (rowsC enc l) ((y, ty, rowsC enc ((l.drop a.toNat).take (b.toNat - a.toNat))) :: ys) :: L1) → Gd G (K y)) : Gd G (pSlice w x lo hi fun t => K t) := by
 obtain ⟨a', rfl⟩ : ∃ a' : Nat, a = a' := ⟨a.toNat, by omega⟩
 obtain ⟨b', rfl⟩ : ∃ b' : Nat, b = b' := ⟨b.toNat, by omega⟩
 refine g_sliceS (cells := (l.map enc).flatten) hs hty hp hlo hhi (by omega) (by omega) hc fun y hy hs' => h y hy ?_
 rw [rows_sub hw l a' b' (by omega) (by omega)] at hs'
 exact hs'
end
end Go.Proofs.YtejjggnchdldoaaDoor.Abs
set_option linter.unusedVariables false
set_option linter.unusedSimpArgs false
set_option maxRecDepth 100000
namespace Go.Proofs.YtejjggnchdldoaaDoor.Abs
open Go
section
variable {β : Type} {n : Nat} {H : Heap} {L L' L1 L2 : List Ck} {G : Option β → Prop} {K : AV → Option β} {KH : AV → Heap → Option β} {c : Nat} {code : ByteArray} {i : Nat} {h : Int}
abbrev Cr (c : Nat) (code : ByteArray) (i : Nat) (h : Int) : Ck := .blk c (cur code i h) true
theorem curAt (s : Sep H L) (p : Pk L (Cr c code i h) L1) : H[c]? = some (curB code i h) := s.blk p
theorem byteK {ty : Nat} (hs : code.size ≤ 1048576) (s : Sep H L) (p : Pk L (Cr c code i h) L1)
  (hk : ∀ (x : Int) (i' : Nat) (h' : Int) (H' : Heap), 0 ≤ x ∧ x < 256 → Sep H' (Cr c code i' h' :: L1) → Gd G (KH (.sc (.int .i64 x)) H')) :
  Gd G ((PR (n + 1) β).call ty (.fn 86 [] []) [.ptr c 0] H fun x H => KH x H) := by
 obtain ⟨x, i', h', hx, hr⟩ := byte_run (β := β) (n := n) c code hs i h (curAt s p) ty
 rw [hr]
 exact hk x i' h' _ (by omega) (s.put p (cur code i' h') true)
theorem belowK {ty : Nat} {m : Int} (hs : code.size ≤ 1048576) (hm : m ≤ 4294967296) (s : Sep H L) (p : Pk L (Cr c code i h) L1)
  (hk : ∀ (x : Int) (i' : Nat) (h' : Int) (H' : Heap), 0 ≤ x ∧ (0 < m → x < m) ∧ (m ≤ 0 → x = 0) → Sep H' (Cr c code i' h' :: L1) → Gd G (KH (.sc (.int .i64 x)) H')) :
  Gd G ((PR (n + 2) β).call ty (.fn 66 [] []) [.ptr c 0, .sc (.int .i64 m)] H fun x H => KH x H) := by
 by_cases h0 : m ≤ 0
 ·rw [PR_hmD rfl rfl, f66_eq, f66]
  simp only [PR_bin, PR_cond]
  refine g_leq ?_
  refine g_cT (by simp; omega) ?_
  exact hk 0 i h H ⟨by omega, by omega, fun _ => rfl⟩ (s.pick p)
 ·by_cases h1 : m ≤ 256
  ·obtain ⟨x, i', h', hx, hr⟩ := below_run (β := β) (n := n) c code hs i h (curAt s p) ty m.toNat (by omega) (by omega)
   rw [show ((m.toNat : Nat) : Int) = m by omega] at hr
   rw [hr]
   exact hk x i' h' _ ⟨by omega, by omega, by omega⟩ (s.put p (cur code i' h') true)
  ·rw [PR_hmD rfl rfl, f66_eq, f66]
   simp only [PR_bin, PR_cond]
   refine g_leq ?_
   refine g_cF (by simp; omega) ?_
   refine g_leq ?_
   refine g_cF (by simp; omega) ?_
   refine byteK hs s p fun x i1 k1 H1 hx s1 => ?_
   refine byteK hs s1 .here fun y i2 k2 H2 hy s2 => ?_
   refine byteK hs s2 .here fun z i3 k3 H3 hz s3 => ?_
   refine g_mul (by omega) (by omega) ?_
   refine g_mul (by omega) (by omega) ?_
   refine g_add (by omega) (by omega) ?_
   refine g_add (by omega) (by omega) ?_
   refine g_bin (v := .sc (.int .i64 ((x * 65536 + y * 256 + z).tmod m))) (fun k => ?_) ?_
   ·show (binI .rem .i64 (x * 65536 + y * 256 + z) m).bind (fun v => k (.sc v)) = _
    have e : binI .rem .i64 (x * 65536 + y * 256 + z) m = some (.int .i64 ((x * 65536 + y * 256 + z).tmod m)) := by
     show (if m = 0 then none else some (Value.int .i64 ((x * 65536 + y * 256 + z).tmod m))) = _
     rw [if_neg (by omega)]
    rw [e]
    rfl
   have hnn : 0 ≤ x * 65536 + y * 256 + z := by omega
   have e := Int.tmod_eq_emod_of_nonneg (b := m) hnn
   have e1 := Int.emod_nonneg (x * 65536 + y * 256 + z) (show m ≠ 0 by omega)
   have e2 := Int.emod_lt_of_pos (x * 65536 + y * 256 + z) (show 0 < m by omega)
   exact hk _ i3 k3 H3 ⟨by rw [e]; exact e1, fun _ => by rw [e]; exact e2, by omega⟩ s3
theorem intK {ty d m : Nat} {cs : List AV} {a : Bool} (hs : code.size ≤ 1048576) (hm : m ≤ 256) (h1 : 1 ≤ m) (hc : cs.length = m) (s : Sep H L) (p : Pk L (Cr c code i h) L1) (q : Pk L1 (.blk d cs a) L2)
  (hk : ∀ (x : AV) (i' : Nat) (h' : Int) (H' : Heap), x ∈ cs → Sep H' (Cr c code i' h' :: L1) → Gd G (KH x H')) :
  Gd G ((PR (n + 3) β).call ty (.fn 69 [] []) [.ptr c 0, .sl d 0 m 1] H fun x H => KH x H) := by
 rw [PR_hmD rfl rfl, f69_eq, f69]
 simp only [PR_len, PR_iadr, PR_load]
 refine g_lenL ?_
 refine belowK hs (by omega) s p fun z i' h' H' hz s' => ?_
 refine g_iadrS (by omega) (by omega) ?_
 have hlt : 0 + z.toNat * 1 < cs.length := by omega
 refine g_ld (c := cs[0 + z.toNat * 1]) s' (.there q) (List.getElem?_eq_getElem hlt) ?_
 exact hk _ i' h' H' (List.getElem_mem hlt) s'
theorem newK {ty : Nat} (hs : code.size ≤ 1048576) (hn : 4000 < n) (s : Sep H L) (hk : ∀ (c : Nat) (h : Int) (H' : Heap), Sep H' (Cr c code 0 h :: L) → Gd G (KH (.ptr c 0) H')) :
  Gd G ((PR (n + 1) β).call ty (.fn 42 [] []) [bytesC code] H fun x H => KH x H) := by
 obtain ⟨h, hr⟩ := new_run (β := β) (n := n) (H := H) code hs hn ty
 show Gd G ((PR (n + 1) β).call ty (.fn 42 [] []) [.ro code.size (bytesAV code)] H fun x H => KH x H)
 rw [hr]
 exact hk _ h _ (s.new (J := [H.length]) ⟨rfl, by rw [List.getElem?_append_right (Nat.le_refl _), Nat.sub_self]; rfl⟩ (by simp) (by simp))
theorem mem_ints {x : AV} {l : List Int} {lo hi : Int} (h : x ∈ l.map fun z => AV.sc (.int .i64 z)) (hl : ∀ z ∈ l, lo ≤ z ∧ z ≤ hi) : ∃ z : Int, x = .sc (.int .i64 z) ∧ lo ≤ z ∧ z ≤ hi := by
 obtain ⟨z, h1, rfl⟩ := List.mem_map.1 h
 exact ⟨z, rfl, hl z h1⟩
theorem mem_strs {x : AV} {l : List ByteArray} {m : Nat} (h : x ∈ l.map fun z => AV.sc (.string z)) (hl : ∀ z ∈ l, z.size ≤ m) : ∃ z : ByteArray, x = .sc (.string z) ∧ z.size ≤ m := by
 obtain ⟨z, h1, rfl⟩ := List.mem_map.1 h
 exact ⟨z, rfl, hl z h1⟩
theorem wtL_nil {α : Type} {w : α → Nat} : wtL w [] = 0 := rfl
theorem wtL_app1 {α : Type} {w : α → Nat} : ∀ (l : List α) (x : α), wtL w (l ++ [x]) = wtL w l + (1 + w x)
 | [], x => by show 1 + w x + 0 = 0 + (1 + w x); omega
 | y :: l, x => by
  show 1 + w y + wtL w (l ++ [x]) = 1 + w y + wtL w l + (1 + w x)
  rw [wtL_app1 l x]
  omega
theorem all_app1 {α : Type} {p : α → Prop} {l : List α} {x : α} (h : ∀ y ∈ l, p y) (hx : p x) : ∀ y ∈ l ++ [x], p y := by
 intro y hy
 rcases List.mem_append.1 hy with hy | hy
 ·exact h y hy
 ·rw [List.mem_singleton.1 hy]
  exact hx
theorem wtL_ge {α : Type} (w : α → Nat) : ∀ (l : List α), l.length ≤ wtL w l
 | [] => Nat.le_refl _
 | x :: l => by
  have := wtL_ge w l
  show l.length + 1 ≤ 1 + w x + wtL w l
  omega
theorem empty_size : (⟨#[]⟩ : ByteArray).size = 0 := rfl
end
end Go.Proofs.YtejjggnchdldoaaDoor.Abs
set_option linter.unusedVariables false
set_option linter.unusedSimpArgs false
set_option maxRecDepth 100000
namespace Go.Proofs.YtejjggnchdldoaaDoor.Abs
open Go
section
variable {β : Type} {n : Nat} {H : Heap} {L L' L1 L2 : List Ck} {G : Option β → Prop} {K : AV → Option β} {KH : AV → Heap → Option β} {c : Nat} {code : ByteArray} {i : Nat} {h : Int}
theorem onceK {ty : Nat} {m : Int} (hs : code.size ≤ 1048576) (hm : m ≤ 4294967296) (s : Sep H L) (p : Pk L (Cr c code i h) L1)
  (hk : ∀ (b : Bool) (i' : Nat) (h' : Int) (H' : Heap), Sep H' (Cr c code i' h' :: L1) → Gd G (KH (.sc (.bool b)) H')) :
  Gd G ((PR (n + 3) β).call ty (.fn 64 [] []) [.ptr c 0, .sc (.int .i64 m)] H fun x H => KH x H) := by
 rw [PR_hmD rfl rfl, f64_eq, f64]
 simp only [PR_bin]
 refine belowK hs hm s p fun x i' h' H' hx s' => ?_
 refine g_eql ?_
 exact hk _ i' h' H' s'
theorem strK {ty d m : Nat} {cs : List AV} {a : Bool} (hs : code.size ≤ 1048576) (hm : m ≤ 256) (h1 : 1 ≤ m) (hc : cs.length = m) (s : Sep H L) (p : Pk L (Cr c code i h) L1) (q : Pk L1 (.blk d cs a) L2)
  (hk : ∀ (x : AV) (i' : Nat) (h' : Int) (H' : Heap), x ∈ cs → Sep H' (Cr c code i' h' :: L1) → Gd G (KH x H')) :
  Gd G ((PR (n + 3) β).call ty (.fn 88 [] []) [.ptr c 0, .sl d 0 m 1] H fun x H => KH x H) := by
 rw [PR_hmD rfl rfl, f88_eq, f88]
 simp only [PR_len, PR_iadr, PR_load]
 refine g_lenL ?_
 refine belowK hs (by omega) s p fun z i' h' H' hz s' => ?_
 refine g_iadrS (by omega) (by omega) ?_
 have hlt : 0 + z.toNat * 1 < cs.length := by omega
 refine g_ld (c := cs[0 + z.toNat * 1]) s' (.there q) (List.getElem?_eq_getElem hlt) ?_
 exact hk _ i' h' H' (List.getElem_mem hlt) s'
end
end Go.Proofs.YtejjggnchdldoaaDoor.Abs
set_option linter.unusedVariables false
set_option linter.unusedSimpArgs false
set_option maxRecDepth 100000
set_option maxHeartbeats 1600000
namespace Go.Proofs.YtejjggnchdldoaaDoor.Abs
open Go
theorem l3TopicK (n : Nat) (hn : 1048576 < n) (code : ByteArray) (hcode : code.size ≤ 1048576) (c i : Nat) (h : Int)   {β : Type} {G : Option β → Prop} {KH : AV → Heap → Option β} {H : Heap} {L : List Ck} (s0 : Sep H (Cr c code i h :: L)) (hk : ∀ (r0 : ByteArray) (i' : Nat) (h' : Int) (H' : Heap), (r0.size ≤ 7) → Sep H' (Cr c code i' h' :: L) → Gd G (KH (.sc (.string r0)) H')) : Gd G (evalFn E0 (n + 5) β 85 [.ptr c 0] H fun x H => KH x H) := by
 rw [f85_eq, f85]
 try simp only [PR_box, PR_new, PR_newSl, PR_fadr, PR_load, PR_store, PR_bin, PR_binB, PR_binA, PR_un, PR_cond, PR_guard, PR_pick, PR_len, PR_lenS, PR_iadr, PR_idx, PR_slice, PR_sliceS, PR_fill, PR_make, PR_app, PR_appS, PR_cvI, PR_cvSS, PR_cvBS, PR_cvSB, PR_extr, PR_nil, PR_clear, PR_fld, PR_apart, PR_same]
 refine g_fill (cs := [.sc (.string (⟨#[97]⟩)), .sc (.string (⟨#[98]⟩)), .sc (.string (⟨#[97, 47, 98]⟩)), .sc (.string (⟨#[97, 47, 99]⟩)), .sc (.string (⟨#[97, 47, 98, 47, 99]⟩)), .sc (.string (⟨#[97, 47, 98, 47, 99, 47, 100]⟩)), .sc (.string (⟨#[36, 115]⟩)), .sc (.string (⟨#[36, 115, 47, 97]⟩)), .sc (.string (⟨#[47]⟩)), .sc (.string (⟨#[97, 47]⟩)), .sc (.string (⟨#[47, 97]⟩)), .sc (.string (⟨#[98, 47, 98]⟩)), .sc (.string (⟨#[195, 169, 47, 97]⟩))]) rfl ?_
 refine g_newSl s0 fun i1 H s2 => ?_
 refine strK hcode (by omega) (by omega) rfl s2 (.there (.here)) (.here) fun z3a iq4 hq4 H mz3 sq4 => ?_
 have s5 := (sq4.pick (.there (.here))).tail
 obtain ⟨z3, rfl, hz3⟩ := mem_strs (l := [⟨#[97]⟩, ⟨#[98]⟩, ⟨#[97, 47, 98]⟩, ⟨#[97, 47, 99]⟩, ⟨#[97, 47, 98, 47, 99]⟩, ⟨#[97, 47, 98, 47, 99, 47, 100]⟩, ⟨#[36, 115]⟩, ⟨#[36, 115, 47, 97]⟩, ⟨#[47]⟩, ⟨#[97, 47]⟩, ⟨#[47, 97]⟩, ⟨#[98, 47, 98]⟩, ⟨#[195, 169, 47, 97]⟩]) (m := 7) mz3 (by decide)
 have e6 : z3.size ≤ 7 := by
  first | omega | (simp only [pushB_size, empty_size]; omega) | (simp; omega)
 exact hk z3 iq4 hq4 _ e6 (s5.sel (.cons (.here) .rest))
theorem l1BytesK (n : Nat) (hn : 1048576 < n) (code : ByteArray) (hcode : code.size ≤ 1048576) (c i : Nat) (h : Int) (k : Int) (hk0 : k ≤ 1048576) {β : Type} {G : Option β → Prop} {KH : AV → Heap → Option β} {H : Heap} {L : List Ck} (s0 : Sep H (Cr c code i h :: L)) (hk : ∀ (r0 : ByteArray) (r0x : AV) (i' : Nat) (h' : Int) (H' : Heap), (isLeaf r0x = true) → (r0.size ≤ k.toNat) → Sep H' (.own r0x 23 (bytesC r0) :: Cr c code i' h' :: L) → Gd G (KH (r0x) H')) : Gd G (evalFn E0 (n + 3) β 68 [.ptr c 0, .sc (.int .i64 k)] H fun x H => KH x H) := by
 rw [f68_eq, f68]
 try simp only [PR_box, PR_new, PR_newSl, PR_fadr, PR_load, PR_store, PR_bin, PR_binB, PR_binA, PR_un, PR_cond, PR_guard, PR_pick, PR_len, PR_lenS, PR_iadr, PR_idx, PR_slice, PR_sliceS, PR_fill, PR_make, PR_app, PR_appS, PR_cvI, PR_cvSS, PR_cvBS, PR_cvSB, PR_extr, PR_nil, PR_clear, PR_fld, PR_apart, PR_same]
 have lp1 : ∀ (j m : Nat) (z : Int) (a2 : ByteArray) (a2x : AV) (i : Nat) (h : Int) (H : Heap), j < m → 0 ≤ z ∧ z + ((j : Nat) : Int) = max (k) 0 → isLeaf a2x = true → (a2.size = (z : Int).toNat) → Sep H (.own a2x 23 (bytesC a2) :: Cr c code i h :: L) → Gd G (f68_l0 (PR ((n + 2)) β) ((n + 2)) (fun x H => KH x H) m (.ptr c 0) (.sc (.int .i64 k)) (a2x) (.sc (.int .i64 z)) H) := by
  clear s0
  intro j
  induction j with
  | zero =>
   intro m0 z a2 a2x i h H hm hz la2x hinv s0
   obtain ⟨m, rfl⟩ : ∃ m, m0 = m + 1 := ⟨m0 - 1, by omega⟩
   rw [f68_l0]
   try simp only [PR_box, PR_new, PR_newSl, PR_fadr, PR_load, PR_store, PR_bin, PR_binB, PR_binA, PR_un, PR_cond, PR_guard, PR_pick, PR_len, PR_lenS, PR_iadr, PR_idx, PR_slice, PR_sliceS, PR_fill, PR_make, PR_app, PR_appS, PR_cvI, PR_cvSS, PR_cvBS, PR_cvSB, PR_extr, PR_nil, PR_clear, PR_fld, PR_apart, PR_same]
   refine g_lss ?_
   refine g_cF (decide_eq_false (by omega)) ?_
   have e2 : a2.size ≤ k.toNat := by
    first | omega | (simp only [pushB_size, empty_size]; omega) | (simp; omega)
   exact hk a2 a2x i h _ la2x e2 (s0.sel (.cons (.here) (.cons (.here) .rest)))
  | succ j ih =>
   intro m0 z a2 a2x i h H hm hz la2x hinv s0
   obtain ⟨m, rfl⟩ : ∃ m, m0 = m + 1 := ⟨m0 - 1, by omega⟩
   rw [f68_l0]
   try simp only [PR_box, PR_new, PR_newSl, PR_fadr, PR_load, PR_store, PR_bin, PR_binB, PR_binA, PR_un, PR_cond, PR_guard, PR_pick, PR_len, PR_lenS, PR_iadr, PR_idx, PR_slice, PR_sliceS, PR_fill, PR_make, PR_app, PR_appS, PR_cvI, PR_cvSS, PR_cvBS, PR_cvSB, PR_extr, PR_nil, PR_clear, PR_fld, PR_apart, PR_same]
   refine g_lss ?_
   refine g_cT (decide_eq_true (by omega)) ?_
   refine byteK hcode s0 (.there (.here)) fun z3 iq4 hq4 H hz3 sq4 => ?_
   refine g_cvI (u8_small (by omega) (by omega)) ?_
   refine g_fill (cs := [.sc (.int .u8 z3)]) rfl ?_
   refine g_newSl sq4 fun i5 H s6 => ?_
   refine g_appB1 s6 (.there (.there (.here))) (.here) ⟨_, _, rfl, rfl, rfl, rfl⟩ rfl (by first | omega | (simp only [List.length_map]; omega)) fun x7 H lx7 s8 => ?_
   refine g_add (by omega) (by omega) ?_
   have e9 : (pushB a2 z3).size = ((z + 1) : Int).toNat := by
    simp only [pushB_size, empty_size]; omega
   exact ih m _ (pushB a2 z3) x7 iq4 hq4 _ (by omega) (by omega) lx7 e9 (s8.sel (.cons (.here) (.cons (.here) .rest)))
 have s10 := s0.nl (ty := 23) ⟨_, _, rfl, rfl⟩
 have e11 : (⟨#[]⟩ : ByteArray).size = (0 : Int).toNat := by
  simp only [pushB_size, empty_size]; omega
 exact lp1 (max (k) 0 - 0).toNat _ _ (⟨#[]⟩ : ByteArray) .nl i h _ (by omega) (by omega) rfl e11 (s10.sel (.cons (.here) (.cons (.here) .rest)))
theorem l12DrawK (n : Nat) (hn : 1048576 < n) (code : ByteArray) (hcode : code.size ≤ 1048576) (c i : Nat) (h : Int)   {β : Type} {G : Option β → Prop} {KH : AV → Heap → Option β} {H : Heap} {L : List Ck} (s0 : Sep H (Cr c code i h :: L)) (hk : ∀ (r0 : MsgV) (r0x1 : AV) (i' : Nat) (h' : Int) (H' : Heap), (isLeaf r0x1 = true) → (okMsg r0 ∧ wtMsg r0 ≤ 9) → Sep H' (.own r0x1 23 (bytesC r0.fBody) :: Cr c code i' h' :: L) → Gd G (KH (.agg [.sc (.string r0.fTopic), r0x1, .sc (.int .i64 r0.fQos), .sc (.bool r0.fRetain)]) H')) : Gd G (evalFn E0 (n + 7) β 65 [.ptr c 0] H fun x H => KH x H) := by
 rw [f65_eq, f65]
 try simp only [PR_box, PR_new, PR_newSl, PR_fadr, PR_load, PR_store, PR_bin, PR_binB, PR_binA, PR_un, PR_cond, PR_guard, PR_pick, PR_len, PR_lenS, PR_iadr, PR_idx, PR_slice, PR_sliceS, PR_fill, PR_make, PR_app, PR_appS, PR_cvI, PR_cvSS, PR_cvBS, PR_cvSB, PR_extr, PR_nil, PR_clear, PR_fld, PR_apart, PR_same]
 refine g_new s0 fun i1 H s2 => ?_
 refine g_hm rfl rfl ?_
 refine l3TopicK _ (by omega) code hcode c i h   (s2.pick (.there (.here))) fun r3 iq4 hq4 H hr3 sq4 => ?_
 refine belowK (m := 3) hcode (by omega) sq4 (.here) fun z5 iq6 hq6 H hz5 sq6 => ?_
 replace hz5 : 0 ≤ z5 ∧ z5 < 3 := by omega
 refine g_hm rfl rfl ?_
 refine l1BytesK _ (by omega) code hcode c iq6 hq6 z5 (by omega) (sq6.pick (.here)) fun r7 r7x iq8 hq8 H lr7x hr7 sq8 => ?_
 refine belowK (m := 3) hcode (by omega) sq8 (.there (.here)) fun z9 iq10 hq10 H hz9 sq10 => ?_
 replace hz9 : 0 ≤ z9 ∧ z9 < 3 := by omega
 refine onceK hcode (by omega) sq10 (.here) fun b11 iq12 hq12 H sq12 => ?_
 refine g_fill (cs := [.sc (.string r3), r7x, .sc (.int .i64 z9), .sc (.bool b11)]) (fill_c (z' := [.sc (.string r3), .nl, .sc (.int .i64 0), .sc (.bool false)]) (cells_leaf rfl) rfl (Nat.le_of_ble_eq_true rfl) rfl (fill_c (z' := [.sc (.string r3), r7x, .sc (.int .i64 0), .sc (.bool false)]) (cells_leaf lr7x) rfl (Nat.le_of_ble_eq_true rfl) rfl (fill_c (z' := [.sc (.string r3), r7x, .sc (.int .i64 z9), .sc (.bool false)]) (cells_leaf rfl) rfl (Nat.le_of_ble_eq_true rfl) rfl (fill_c (z' := [.sc (.string r3), r7x, .sc (.int .i64 z9), .sc (.bool b11)]) (cells_leaf rfl) rfl (Nat.le_of_ble_eq_true rfl) rfl (rfl))))) ?_
 refine g_st (cs' := [.sc (.string r3), r7x, .sc (.int .i64 z9), .sc (.bool b11)]) sq12 (.there (.there (.here))) (cells_agg (lf_c rfl (lf_c lr7x (lf_c rfl (lf_c rfl rfl))))) rfl (Nat.le_of_ble_eq_true rfl) rfl fun H s13 => ?_
 refine g_ldW s13 (.here) rfl ?_
 have e14 : okMsg (⟨r3, r7, z9, b11⟩ : MsgV) ∧ wtMsg (⟨r3, r7, z9, b11⟩ : MsgV) ≤ 9 := by
  simp only [okMsg, wtMsg, okS, okI, and_true, true_and, empty_size]; first | omega | ((repeat' apply And.intro) <;> first | trivial | omega | assumption | (intro y hy; cases hy; done))
 exact hk (⟨r3, r7, z9, b11⟩ : MsgV) r7x iq12 hq12 _ lr7x e14 (s13.sel (.cons (.there (.there (.here))) (.cons (.there (.here)) (.skip .rest))))
theorem l12QueueK (n : Nat) (hn : 1048576 < n) (code : ByteArray) (hcode : code.size ≤ 1048576) (c i : Nat) (h : Int) (most : Int) (hm0 : 0 ≤ most ∧ most ≤ 8) {β : Type} {G : Option β → Prop} {KH : AV → Heap → Option β} {H : Heap} {L : List Ck} (s0 : Sep H (Cr c code i h :: L)) (hk : ∀ (r0 : List MsgV) (r0x : AV) (i' : Nat) (h' : Int) (H' : Heap), (isLeaf r0x = true) → ((∀ y ∈ r0, okMsg y) ∧ wtL wtMsg r0 ≤ 80) → Sep H' (.own r0x 37 (rowsC encMsg r0) :: Cr c code i' h' :: L) → Gd G (KH (r0x) H')) : Gd G (evalFn E0 (n + 9) β 63 [.ptr c 0, .sc (.int .i64 most)] H fun x H => KH x H) := by
 rw [f63_eq, f63]
 try simp only [PR_box, PR_new, PR_newSl, PR_fadr, PR_load, PR_store, PR_bin, PR_binB, PR_binA, PR_un, PR_cond, PR_guard, PR_pick, PR_len, PR_lenS, PR_iadr, PR_idx, PR_slice, PR_sliceS, PR_fill, PR_make, PR_app, PR_appS, PR_cvI, PR_cvSS, PR_cvBS, PR_cvSB, PR_extr, PR_nil, PR_clear, PR_fld, PR_apart, PR_same]
 refine g_add (by omega) (by omega) ?_
 refine belowK (m := (most + 1)) hcode (by omega) s0 (.here) fun z1 iq2 hq2 H hz1 sq2 => ?_
 have lp3 : ∀ (j m : Nat) (z : Int) (a1 : List MsgV) (a1x : AV) (i : Nat) (h : Int) (H : Heap), j < m → z = ((j : Nat) : Int) → isLeaf a1x = true → ((∀ y ∈ a1, okMsg y) ∧ wtL wtMsg a1 + 10 * j ≤ 80) → Sep H (.own a1x 37 (rowsC encMsg a1) :: Cr c code i h :: L) → Gd G (f63_l0 (PR ((n + 8)) β) ((n + 8)) (fun x H => KH x H) m (.ptr c 0) (a1x) (.sc (.int .i64 z)) H) := by
  clear s0 sq2
  intro j
  induction j with
  | zero =>
   intro m0 z a1 a1x i h H hm hz la1x hinv s0
   obtain ⟨m, rfl⟩ : ∃ m, m0 = m + 1 := ⟨m0 - 1, by omega⟩
   obtain ⟨hv1, hv2⟩ := hinv
   have hinv := And.intro hv1 hv2
   have ga1 := wtL_ge wtMsg a1
   rw [f63_l0]
   try simp only [PR_box, PR_new, PR_newSl, PR_fadr, PR_load, PR_store, PR_bin, PR_binB, PR_binA, PR_un, PR_cond, PR_guard, PR_pick, PR_len, PR_lenS, PR_iadr, PR_idx, PR_slice, PR_sliceS, PR_fill, PR_make, PR_app, PR_appS, PR_cvI, PR_cvSS, PR_cvBS, PR_cvSB, PR_extr, PR_nil, PR_clear, PR_fld, PR_apart, PR_same]
   refine g_gtr ?_
   refine g_cF (decide_eq_false (by omega)) ?_
   have e4 : (∀ y ∈ a1, okMsg y) ∧ wtL wtMsg a1 ≤ 80 := by
    first | exact ⟨by assumption, by omega⟩ | exact ⟨by simp, by simp [wtL_nil]⟩ | exact ⟨all_app1 (by assumption) (by assumption), by rw [wtL_app1]; omega⟩
   exact hk a1 a1x i h _ la1x e4 (s0.sel (.cons (.here) (.cons (.here) .rest)))
  | succ j ih =>
   intro m0 z a1 a1x i h H hm hz la1x hinv s0
   obtain ⟨m, rfl⟩ : ∃ m, m0 = m + 1 := ⟨m0 - 1, by omega⟩
   obtain ⟨hv1, hv2⟩ := hinv
   have hinv := And.intro hv1 hv2
   have ga1 := wtL_ge wtMsg a1
   rw [f63_l0]
   try simp only [PR_box, PR_new, PR_newSl, PR_fadr, PR_load, PR_store, PR_bin, PR_binB, PR_binA, PR_un, PR_cond, PR_guard, PR_pick, PR_len, PR_lenS, PR_iadr, PR_idx, PR_slice, PR_sliceS, PR_fill, PR_make, PR_app, PR_appS, PR_cvI, PR_cvSS, PR_cvBS, PR_cvSB, PR_extr, PR_nil, PR_clear, PR_fld, PR_apart, PR_same]
   refine g_gtr ?_
   refine g_cT (decide_eq_true (by omega)) ?_
   refine g_hm rfl rfl ?_
   refine l12DrawK _ (by omega) code hcode c i h   (s0.pick (.there (.here))) fun r5 r5x1 iq6 hq6 H lr5x1 hr5 sq6 => ?_
   obtain ⟨or5, wr5⟩ := hr5
   have ur5 := or5
   have vr5 := wr5
   simp only [okMsg, wtMsg, okS, okI, and_true, true_and] at ur5 vr5
   refine g_fill (cs := [.sc (.string r5.fTopic), r5x1, .sc (.int .i64 r5.fQos), .sc (.bool r5.fRetain)]) (fill_c (z' := [.sc (.string r5.fTopic), r5x1, .sc (.int .i64 r5.fQos), .sc (.bool r5.fRetain)]) (cells_agg (lf_c rfl (lf_c lr5x1 (lf_c rfl (lf_c rfl rfl))))) rfl (Nat.le_of_ble_eq_true rfl) rfl (rfl)) ?_
   refine g_newSl sq6 fun i7 H s8 => ?_
   refine g_appR (cty := [9, 23, 3, 4]) (e := (r5 : MsgV)) s8 ⟨_, _, rfl, rfl, rfl, rfl⟩ (.there (.there (.there (.here)))) (.here) rfl (lf_c rfl (lf_c lr5x1 (lf_c rfl (lf_c rfl rfl)))) (.sc (.own (.here) (.sc (.sc .nil)))) ⟨trivial, ⟨(okB5 r5.fBody), ⟨trivial, ⟨trivial, trivial⟩⟩⟩⟩ rfl (by omega) fun x9 H lx9 s10 => ?_
   refine g_sub (by omega) (by omega) ?_
   have e11 : (∀ y ∈ (a1 ++ [r5]), okMsg y) ∧ wtL wtMsg (a1 ++ [r5]) + 10 * j ≤ 80 := by
    first | omega | exact ⟨fun y hy => (by cases hy), by simp only [wtL_nil]; omega⟩ | exact ⟨all_app1 hinv.1 (by assumption), by have h0 := hinv.2; rw [wtL_app1]; omega⟩ | (simp only [pushB_size, empty_size] at *; omega) | (simp only [okS, okI, wtL_nil, wtL_app1, List.length_nil, List.length_append, List.length_singleton, List.not_mem_nil, false_implies, implies_true, and_true, true_and] at *; first | omega | (refine ⟨?_, ?_⟩ <;> first | omega | assumption))
   exact ih m _ (a1 ++ [r5]) x9 iq6 hq6 _ (by omega) (by omega) lx9 e11 (s10.sel (.cons (.here) (.cons (.here) .rest)))
 have s12 := sq2.nl (ty := 37) ⟨_, _, rfl, rfl⟩
 have e13 : (∀ y ∈ ([] : List MsgV), okMsg y) ∧ wtL wtMsg ([] : List MsgV) + 10 * (z1).toNat ≤ 80 := by
  first | omega | exact ⟨fun y hy => (by cases hy), by simp only [wtL_nil]; omega⟩ | exact ⟨all_app1 hinv.1 (by assumption), by have h0 := hinv.2; rw [wtL_app1]; omega⟩ | (simp only [pushB_size, empty_size] at *; omega) | (simp only [okS, okI, wtL_nil, wtL_app1, List.length_nil, List.length_append, List.length_singleton, List.not_mem_nil, false_implies, implies_true, and_true, true_and] at *; first | omega | (refine ⟨?_, ?_⟩ <;> first | omega | assumption))
 exact lp3 (z1).toNat _ _ ([] : List MsgV) .nl iq2 hq2 _ (by omega) (by omega) rfl e13 (s12.sel (.cons (.here) (.cons (.here) .rest)))
theorem l3FilterK (n : Nat) (hn : 1048576 < n) (code : ByteArray) (hcode : code.size ≤ 1048576) (c i : Nat) (h : Int)   {β : Type} {G : Option β → Prop} {KH : AV → Heap → Option β} {H : Heap} {L : List Ck} (s0 : Sep H (Cr c code i h :: L)) (hk : ∀ (r0 : ByteArray) (i' : Nat) (h' : Int) (H' : Heap), (r0.size ≤ 7) → Sep H' (Cr c code i' h' :: L) → Gd G (KH (.sc (.string r0)) H')) : Gd G (evalFn E0 (n + 6) β 87 [.ptr c 0] H fun x H => KH x H) := by
 rw [f87_eq, f87]
 try simp only [PR_box, PR_new, PR_newSl, PR_fadr, PR_load, PR_store, PR_bin, PR_binB, PR_binA, PR_un, PR_cond, PR_guard, PR_pick, PR_len, PR_lenS, PR_iadr, PR_idx, PR_slice, PR_sliceS, PR_fill, PR_make, PR_app, PR_appS, PR_cvI, PR_cvSS, PR_cvBS, PR_cvSB, PR_extr, PR_nil, PR_clear, PR_fld, PR_apart, PR_same]
 refine onceK hcode (by omega) s0 (.here) fun b1 iq2 hq2 H sq2 => ?_
 refine w_split (b1) (fun h3 => ?_) (fun h3 => ?_)
 ·refine g_cT h3 ?_
  refine g_hm rfl rfl ?_
  refine l3TopicK _ (by omega) code hcode c iq2 hq2   (sq2.pick (.here)) fun r4 iq5 hq5 H hr4 sq5 => ?_
  have e6 : r4.size ≤ 7 := by
   first | omega | (simp only [pushB_size, empty_size]; omega) | (simp; omega)
  exact hk r4 iq5 hq5 _ e6 (sq5.sel (.cons (.here) .rest))
 ·refine g_cF h3 ?_
  refine g_fill (cs := [.sc (.string (⟨#[35]⟩)), .sc (.string (⟨#[43]⟩)), .sc (.string (⟨#[97, 47, 35]⟩)), .sc (.string (⟨#[97, 47, 43]⟩)), .sc (.string (⟨#[43, 47, 98]⟩)), .sc (.string (⟨#[43, 47, 43]⟩)), .sc (.string (⟨#[97, 47, 43, 47, 99]⟩)), .sc (.string (⟨#[97, 47, 98, 47, 35]⟩)), .sc (.string (⟨#[36, 115, 47, 35]⟩)), .sc (.string (⟨#[36, 115, 47, 43]⟩)), .sc (.string (⟨#[43, 47, 35]⟩)), .sc (.string (⟨#[47, 43]⟩)), .sc (.string (⟨#[47, 35]⟩)), .sc (.string (⟨#[97, 47, 43, 47, 35]⟩)), .sc (.string (⟨#[98, 47, 35]⟩)), .sc (.string (⟨#[43, 47, 98, 47, 43]⟩))]) rfl ?_
  refine g_newSl sq2 fun i7 H s8 => ?_
  refine strK hcode (by omega) (by omega) rfl s8 (.there (.here)) (.here) fun z9a iq10 hq10 H mz9 sq10 => ?_
  have s11 := (sq10.pick (.there (.here))).tail
  obtain ⟨z9, rfl, hz9⟩ := mem_strs (l := [⟨#[35]⟩, ⟨#[43]⟩, ⟨#[97, 47, 35]⟩, ⟨#[97, 47, 43]⟩, ⟨#[43, 47, 98]⟩, ⟨#[43, 47, 43]⟩, ⟨#[97, 47, 43, 47, 99]⟩, ⟨#[97, 47, 98, 47, 35]⟩, ⟨#[36, 115, 47, 35]⟩, ⟨#[36, 115, 47, 43]⟩, ⟨#[43, 47, 35]⟩, ⟨#[47, 43]⟩, ⟨#[47, 35]⟩, ⟨#[97, 47, 43, 47, 35]⟩, ⟨#[98, 47, 35]⟩, ⟨#[43, 47, 98, 47, 43]⟩]) (m := 5) mz9 (by decide)
  have e12 : z9.size ≤ 7 := by
   first | omega | (simp only [pushB_size, empty_size]; omega) | (simp; omega)
  exact hk z9 iq10 hq10 _ e12 (s11.sel (.cons (.here) .rest))
theorem l3AnyK (n : Nat) (hn : 1048576 < n) (code : ByteArray) (hcode : code.size ≤ 1048576) (c i : Nat) (h : Int)   {β : Type} {G : Option β → Prop} {KH : AV → Heap → Option β} {H : Heap} {L : List Ck} (s0 : Sep H (Cr c code i h :: L)) (hk : ∀ (r0 : ByteArray) (i' : Nat) (h' : Int) (H' : Heap), (r0.size ≤ 61) → Sep H' (Cr c code i' h' :: L) → Gd G (KH (.sc (.string r0)) H')) : Gd G (evalFn E0 (n + 7) β 67 [.ptr c 0] H fun x H => KH x H) := by
 rw [f67_eq, f67]
 try simp only [PR_box, PR_new, PR_newSl, PR_fadr, PR_load, PR_store, PR_bin, PR_binB, PR_binA, PR_un, PR_cond, PR_guard, PR_pick, PR_len, PR_lenS, PR_iadr, PR_idx, PR_slice, PR_sliceS, PR_fill, PR_make, PR_app, PR_appS, PR_cvI, PR_cvSS, PR_cvBS, PR_cvSB, PR_extr, PR_nil, PR_clear, PR_fld, PR_apart, PR_same]
 refine belowK (m := 3) hcode (by omega) s0 (.here) fun z1 iq2 hq2 H hz1 sq2 => ?_
 replace hz1 : 0 ≤ z1 ∧ z1 < 3 := by omega
 refine g_eql ?_
 refine w_split ((decide (z1 = 0))) (fun h3 => ?_) (fun h3 => ?_)
 ·refine g_cT h3 ?_
  refine g_hm rfl rfl ?_
  refine l3TopicK _ (by omega) code hcode c iq2 hq2   (sq2.pick (.here)) fun r4 iq5 hq5 H hr4 sq5 => ?_
  have e6 : r4.size ≤ 61 := by
   first | omega | (simp only [pushB_size, empty_size]; omega) | (simp; omega)
  exact hk r4 iq5 hq5 _ e6 (sq5.sel (.cons (.here) .rest))
 ·refine g_cF h3 ?_
  refine g_eql ?_
  refine w_split ((decide (z1 = 1))) (fun h7 => ?_) (fun h7 => ?_)
  ·refine g_cT h7 ?_
   refine g_hm rfl rfl ?_
   refine l3FilterK _ (by omega) code hcode c iq2 hq2   (sq2.pick (.here)) fun r8 iq9 hq9 H hr8 sq9 => ?_
   have e10 : r8.size ≤ 61 := by
    first | omega | (simp only [pushB_size, empty_size]; omega) | (simp; omega)
   exact hk r8 iq9 hq9 _ e10 (sq9.sel (.cons (.here) .rest))
  ·refine g_cF h7 ?_
   refine g_fill (cs := [.sc (.string (⟨#[]⟩)), .sc (.string (⟨#[97, 43]⟩)), .sc (.string (⟨#[97, 47, 98, 43]⟩)), .sc (.string (⟨#[43, 97]⟩)), .sc (.string (⟨#[35, 47, 97]⟩)), .sc (.string (⟨#[97, 35]⟩)), .sc (.string (⟨#[97, 47, 35, 47, 98]⟩)), .sc (.string (⟨#[35, 35]⟩)), .sc (.string (⟨#[43, 43]⟩)), .sc (.string (⟨#[97, 47, 98, 47, 99, 47, 100, 47, 101, 47, 102]⟩)), .sc (.string (⟨#[97, 47, 98, 47, 99, 47, 100, 47, 101, 47, 102, 47, 103]⟩)), .sc (.string (⟨#[47, 47, 47, 47, 47]⟩)), .sc (.string (⟨#[47, 47, 47, 47, 47, 47]⟩)), .sc (.string (⟨#[0]⟩)), .sc (.string (⟨#[255]⟩)), .sc (.string (⟨#[49, 50, 51, 52, 53, 54, 55, 56, 57, 48, 49, 50, 51, 52, 53, 54, 55, 56, 57, 48, 49, 50, 51, 52, 53, 54, 55, 56, 57, 48, 49, 50, 51, 52, 53, 54, 55, 56, 57, 48, 49, 50, 51, 52, 53, 54, 55, 56, 57, 48, 49, 50, 51, 52, 53, 54, 55, 56, 57, 48, 49]⟩))]) rfl ?_
   refine g_newSl sq2 fun i11 H s12 => ?_
   refine strK hcode (by omega) (by omega) rfl s12 (.there (.here)) (.here) fun z13a iq14 hq14 H mz13 sq14 => ?_
   have s15 := (sq14.pick (.there (.here))).tail
   obtain ⟨z13, rfl, hz13⟩ := mem_strs (l := [⟨#[]⟩, ⟨#[97, 43]⟩, ⟨#[97, 47, 98, 43]⟩, ⟨#[43, 97]⟩, ⟨#[35, 47, 97]⟩, ⟨#[97, 35]⟩, ⟨#[97, 47, 35, 47, 98]⟩, ⟨#[35, 35]⟩, ⟨#[43, 43]⟩, ⟨#[97, 47, 98, 47, 99, 47, 100, 47, 101, 47, 102]⟩, ⟨#[97, 47, 98, 47, 99, 47, 100, 47, 101, 47, 102, 47, 103]⟩, ⟨#[47, 47, 47, 47, 47]⟩, ⟨#[47, 47, 47, 47, 47, 47]⟩, ⟨#[0]⟩, ⟨#[255]⟩, ⟨#[49, 50, 51, 52, 53, 54, 55, 56, 57, 48, 49, 50, 51, 52, 53, 54, 55, 56, 57, 48, 49, 50, 51, 52, 53, 54, 55, 56, 57, 48, 49, 50, 51, 52, 53, 54, 55, 56, 57, 48, 49, 50, 51, 52, 53, 54, 55, 56, 57, 48, 49, 50, 51, 52, 53, 54, 55, 56, 57, 48, 49]⟩]) (m := 61) mz13 (by decide)
   have e16 : z13.size ≤ 61 := by
    first | omega | (simp only [pushB_size, empty_size]; omega) | (simp; omega)
   exact hk z13 iq14 hq14 _ e16 (s15.sel (.cons (.here) .rest))
theorem l12AnyK (n : Nat) (hn : 1048576 < n) (code : ByteArray) (hcode : code.size ≤ 1048576) (c i : Nat) (h : Int)   {β : Type} {G : Option β → Prop} {KH : AV → Heap → Option β} {H : Heap} {L : List Ck} (s0 : Sep H (Cr c code i h :: L)) (hk : ∀ (r0 : MsgV) (r0x1 : AV) (i' : Nat) (h' : Int) (H' : Heap), (isLeaf r0x1 = true) → (okMsg r0 ∧ wtMsg r0 ≤ 102) → Sep H' (.own r0x1 23 (bytesC r0.fBody) :: Cr c code i' h' :: L) → Gd G (KH (.agg [.sc (.string r0.fTopic), r0x1, .sc (.int .i64 r0.fQos), .sc (.bool r0.fRetain)]) H')) : Gd G (evalFn E0 (n + 9) β 44 [.ptr c 0] H fun x H => KH x H) := by
 rw [f44_eq, f44]
 try simp only [PR_box, PR_new, PR_newSl, PR_fadr, PR_load, PR_store, PR_bin, PR_binB, PR_binA, PR_un, PR_cond, PR_guard, PR_pick, PR_len, PR_lenS, PR_iadr, PR_idx, PR_slice, PR_sliceS, PR_fill, PR_make, PR_app, PR_appS, PR_cvI, PR_cvSS, PR_cvBS, PR_cvSB, PR_extr, PR_nil, PR_clear, PR_fld, PR_apart, PR_same]
 refine g_new s0 fun i1 H s2 => ?_
 refine g_hm rfl rfl ?_
 refine l12DrawK _ (by omega) code hcode c i h   (s2.pick (.there (.here))) fun r3 r3x1 iq4 hq4 H lr3x1 hr3 sq4 => ?_
 obtain ⟨or3, wr3⟩ := hr3
 have ur3 := or3
 have vr3 := wr3
 simp only [okMsg, wtMsg, okS, okI, and_true, true_and] at ur3 vr3
 refine g_new sq4 fun i5 H s6 => ?_
 refine g_st (cs' := [.sc (.string r3.fTopic), r3x1, .sc (.int .i64 r3.fQos), .sc (.bool r3.fRetain)]) s6 (.here) (cells_agg (lf_c rfl (lf_c lr3x1 (lf_c rfl (lf_c rfl rfl))))) rfl (Nat.le_of_ble_eq_true rfl) rfl fun H s7 => ?_
 refine belowK (m := 12) hcode (by omega) s7 (.there (.there (.here))) fun z8 iq9 hq9 H hz8 sq9 => ?_
 replace hz8 : 0 ≤ z8 ∧ z8 < 12 := by omega
 refine g_eql ?_
 refine w_split ((decide (z8 = 0))) (fun h10 => ?_) (fun h10 => ?_)
 ·refine g_cT h10 ?_
  refine g_hm rfl rfl ?_
  refine l3AnyK _ (by omega) code hcode c iq9 hq9   (sq9.pick (.here)) fun r11 iq12 hq12 H hr11 sq12 => ?_
  refine g_fadr (o' := 0) rfl ?_
  refine g_st (cs' := [.sc (.string r11), r3x1, .sc (.int .i64 r3.fQos), .sc (.bool r3.fRetain)]) sq12 (.there (.here)) (cells_leaf rfl) rfl (Nat.le_of_ble_eq_true rfl) rfl fun H s13 => ?_
  refine g_ldW s13 (.here) rfl ?_
  refine g_st (cs' := [.sc (.string r11), r3x1, .sc (.int .i64 r3.fQos), .sc (.bool r3.fRetain)]) s13 (.there (.there (.there (.here)))) (cells_agg (lf_c rfl (lf_c lr3x1 (lf_c rfl (lf_c rfl rfl))))) rfl (Nat.le_of_ble_eq_true rfl) rfl fun H s14 => ?_
  refine g_ldW s14 (.here) rfl ?_
  have e15 : okMsg (⟨r11, r3.fBody, r3.fQos, r3.fRetain⟩ : MsgV) ∧ wtMsg (⟨r11, r3.fBody, r3.fQos, r3.fRetain⟩ : MsgV) ≤ 102 := by
   simp only [okMsg, wtMsg, okS, okI, and_true, true_and, empty_size]; first | omega | ((repeat' apply And.intro) <;> first | trivial | omega | assumption | (intro y hy; cases hy; done))
  exact hk (⟨r11, r3.fBody, r3.fQos, r3.fRetain⟩ : MsgV) r3x1 iq12 hq12 _ lr3x1 e15 (s14.sel (.cons (.there (.there (.there (.here)))) (.cons (.there (.there (.here))) (.skip (.skip .rest)))))
 ·refine g_cF h10 ?_
  refine g_eql ?_
  refine w_split ((decide (z8 = 1))) (fun h16 => ?_) (fun h16 => ?_)
  ·refine g_cT h16 ?_
   refine g_fill (cs := [.sc (.int .i64 40), .sc (.int .i64 41)]) rfl ?_
   refine g_newSl sq9 fun i17 H s18 => ?_
   refine intK hcode (by omega) (by omega) rfl s18 (.there (.here)) (.here) fun z19a iq20 hq20 H mz19 sq20 => ?_
   have s21 := (sq20.pick (.there (.here))).tail
   obtain ⟨z19, rfl, hz19⟩ := mem_ints (l := [40, 41]) (lo := 40) (hi := 41) mz19 (by decide)
   refine g_hm rfl rfl ?_
   refine l1BytesK _ (by omega) code hcode c iq20 hq20 z19 (by omega) (s21.pick (.here)) fun r22 r22x iq23 hq23 H lr22x hr22 sq23 => ?_
   refine g_fadr (o' := 1) rfl ?_
   refine g_st (cs' := [.sc (.string r3.fTopic), r22x, .sc (.int .i64 r3.fQos), .sc (.bool r3.fRetain)]) sq23 (.there (.there (.here))) (cells_leaf lr22x) rfl (Nat.le_of_ble_eq_true rfl) rfl fun H s24 => ?_
   refine g_ldW s24 (.here) rfl ?_
   refine g_st (cs' := [.sc (.string r3.fTopic), r22x, .sc (.int .i64 r3.fQos), .sc (.bool r3.fRetain)]) s24 (.there (.there (.there (.there (.here))))) (cells_agg (lf_c rfl (lf_c lr22x (lf_c rfl (lf_c rfl rfl))))) rfl (Nat.le_of_ble_eq_true rfl) rfl fun H s25 => ?_
   refine g_ldW s25 (.here) rfl ?_
   have e26 : okMsg (⟨r3.fTopic, r22, r3.fQos, r3.fRetain⟩ : MsgV) ∧ wtMsg (⟨r3.fTopic, r22, r3.fQos, r3.fRetain⟩ : MsgV) ≤ 102 := by
    simp only [okMsg, wtMsg, okS, okI, and_true, true_and, empty_size]; first | omega | ((repeat' apply And.intro) <;> first | trivial | omega | assumption | (intro y hy; cases hy; done))
   exact hk (⟨r3.fTopic, r22, r3.fQos, r3.fRetain⟩ : MsgV) r22x iq23 hq23 _ lr22x e26 (s25.sel (.cons (.there (.there (.here))) (.cons (.there (.there (.here))) (.skip (.skip (.skip .rest))))))
  ·refine g_cF h16 ?_
   refine g_eql ?_
   refine w_split ((decide (z8 = 2))) (fun h27 => ?_) (fun h27 => ?_)
   ·refine g_cT h27 ?_
    refine g_fill (cs := [.sc (.int .i64 (-1)), .sc (.int .i64 3)]) rfl ?_
    refine g_newSl sq9 fun i28 H s29 => ?_
    refine intK hcode (by omega) (by omega) rfl s29 (.there (.here)) (.here) fun z30a iq31 hq31 H mz30 sq31 => ?_
    have s32 := (sq31.pick (.there (.here))).tail
    obtain ⟨z30, rfl, hz30⟩ := mem_ints (l := [(-1), 3]) (lo := -1) (hi := 3) mz30 (by decide)
    refine g_fadr (o' := 2) rfl ?_
    refine g_st (cs' := [.sc (.string r3.fTopic), r3x1, .sc (.int .i64 z30), .sc (.bool r3.fRetain)]) s32 (.there (.here)) (cells_leaf rfl) rfl (Nat.le_of_ble_eq_true rfl) rfl fun H s33 => ?_
    refine g_ldW s33 (.here) rfl ?_
    refine g_st (cs' := [.sc (.string r3.fTopic), r3x1, .sc (.int .i64 z30), .sc (.bool r3.fRetain)]) s33 (.there (.there (.there (.here)))) (cells_agg (lf_c rfl (lf_c lr3x1 (lf_c rfl (lf_c rfl rfl))))) rfl (Nat.le_of_ble_eq_true rfl) rfl fun H s34 => ?_
    refine g_ldW s34 (.here) rfl ?_
    have e35 : okMsg (⟨r3.fTopic, r3.fBody, z30, r3.fRetain⟩ : MsgV) ∧ wtMsg (⟨r3.fTopic, r3.fBody, z30, r3.fRetain⟩ : MsgV) ≤ 102 := by
     simp only [okMsg, wtMsg, okS, okI, and_true, true_and, empty_size]; first | omega | ((repeat' apply And.intro) <;> first | trivial | omega | assumption | (intro y hy; cases hy; done))
    exact hk (⟨r3.fTopic, r3.fBody, z30, r3.fRetain⟩ : MsgV) r3x1 iq31 hq31 _ lr3x1 e35 (s34.sel (.cons (.there (.there (.there (.here)))) (.cons (.there (.there (.here))) (.skip (.skip .rest)))))
   ·refine g_cF h27 ?_
    refine g_ldW sq9 (.there (.here)) rfl ?_
    refine g_st (cs' := [.sc (.string r3.fTopic), r3x1, .sc (.int .i64 r3.fQos), .sc (.bool r3.fRetain)]) sq9 (.there (.there (.there (.here)))) (cells_agg (lf_c rfl (lf_c lr3x1 (lf_c rfl (lf_c rfl rfl))))) rfl (Nat.le_of_ble_eq_true rfl) rfl fun H s36 => ?_
    refine g_ldW s36 (.here) rfl ?_
    have e37 : okMsg (r3 : MsgV) ∧ wtMsg (r3 : MsgV) ≤ 102 := by
     simp only [okMsg, wtMsg, okS, okI, and_true, true_and, empty_size]; first | omega | ((repeat' apply And.intro) <;> first | trivial | omega | assumption | (intro y hy; cases hy; done))
    exact hk (r3 : MsgV) r3x1 iq9 hq9 _ lr3x1 e37 (s36.sel (.cons (.there (.there (.there (.here)))) (.cons (.there (.here)) (.skip (.skip .rest)))))
theorem l12LooseK (n : Nat) (hn : 1048576 < n) (code : ByteArray) (hcode : code.size ≤ 1048576) (c i : Nat) (h : Int)   {β : Type} {G : Option β → Prop} {KH : AV → Heap → Option β} {H : Heap} {L : List Ck} (s0 : Sep H (Cr c code i h :: L)) (hk : ∀ (r0 : List MsgV) (r0x : AV) (i' : Nat) (h' : Int) (H' : Heap), (isLeaf r0x = true) → ((∀ y ∈ r0, okMsg y) ∧ wtL wtMsg r0 ≤ 183) → Sep H' (.own r0x 37 (rowsC encMsg r0) :: Cr c code i' h' :: L) → Gd G (KH (r0x) H')) : Gd G (evalFn E0 (n + 10) β 43 [.ptr c 0] H fun x H => KH x H) := by
 rw [f43_eq, f43]
 try simp only [PR_box, PR_new, PR_newSl, PR_fadr, PR_load, PR_store, PR_bin, PR_binB, PR_binA, PR_un, PR_cond, PR_guard, PR_pick, PR_len, PR_lenS, PR_iadr, PR_idx, PR_slice, PR_sliceS, PR_fill, PR_make, PR_app, PR_appS, PR_cvI, PR_cvSS, PR_cvBS, PR_cvSB, PR_extr, PR_nil, PR_clear, PR_fld, PR_apart, PR_same]
 refine g_hm rfl rfl ?_
 refine l12QueueK _ (by omega) code hcode c i h 8 (by omega) (s0.pick (.here)) fun r1 r1x iq2 hq2 H lr1x hr1 sq2 => ?_
 obtain ⟨or1, wr1⟩ := hr1
 have gr1 := wtL_ge wtMsg r1
 refine onceK hcode (by omega) sq2 (.there (.here)) fun b3 iq4 hq4 H sq4 => ?_
 refine g_letJ ?_
 refine w_split (b3) (fun h5 => ?_) (fun h5 => ?_)
 ·refine g_cT h5 ?_
  refine g_hm rfl rfl ?_
  refine l12AnyK _ (by omega) code hcode c iq4 hq4   (sq4.pick (.here)) fun r6 r6x1 iq7 hq7 H lr6x1 hr6 sq7 => ?_
  obtain ⟨or6, wr6⟩ := hr6
  have ur6 := or6
  have vr6 := wr6
  simp only [okMsg, wtMsg, okS, okI, and_true, true_and] at ur6 vr6
  refine g_fill (cs := [.sc (.string r6.fTopic), r6x1, .sc (.int .i64 r6.fQos), .sc (.bool r6.fRetain)]) (fill_c (z' := [.sc (.string r6.fTopic), r6x1, .sc (.int .i64 r6.fQos), .sc (.bool r6.fRetain)]) (cells_agg (lf_c rfl (lf_c lr6x1 (lf_c rfl (lf_c rfl rfl))))) rfl (Nat.le_of_ble_eq_true rfl) rfl (rfl)) ?_
  refine g_newSl sq7 fun i8 H s9 => ?_
  refine g_appR (cty := [9, 23, 3, 4]) (e := (r6 : MsgV)) s9 ⟨_, _, rfl, rfl, rfl, rfl⟩ (.there (.there (.there (.here)))) (.here) rfl (lf_c rfl (lf_c lr6x1 (lf_c rfl (lf_c rfl rfl)))) (.sc (.own (.here) (.sc (.sc .nil)))) ⟨trivial, ⟨(okB5 r6.fBody), ⟨trivial, ⟨trivial, trivial⟩⟩⟩⟩ rfl (by omega) fun x10 H lx10 s11 => ?_
  have e12 : (∀ y ∈ (r1 ++ [r6]), okMsg y) ∧ wtL wtMsg (r1 ++ [r6]) ≤ 183 := by
   first | exact ⟨by assumption, by omega⟩ | exact ⟨by simp, by simp [wtL_nil]⟩ | exact ⟨all_app1 (by assumption) (by assumption), by rw [wtL_app1]; omega⟩
  exact hk (r1 ++ [r6]) x10 iq7 hq7 _ lx10 e12 (s11.sel (.cons (.here) (.cons (.here) .rest)))
 ·refine g_cF h5 ?_
  have e13 : (∀ y ∈ r1, okMsg y) ∧ wtL wtMsg r1 ≤ 183 := by
   first | exact ⟨by assumption, by omega⟩ | exact ⟨by simp, by simp [wtL_nil]⟩ | exact ⟨all_app1 (by assumption) (by assumption), by rw [wtL_app1]; omega⟩
  exact hk r1 r1x iq4 hq4 _ lr1x e13 (sq4.sel (.cons (.there (.here)) (.cons (.here) .rest)))
end Go.Proofs.YtejjggnchdldoaaDoor.Abs
set_option linter.unusedVariables false
set_option linter.unusedSimpArgs false
set_option maxRecDepth 100000
namespace Go.Proofs.YtejjggnchdldoaaDoor.Abs
open Go
variable {β : Type} {n : Nat} {r : Option β}
theorem app_bytes (s : ByteArray) (hs : s.size ≤ 140737488355328) (H : Heap) (K : AV → Heap → Option β) : pApp 1 1 .nl (bytesC s) H K = K (.sl H.length 0 s.size 1) (H ++ [⟨bytesAV s, true, true⟩]) := by
 have e1 : content H 1 (bytesC s) = some (bytesAV s) := by
  show (if (bytesAV s).length = s.size * 1 then some (bytesAV s) else none) = _
  rw [if_pos (by rw [bytesAV_len]; omega)]
 have e2 : content H 1 .nl = some [] := rfl
 have e3 : lenA (bytesC s) = some s.size := rfl
 simp only [pApp, lenA, e1, e2, kill, Option.bind_some, e3]
 rw [if_pos (by omega), if_pos (bytesAV_leaf s)]
 simp only [pNewSl, Nat.zero_add, List.nil_append]
theorem own_bytes {H : Heap} {id d : Nat} {s : ByteArray} (h : H[id]? = some ⟨bytesAV s, true, true⟩) : ownT ti0 E0.tp H (d + 2) 23 (.sl id 0 s.size 1) = some (bytesC s, [id]) := by
 rw [ownT_sl]
 have ha : isApp H id = true := by simp only [isApp, h]
 have hr : rdCells H id 0 (s.size * 1) = some (bytesAV s) := by
  have hl := bytesAV_len s
  simp only [rdCells, h, if_true, Nat.zero_add, Nat.mul_one, hl, Nat.le_refl, List.drop_zero]
  rw [← hl, List.take_length]
 obtain ⟨i, j, h1, h2, h3, h4⟩ := tyByteS
 simp only [h1, h2, Option.bind_some, h3, if_true, ha, hr]
 have ho := ownL_sc (ti := ti0) (tp := E0.tp) (H := H) (d := d) (List.replicate s.size j.cty).flatten (bv s) (by rw [bv_len]; simp [h4])
 rw [bytesAV_eq, ho, Option.bind_some, ← bytesAV_eq]
theorem joined1F (n : Nat) (hn : 1 < n) (s : ByteArray) (hs : s.size ≤ 1048576) : tree E0 (n + 1) 23 70 [.ro 1 [bytesC s]] = some (bytesC s) := by
 rw [tree_def, f70_eq, f70]
 simp only [PR_len]
 refine w_len ?_
 obtain ⟨m, rfl⟩ : ∃ m, n = m + 2 := ⟨n - 2, by omega⟩
 rw [f70_l0]
 simp only [PR_bin, PR_cond, PR_iadr, PR_load, PR_app]
 refine w_bin (v := .sc (.bool true)) (fun k => rfl) ?_
 refine w_cT rfl ?_
 have e1 : ∀ K : AV → Option AV, pIadr 1 (.ro 1 [bytesC s]) (.sc (.int .i64 0)) K = K (.rp [bytesC s]) := fun K => iadr_ro 1 1 [bytesC s] 0 K (by decide) (by simp)
 rw [e1, ld1_rp, app_bytes s (by omega)]
 refine w_bin (v := .sc (.int .i64 1)) (fun k => rfl) ?_
 rw [f70_l0]
 simp only [PR_bin, PR_cond]
 refine w_bin (v := .sc (.bool false)) (fun k => rfl) ?_
 refine w_cF rfl ?_
 rw [ownTree, own_bytes (d := 6) (s := s) rfl]
 rfl
theorem own_msg {H : Heap} {id d : Nat} {m : MsgV} (h : H[id]? = some ⟨bytesAV m.fBody, true, true⟩) : ownL (ownT ti0 E0.tp H (d + 2)) ctyMsg [.sc (.string m.fTopic), .sl id 0 m.fBody.size 1, .sc (.int .i64 m.fQos), .sc (.bool m.fRetain)] = some (encMsg m, [id]) := by
 have hb := own_bytes (d := d) h
 simp only [ctyMsg, ownL, ownT_sc, hb, Option.bind_some, List.nil_append, List.append_nil]
 rfl
theorem own_aggMsg {H : Heap} {id : Nat} {m : MsgV} (h : H[id]? = some ⟨bytesAV m.fBody, true, true⟩) : ownTree ti0 E0.tp 39 H (.agg [.sc (.string m.fTopic), .sl id 0 m.fBody.size 1, .sc (.int .i64 m.fQos), .sc (.bool m.fRetain)]) = some (.agg (encMsg m)) := by
 obtain ⟨i, hi, hc⟩ := tyMsg
 rw [ownTree, ownT_agg, hi, Option.bind_some, hc, own_msg (d := 5) h]
 rfl
end Go.Proofs.YtejjggnchdldoaaDoor.Abs
set_option linter.unusedVariables false
set_option linter.unusedSimpArgs false
set_option maxRecDepth 100000
namespace Go.Proofs.YtejjggnchdldoaaDoor.Abs
open Go
variable {β : Type} {n : Nat} {r : Option β}
theorem l12MsgF (n : Nat) (m : MsgV) (hs : m.fBody.size ≤ 1048576) : tree E0 (n + 1) 39 48 [.agg (encMsg m)] = some (.agg (encMsg m)) := by
 rw [tree_def, f48_eq, f48]
 simp only [PR_box, PR_new, PR_fadr, PR_load, PR_app, PR_fill, PR_store, pNew]
 rw [box_fl _ _ _ (flMsg m)]
 simp only [List.length_nil, List.nil_append, List.length_cons, Nat.zero_add]
 have hH : ([⟨encMsg m, true, true⟩] ++ [⟨zzMsg, true, true⟩] : Heap)[0]? = some ⟨encMsg m, true, true⟩ := rfl
 refine w_fadr ?_
 refine w_ld (c := .sc (.string m.fTopic)) hH (Nat.le_of_ble_eq_true rfl) rfl ?_
 refine w_fadr ?_
 refine w_ld (c := bytesC m.fBody) hH (Nat.le_of_ble_eq_true rfl) rfl ?_
 refine w_fadr ?_
 refine w_ld (c := .sc (.int .i64 m.fQos)) hH (Nat.le_of_ble_eq_true rfl) rfl ?_
 refine w_fadr ?_
 refine w_ld (c := .sc (.bool m.fRetain)) hH (Nat.le_of_ble_eq_true rfl) rfl ?_
 rw [app_bytes _ (by omega)]
 refine w_fill (cs := [.sc (.string m.fTopic), .sl 2 0 m.fBody.size 1, .sc (.int .i64 m.fQos), .sc (.bool m.fRetain)]) rfl ?_
 rw [st_at 4 1 0 _ ⟨zzMsg, true, true⟩ [.sc (.string m.fTopic), .sl 2 0 m.fBody.size 1, .sc (.int .i64 m.fQos), .sc (.bool m.fRetain)] _ _ rfl rfl rfl (by decide) rfl]
 refine w_ldA (ds := [.sc (.string m.fTopic), .sl 2 0 m.fBody.size 1, .sc (.int .i64 m.fQos), .sc (.bool m.fRetain)]) (cs := [.sc (.string m.fTopic), .sl 2 0 m.fBody.size 1, .sc (.int .i64 m.fQos), .sc (.bool m.fRetain)]) rfl (Nat.le_refl _) rfl ?_
 exact own_aggMsg rfl
theorem copyMsgF (n : Nat) (hn : 1 < n) (m : MsgV) (hs : m.fBody.size ≤ 1048576) : tree E0 (n + 2) 39 46 [.agg (encMsg m)] = some (.agg (encMsg m)) := by
 rw [tree_def, f46_eq, f46]
 simp only [PR_box, PR_new, PR_fadr, PR_load, PR_app, PR_fill, PR_store, PR_newSl, pNew]
 rw [box_fl _ _ _ (flMsg m)]
 simp only [List.length_nil, List.nil_append, List.length_cons, Nat.zero_add]
 have hH : ([⟨encMsg m, true, true⟩] ++ [⟨zzMsg, true, true⟩] : Heap)[0]? = some ⟨encMsg m, true, true⟩ := rfl
 refine w_fadr ?_
 refine w_ld (c := bytesC m.fBody) hH (Nat.le_of_ble_eq_true rfl) rfl ?_
 refine w_fill (cs := [bytesC m.fBody]) rfl ?_
 simp only [pNewSl]
 rw [PR_call (vs := [.ro 1 [bytesC m.fBody]]) rfl rfl (joined1F n hn m.fBody hs)]
 obtain ⟨i, j, h1, h2, h3, h4⟩ := tyByteS
 have hi : ∀ N, instT ti0 E0.tp N 23 (bytesC m.fBody) = (.sl N 0 m.fBody.size 1, [⟨bytesAV m.fBody, true, true⟩]) := by
  intro N
  show instT ti0 E0.tp N 23 (.ro m.fBody.size (bytesAV m.fBody)) = _
  simp only [instT, h1, Option.bind_some, h2, Option.getD_some, h3, bytesAV_eq, instL_sc]
 rw [hi]
 simp only
 refine w_fadr ?_
 rw [st_at 1 0 (0 + 1) _ ⟨encMsg m, true, true⟩ [.sl 3 0 m.fBody.size 1] _ _ rfl rfl rfl (Nat.le_of_ble_eq_true rfl) rfl]
 refine w_ldA (ds := [.sc (.string m.fTopic), .sl 3 0 m.fBody.size 1, .sc (.int .i64 m.fQos), .sc (.bool m.fRetain)]) (cs := [.sc (.string m.fTopic), .sl 3 0 m.fBody.size 1, .sc (.int .i64 m.fQos), .sc (.bool m.fRetain)]) rfl (Nat.le_refl _) rfl ?_
 rw [st_at 4 1 0 _ ⟨zzMsg, true, true⟩ [.sc (.string m.fTopic), .sl 3 0 m.fBody.size 1, .sc (.int .i64 m.fQos), .sc (.bool m.fRetain)] _ _ rfl rfl rfl (by decide) rfl]
 refine w_ldA (ds := [.sc (.string m.fTopic), .sl 3 0 m.fBody.size 1, .sc (.int .i64 m.fQos), .sc (.bool m.fRetain)]) (cs := [.sc (.string m.fTopic), .sl 3 0 m.fBody.size 1, .sc (.int .i64 m.fQos), .sc (.bool m.fRetain)]) rfl (Nat.le_refl _) rfl ?_
 exact own_aggMsg rfl
theorem copy_step {d w te g bytes k : Nat} {cty : List Nat} {H X0 : Heap} {x : AV} {cells cs z : List AV} {args vs : List AV} {K : AV → Heap → Option β} (hx : OwnS d H w cty x k cells) (hh : plainF g = false) (hv : args.mapM (viewV (H ++ X0) 8) = some vs) (ht : tree E0 n te g vs = some (.agg cs))
  (hte : ∃ i, ti0 te = some i ∧ i.cty = cty) (hok : okLW (okW ti0 E0.tp d) cty cs) (hfl : cs.all isFl = true) (hw : cs.length = w) (hz : z.length = w) (hb : (k + 1) * bytes ≤ 140737488355328) (h : ∀ x' H', OwnS d H' w cty x' (k + 1) (cells ++ cs) → K x' H' = r) :
  ((PR n β).call te (.fn g [] []) args (H ++ X0) fun t G => (fillA z [(0, w, t)]).bind fun ct => pNewSl 1 w ct true G fun y G => pApp w bytes x y G K) = r := by
 obtain ⟨i, hi, rfl⟩ := hte
 rw [PR_call hh hv ht, instT_agg, hi, Option.getD_some]
 simp only
 have hlen := instL_len (ti := ti0) (tp := E0.tp) (H ++ X0).length i.cty cs
 have hleaf := instL_leaf (ti := ti0) (tp := E0.tp) cs (H ++ X0).length i.cty hfl
 have hf : fillA z [(0, w, .agg (instL ti0 E0.tp (H ++ X0).length i.cty cs).1)] = some (instL ti0 E0.tp (H ++ X0).length i.cty cs).1 := by
  have hc : cellsA (.agg (instL ti0 E0.tp (H ++ X0).length i.cty cs).1) = some (instL ti0 E0.tp (H ++ X0).length i.cty cs).1 := by
   show (if _ then _ else none) = _
   rw [if_pos hleaf]
  have hs : splice z 0 (instL ti0 E0.tp (H ++ X0).length i.cty cs).1 = (instL ti0 E0.tp (H ++ X0).length i.cty cs).1 := by
   unfold splice
   rw [List.take_zero, List.nil_append, List.drop_of_length_le (by rw [hlen, hw, hz]; omega), List.append_nil]
  show ((cellsA (.agg _)).bind fun cs => if cs.length = w then (if 0 + w ≤ z.length then fillA (splice z 0 cs) [] else none) else none) = _
  rw [hc, Option.bind_some, if_pos (by rw [hlen, hw]), if_pos (by omega), hs]
  rfl
 rw [hf, Option.bind_some]
 have key := app_one (H := H) (X := X0 ++ (instL ti0 E0.tp (H ++ X0).length i.cty cs).2) (bytes := bytes) (er := (instL ti0 E0.tp (H ++ X0).length i.cty cs).1) (ec := cs) (eids := List.range' (H ++ X0).length (instL ti0 E0.tp (H ++ X0).length i.cty cs).2.length) (K := K) (r := r) hx (by rw [hlen, hw]) hleaf (by
   have := own_new (d := d) (H := H ++ X0) hok
   rwa [List.append_assoc] at this) List.nodup_range' (fun j hj => by
   rw [List.mem_range'_1] at hj
   have := hj.1
   simp at this
   omega) hb h
 rw [← List.append_assoc] at key
 exact key
theorem mk_take (l : List MsgV) (hs : ∀ x ∈ l, x.fBody.size ≤ 1048576) : True := trivial
theorem l12_loop (n : Nat) (hn : 1048576 < n) (l : List MsgV) (hl : l.length ≤ 1048576) (hs : ∀ x ∈ l, x.fBody.size ≤ 1048576) : ∀ (t pre : List MsgV) (m : Nat) (x : AV) (H : Heap), l = pre ++ t → t.length < m → OwnS 7 H 4 ctyMsg x pre.length (pre.map encMsg).flatten →
  f47_l0 (PR (n + 2) AV) (n + 2) (fun x H => ownTree ti0 E0.tp 37 H x) m (rowsC encMsg l) x (.sc (.int .i64 pre.length)) H = some (rowsC encMsg l)
 | [], pre, m + 1, x, H, he, hm, hx => by
  rw [List.append_nil] at he
  subst he
  rw [f47_l0]
  simp only [PR_len, PR_bin, PR_cond]
  rw [len_ro, lss_nat, cond_b, if_neg (by simp)]
  obtain ⟨ids, ho, hno⟩ := own_res (d := 7) (tyS := 37) tyMsgS hx
  rw [ownTree, ho, Option.bind_some, if_pos hno]
 | y :: t, pre, m + 1, x, H, he, hm, hx => by
  have hlt : pre.length < l.length := by rw [he]; simp
  have hy : y ∈ l := by rw [he]; simp
  rw [f47_l0]
  simp only [PR_len, PR_bin, PR_cond, PR_iadr, PR_load, PR_fill, PR_newSl, PR_app]
  rw [len_ro, lss_nat, cond_b, if_pos (by simpa using hlt)]
  have hel := fun k => el_ro (β := AV) lenMsg (by decide) pre y t k
  rw [← he] at hel
  rw [hel, ld_rp 4 _ _ _ _ (lenMsg y)]
  have hst := fun K h => copy_step (β := AV) (n := n + 2) (X0 := []) (bytes := 56) (z := zzMsg) (K := K) (r := some (rowsC encMsg l)) hx rfl (vcons (Vw_agg _ (flMsg y)) vnil) (l12MsgF (n + 1) y (hs y hy)) tyMsg (okWMsg 5 y) (flMsg y) (lenMsg y) rfl (by omega) h
  simp only [List.append_nil] at hst
  refine hst _ fun x' H' hx' => ?_
  rw [inc_nat _ _ (by omega)]
  have ih := l12_loop n hn l hl hs t (pre ++ [y]) m x' H' (by rw [he]; simp) (by simpa using hm) (by
   rw [List.length_append, List.length_singleton, List.map_append, List.flatten_append]
   simpa using hx')
  rw [List.length_append, List.length_singleton] at ih
  exact ih
theorem l12CopyF (n : Nat) (hn : 1048576 < n) (l : List MsgV) (hl : l.length ≤ 1048576) (hs : ∀ x ∈ l, x.fBody.size ≤ 1048576) : tree E0 (n + 3) 37 47 [rowsC encMsg l] = some (rowsC encMsg l) := by
 rw [tree_def, f47_eq, f47]
 exact l12_loop n hn l hl hs l [] (n + 2) .nl [] rfl (by omega) (OwnS.nil _ _ _ _)
theorem copyMsgs_loop (n : Nat) (hn : 1048576 < n) (l : List MsgV) (hl : l.length ≤ 1048576) (hs : ∀ x ∈ l, x.fBody.size ≤ 1048576) : ∀ (t pre : List MsgV) (m : Nat) (x : AV) (H : Heap), l = pre ++ t → t.length < m → OwnS 7 H 4 ctyMsg x pre.length (pre.map encMsg).flatten →
  f45_l0 (PR (n + 2) AV) (n + 2) (fun x H => ownTree ti0 E0.tp 37 H x) m x (rowsC encMsg l) (.sc (.int .i64 l.length)) (.sc (.int .i64 pre.length)) H = some (rowsC encMsg l)
 | [], pre, m + 1, x, H, he, hm, hx => by
  rw [List.append_nil] at he
  subst he
  rw [f45_l0]
  simp only [PR_len, PR_bin, PR_cond]
  rw [lss_nat, cond_b, if_neg (by simp)]
  obtain ⟨ids, ho, hno⟩ := own_res (d := 7) (tyS := 37) tyMsgS hx
  rw [ownTree, ho, Option.bind_some, if_pos hno]
 | y :: t, pre, m + 1, x, H, he, hm, hx => by
  have hlt : pre.length < l.length := by rw [he]; simp
  have hy : y ∈ l := by rw [he]; simp
  rw [f45_l0]
  simp only [PR_len, PR_bin, PR_cond, PR_iadr, PR_load, PR_fill, PR_newSl, PR_app, PR_new, PR_store]
  rw [lss_nat, cond_b, if_pos (by simpa using hlt)]
  have hel := fun k => el_ro (β := AV) lenMsg (by decide) pre y t k
  rw [← he] at hel
  rw [hel, ld_rp 4 _ _ _ _ (lenMsg y)]
  refine lw_put rfl (lenMsg _) (fl_leaf (flMsg _)) fun i hi => ?_
  refine lw_ld hi (lenMsg _) ?_
  refine copy_step (β := AV) (n := n + 2) (X0 := [⟨encMsg y, true, true⟩]) (bytes := 56) (z := zzMsg) (r := some (rowsC encMsg l)) hx rfl (vcons (Vw_agg _ (flMsg y)) vnil) (copyMsgF n (by omega) y (hs y hy)) tyMsg (okWMsg 5 y) (flMsg y) (lenMsg y) rfl (by omega) fun x' H' hx' => ?_
  rw [inc_nat _ _ (by omega)]
  have ih := copyMsgs_loop n hn l hl hs t (pre ++ [y]) m x' H' (by rw [he]; simp) (by simpa using hm) (by
   rw [List.length_append, List.length_singleton, List.map_append, List.flatten_append]
   simpa using hx')
  rw [List.length_append, List.length_singleton] at ih
  exact ih
theorem copyMsgsF (n : Nat) (hn : 1048576 < n) (l : List MsgV) (hl : l.length ≤ 1048576) (hs : ∀ x ∈ l, x.fBody.size ≤ 1048576) : tree E0 (n + 3) 37 45 [rowsC encMsg l] = some (rowsC encMsg l) := by
 rw [tree_def, f45_eq, f45]
 simp only [PR_len]
 refine w_len ?_
 exact copyMsgs_loop n hn l hl hs l [] (n + 2) .nl [] rfl (by omega) (OwnS.nil _ _ _ _)
end Go.Proofs.YtejjggnchdldoaaDoor.Abs
set_option linter.unusedVariables false
set_option linter.unusedSimpArgs false
namespace Go.Proofs.YtejjggnchdldoaaDoor.Abs
open Go
inductive MF where
 | str
 | int
 | bool
 | byt
 | skip
 | sub (fs : List MF)
def repF (n : Nat) (fs : List MF) : List MF := (List.replicate n fs).flatten
theorem repF_succ (n : Nat) (fs : List MF) : repF (n + 1) fs = fs ++ repF n fs := by rw [repF, List.replicate_succ, List.flatten_cons, repF]
theorem repF_len (n : Nat) (fs : List MF) : (repF n fs).length = n * fs.length := by simp [repF]
def digs (k : Nat) (out : ByteArray) : ByteArray := if h : k = 0 then out else digs (k / 10) (⟨#[UInt8.ofNat (48 + k % 10)]⟩ ++ out)
termination_by k
decreasing_by omega
def mTxt (k : Int) : ByteArray := ⟨#[109]⟩ ++ (if k ≤ 0 then ⟨#[48]⟩ else digs k.toNat ⟨#[]⟩)
mutual
def mkF (f : MF) (k : Int) : AV → AV × Int
 | .sc v =>
  match f with
  | .str => (.sc (.string (mTxt k)), k + 1)
  | .int => (.sc (.int .i64 k), k + 1)
  | .bool => (.sc (.bool (k.tmod 3 == 0)), k + 1)
  | .byt => (.sc (.int .u8 (IntKind.u8.wrap k)), k + 1)
  | _ => (.sc v, k)
 | .ro n cells =>
  match f with
  | .sub fs => (.ro n (mkL (repF n fs) k cells).1, (mkL (repF n fs) k cells).2)
  | _ => (.ro n cells, k)
 | x => (x, k)
def mkL (fs : List MF) (k : Int) : List AV → List AV × Int
 | [] => ([], k)
 | c :: cs => ((mkF (fs.headD .skip) k c).1 :: (mkL fs.tail (mkF (fs.headD .skip) k c).2 cs).1, (mkL fs.tail (mkF (fs.headD .skip) k c).2 cs).2)
end
mutual
def cntF (f : MF) : AV → Nat
 | .sc v =>
  match f with
  | .skip => 0
  | .sub _ => 0
  | _ => 1
 | .ro n cells =>
  match f with
  | .sub fs => cntL (repF n fs) cells
  | _ => 0
 | _ => 0
def cntL (fs : List MF) : List AV → Nat
 | [] => 0
 | c :: cs => cntF (fs.headD .skip) c + cntL fs.tail cs
end
mutual
def wfF (f : MF) : AV → Prop
 | .sc v =>
  match f, v with
  | .str, .string _ => True
  | .int, .int .i64 _ => True
  | .bool, .bool _ => True
  | .byt, .int .u8 _ => True
  | .skip, v => leafV v = true
  | _, _ => False
 | .ro n cells =>
  match f with
  | .sub fs => n ≤ 1048576 ∧ cells.length = n * fs.length ∧ wfL (repF n fs) cells
  | _ => False
 | _ => False
def wfL (fs : List MF) : List AV → Prop
 | [] => fs = []
 | c :: cs => fs ≠ [] ∧ wfF (fs.headD .skip) c ∧ wfL fs.tail cs
end
mutual
def nbT : AV → Nat
 | .ro _ cells => 1 + nbL cells
 | .agg cs => nbL cs
 | .tup cs => nbL cs
 | _ => 0
def nbL : List AV → Nat
 | [] => 0
 | c :: cs => nbT c + nbL cs
end
section lists
theorem mkL_cons (f : MF) (fs : List MF) (k : Int) (c : AV) (cs : List AV) : mkL (f :: fs) k (c :: cs) = ((mkF f k c).1 :: (mkL fs (mkF f k c).2 cs).1, (mkL fs (mkF f k c).2 cs).2) := rfl
theorem mkL_append : ∀ (A B : List MF) (k : Int) (X Y : List AV), A.length = X.length → mkL (A ++ B) k (X ++ Y) = ((mkL A k X).1 ++ (mkL B (mkL A k X).2 Y).1, (mkL B (mkL A k X).2 Y).2)
 | [], B, k, [], Y, _ => by simp [mkL]
 | f :: A, B, k, x :: X, Y, h => by
  have ih := mkL_append A B (mkF f k x).2 X Y (by simpa using h)
  rw [List.cons_append, List.cons_append, mkL_cons, mkL_cons, ih]
  rfl
theorem cntL_append : ∀ (A B : List MF) (X Y : List AV), A.length = X.length → cntL (A ++ B) (X ++ Y) = cntL A X + cntL B Y
 | [], B, [], Y, _ => by simp [cntL]
 | f :: A, B, x :: X, Y, h => by
  have ih := cntL_append A B X Y (by simpa using h)
  show cntF f x + cntL (A ++ B) (X ++ Y) = cntF f x + cntL A X + cntL B Y
  rw [ih, Nat.add_assoc]
theorem wfL_cons {f : MF} {fs : List MF} {c : AV} {cs : List AV} : wfL (f :: fs) (c :: cs) ↔ wfF f c ∧ wfL fs cs := by
 show (f :: fs ≠ [] ∧ wfF f c ∧ wfL fs cs) ↔ _
 simp
theorem wfL_len : ∀ {fs : List MF} {cs : List AV}, wfL fs cs → fs.length = cs.length
 | fs, [], h => by
  have : fs = [] := h
  rw [this]
  rfl
 | [], _ :: _, h => absurd rfl h.1
 | f :: fs, c :: cs, h => by
  have := wfL_len (wfL_cons.1 h).2
  simp [this]
theorem wfL_append : ∀ {A B : List MF} {X Y : List AV}, A.length = X.length → (wfL (A ++ B) (X ++ Y) ↔ wfL A X ∧ wfL B Y)
 | [], B, [], Y, _ => by
  show _ ↔ (([] : List MF) = [] ∧ _)
  simp
 | f :: A, B, x :: X, Y, h => by
  have ih := wfL_append (A := A) (B := B) (X := X) (Y := Y) (by simpa using h)
  rw [List.cons_append, List.cons_append, wfL_cons, wfL_cons, ih, and_assoc]
mutual
theorem mkF_cnt : ∀ (x : AV) (f : MF) (k : Int), (mkF f k x).2 = k + cntF f x
 | .sc v, f, k => by cases f <;> simp [mkF, cntF]
 | .ro n cells, f, k => by
  cases f <;> first | (simp [mkF, cntF]; done) | exact mkL_cnt cells _ k
 | .agg cs, f, k => by simp [mkF, cntF]
 | .tup cs, f, k => by simp [mkF, cntF]
 | .any, f, k => by simp [mkF, cntF]
 | .nl, f, k => by simp [mkF, cntF]
 | .sl .., f, k => by simp [mkF, cntF]
 | .ptr .., f, k => by simp [mkF, cntF]
 | .rp .., f, k => by simp [mkF, cntF]
 | .fn .., f, k => by simp [mkF, cntF]
theorem mkL_cnt : ∀ (cs : List AV) (fs : List MF) (k : Int), (mkL fs k cs).2 = k + cntL fs cs
 | [], fs, k => by simp [mkL, cntL]
 | c :: cs, fs, k => by
  show (mkL fs.tail (mkF (fs.headD .skip) k c).2 cs).2 = k + ((cntF (fs.headD .skip) c + cntL fs.tail cs : Nat) : Int)
  rw [mkL_cnt cs, mkF_cnt c]
  omega
end
theorem mkL_len : ∀ (cs : List AV) (fs : List MF) (k : Int), (mkL fs k cs).1.length = cs.length
 | [], fs, k => by simp [mkL]
 | c :: cs, fs, k => by
  show (mkL fs.tail _ cs).1.length + 1 = cs.length + 1
  rw [mkL_len cs]
mutual
theorem mkF_nb : ∀ (x : AV) (f : MF) (k : Int), nbT (mkF f k x).1 = nbT x
 | .sc v, f, k => by cases f <;> rfl
 | .ro n cells, f, k => by
  cases f <;> first | rfl | (show 1 + nbL _ = 1 + nbL _; rw [mkL_nb cells])
 | .agg cs, f, k => by simp [mkF]
 | .tup cs, f, k => by simp [mkF]
 | .any, f, k => by simp [mkF]
 | .nl, f, k => by simp [mkF]
 | .sl .., f, k => by simp [mkF]
 | .ptr .., f, k => by simp [mkF]
 | .rp .., f, k => by simp [mkF]
 | .fn .., f, k => by simp [mkF]
theorem mkL_nb : ∀ (cs : List AV) (fs : List MF) (k : Int), nbL (mkL fs k cs).1 = nbL cs
 | [], fs, k => by simp [mkL]
 | c :: cs, fs, k => by
  show nbT (mkF (fs.headD .skip) k c).1 + nbL (mkL fs.tail _ cs).1 = nbT c + nbL cs
  rw [mkF_nb c, mkL_nb cs]
end
mutual
theorem inst_nb {ti : Nat → Option TI} {tp : Nat → Option (List Nat)} : ∀ (x : AV) (N ty : Nat), (instT ti tp N ty x).2.length = nbT x
 | .sc v, N, ty => rfl
 | .ro n cells, N, ty => by
  simp only [instT, List.length_cons, nbT, instL_nb cells, Nat.add_comm]
 | .agg cs, N, ty => instL_nb cs _ _
 | .tup cs, N, ty => instL_nb cs _ _
 | .any, N, ty => rfl
 | .nl, N, ty => rfl
 | .sl .., N, ty => rfl
 | .ptr .., N, ty => rfl
 | .rp .., N, ty => rfl
 | .fn .., N, ty => rfl
theorem instL_nb {ti : Nat → Option TI} {tp : Nat → Option (List Nat)} : ∀ (cs : List AV) (N : Nat) (ts : List Nat), (instL ti tp N ts cs).2.length = nbL cs
 | [], N, ts => rfl
 | c :: cs, N, ts => by
  simp only [instL, List.length_append, nbL, inst_nb c, instL_nb cs]
end
theorem nbL_append : ∀ (X Y : List AV), nbL (X ++ Y) = nbL X + nbL Y
 | [], Y => by simp [nbL]
 | c :: X, Y => by
  show nbT c + nbL (X ++ Y) = nbT c + nbL X + nbL Y
  rw [nbL_append X Y, Nat.add_assoc]
theorem inst_mid {ti : Nat → Option TI} {tp : Nat → Option (List Nat)} (TP TS : List Nat) (t : Nat) (P S : List AV) (c : AV) (N : Nat) (h : TP.length = P.length) :
  instL ti tp N (TP ++ t :: TS) (P ++ c :: S) = ((instL ti tp N TP P).1 ++ (instT ti tp (N + nbL P) t c).1 :: (instL ti tp (N + nbL P + nbT c) TS S).1, (instL ti tp N TP P).2 ++ ((instT ti tp (N + nbL P) t c).2 ++ (instL ti tp (N + nbL P + nbT c) TS S).2)) := by
 rw [instL_append TP P (t :: TS) (c :: S) N h, instL_nb]
 have e : instL ti tp (N + nbL P) (t :: TS) (c :: S) = ((instT ti tp (N + nbL P) t c).1 :: (instL ti tp (N + nbL P + nbT c) TS S).1, (instT ti tp (N + nbL P) t c).2 ++ (instL ti tp (N + nbL P + nbT c) TS S).2) := by
  rw [instL, inst_nb]
  rfl
 rw [e]
end lists
section steps
variable {β : Type} {n : Nat} {r : Option β}
noncomputable def SB (N : Nat) (T : List Nat) (cells : List AV) : List Blk := ⟨(instL ti0 E0.tp (N + 1) T cells).1, true, true⟩ :: (instL ti0 E0.tp (N + 1) T cells).2
theorem inst_SB {ty len : Nat} {cells : List AV} {i j : TI} (h1 : ti0 ty = some i) (h2 : ti0 i.elem = some j) (N : Nat) : instT ti0 E0.tp N ty (.ro len cells) = (.sl N 0 len j.size, SB N (List.replicate len j.cty).flatten cells) := by
 simp only [instT, h1, Option.bind_some, h2, Option.getD_some]
 rfl
theorem sb_store {A C : Heap} {TP TS : List Nat} {t p : Nat} {P S : List AV} {v0 v : Value} (hT : TP.length = P.length) (hv : leafV v = true) (hp : p = P.length) (K : Heap → Option β) :
  pStore 1 (.ptr A.length p) (.sc v) (A ++ (SB A.length (TP ++ t :: TS) (P ++ .sc v0 :: S) ++ C)) K = K (A ++ (SB A.length (TP ++ t :: TS) (P ++ .sc v :: S) ++ C)) := by
 have hc : cellsA (.sc v) = some [.sc v] := by simp only [cellsA, isLeaf, hv, if_true]
 have hl : (instL ti0 E0.tp (A.length + 1) TP P).1.length = P.length := instL_len _ _ _
 simp only [SB, inst_mid TP TS t P S _ _ hT, instT_sc, nbT, List.cons_append]
 rw [st_at 1 A.length p (.sc v) _ _ _ _ (get_at A _ _) hc rfl (by simp [hl, hp]) rfl, set_at]
 have := splice_mid (instL ti0 E0.tp (A.length + 1) TP P).1 [.sc v0] (instL ti0 E0.tp (A.length + 1 + nbL P + 0) TS S).1 [.sc v] rfl
 simp only [List.singleton_append, hl] at this
 rw [hp, this]
theorem sb_load {A C : Heap} {TP TS : List Nat} {t p : Nat} {P S : List AV} {c : AV} (hT : TP.length = P.length) (hp : p = P.length) (K : AV → Option β) :
  pLoad false 1 (.ptr A.length p) (A ++ (SB A.length (TP ++ t :: TS) (P ++ c :: S) ++ C)) K = K (instT ti0 E0.tp (A.length + 1 + nbL P) t c).1 := by
 have hl : (instL ti0 E0.tp (A.length + 1) TP P).1.length = P.length := instL_len _ _ _
 simp only [SB, inst_mid TP TS t P S _ _ hT, List.cons_append]
 refine ldF ?_ K
 have : p + 1 ≤ ((instL ti0 E0.tp (A.length + 1) TP P).1 ++ (instT ti0 E0.tp (A.length + 1 + nbL P) t c).1 :: (instL ti0 E0.tp (A.length + 1 + nbL P + nbT c) TS S).1).length := by simp [hl, hp]
 simp only [rdCells, get_at, if_true, this]
 rw [hp, ← hl, List.drop_append_of_le_length (Nat.le_refl _), List.drop_length]
 rfl
def MarkC (n f ty : Nat) (t t' : AV) (k k' : Int) : Prop := ∀ (β : Type) (A C : Heap) (K : AV → Heap → Option β) (r : Option β),
 (∀ X, K (.sc (.int .i64 k')) (A ++ ((instT ti0 E0.tp A.length ty t').2 ++ (C ++ X))) = r) → evalFn E0 n β f [(instT ti0 E0.tp A.length ty t).1, .sc (.int .i64 k)] (A ++ ((instT ti0 E0.tp A.length ty t).2 ++ C)) K = r
theorem PR_hm {ty : Nat} {f : FuncId} {args : List AV} {H : Heap} {K : AV → Heap → Option β} (hh : E0.hm f = true) (hx : E0.ext f = none) : (PR n β).call ty (.fn f [] []) args H K = evalFn E0 n β f args H K := by
 show callF E0 (evalFn E0 n) ty f ([] ++ args ++ []) H K = _
 simp only [callF, hx, hh, List.nil_append, List.append_nil, if_true]
theorem ms_sub {A C : Heap} {TP TS : List Nat} {t p ty g : Nat} {P S : List AV} {c c' : AV} {k k' : Int} {K : AV → Heap → Option β} (hT : TP.length = P.length) (hp : p = P.length) (hh : E0.hm g = true) (hx : E0.ext g = none) (hmk : MarkC n g t c c' k k') (hs : ∀ M, (instT ti0 E0.tp M t c').1 = (instT ti0 E0.tp M t c).1) (hn : nbT c' = nbT c)
  (h : ∀ X, K (.sc (.int .i64 k')) (A ++ (SB A.length (TP ++ t :: TS) (P ++ c' :: S) ++ (C ++ X))) = r) :
  (pLoad false 1 (.ptr A.length p) (A ++ (SB A.length (TP ++ t :: TS) (P ++ c :: S) ++ C)) fun v => (PR n β).call ty (.fn g [] []) [v, .sc (.int .i64 k)] (A ++ (SB A.length (TP ++ t :: TS) (P ++ c :: S) ++ C)) K) = r := by
 rw [sb_load hT hp, PR_hm hh hx]
 have e : ∀ (d : AV) (D : Heap), A ++ (SB A.length (TP ++ t :: TS) (P ++ d :: S) ++ D) = (A ++ ⟨(instL ti0 E0.tp (A.length + 1) TP P).1 ++ (instT ti0 E0.tp (A.length + 1 + nbL P) t d).1 :: (instL ti0 E0.tp (A.length + 1 + nbL P + nbT d) TS S).1, true, true⟩ :: (instL ti0 E0.tp (A.length + 1) TP P).2) ++ ((instT ti0 E0.tp (A.length + 1 + nbL P) t d).2 ++ ((instL ti0 E0.tp (A.length + 1 + nbL P + nbT d) TS S).2 ++ D)) := by
  intro d D
  simp only [SB, inst_mid TP TS t P S _ _ hT, List.cons_append, List.append_assoc]
 have hN : ∀ b : Blk, (A ++ b :: (instL ti0 E0.tp (A.length + 1) TP P).2).length = A.length + 1 + nbL P := by
  intro b
  rw [List.length_append, List.length_cons, instL_nb]
  omega
 rw [e c C]
 have key := hmk β (A ++ ⟨(instL ti0 E0.tp (A.length + 1) TP P).1 ++ (instT ti0 E0.tp (A.length + 1 + nbL P) t c).1 :: (instL ti0 E0.tp (A.length + 1 + nbL P + nbT c) TS S).1, true, true⟩ :: (instL ti0 E0.tp (A.length + 1) TP P).2) ((instL ti0 E0.tp (A.length + 1 + nbL P + nbT c) TS S).2 ++ C) K r
 rw [hN] at key
 refine key fun X => ?_
 have h2 := h X
 rw [e c' (C ++ X), hs, hn] at h2
 simp only [List.append_assoc, List.cons_append] at h2 ⊢
 exact h2
end steps
structure FD where
 f : MF
 path : List Nat
 g : FuncId
def TxtOk (n tS g : Nat) : Prop := plainF g = false ∧ ∀ k : Int, 0 ≤ k → k ≤ 4611686018427387904 → tree E0 n tS g [.sc (.int .i64 k)] = some (.sc (.string (mTxt k)))
def MarkOk (n g ty : Nat) (fs : List MF) : Prop := E0.hm g = true ∧ E0.ext g = none ∧ (∃ i j, ti0 ty = some i ∧ ti0 i.elem = some j) ∧ ∀ (len : Nat) (cells : List AV) (k : Int), wfF (.sub fs) (.ro len cells) → 0 ≤ k → k + cntF (.sub fs) (.ro len cells) ≤ 4611686018427387904 →
 MarkC n g ty (.ro len cells) (mkF (.sub fs) k (.ro len cells)).1 k (mkF (.sub fs) k (.ro len cells)).2
def HeldOk (n g : Nat) (fs : List MF) : Prop := plainF g = false ∧ ∀ (ty len : Nat) (cells : List AV) (k : Int), wfF (.sub fs) (.ro len cells) → 0 ≤ k → k + cntF (.sub fs) (.ro len cells) ≤ 4611686018427387904 →
 tree E0 n ty g [(mkF (.sub fs) k (.ro len cells)).1, .sc (.int .i64 k)] = some (.sc (.int .i64 (mkF (.sub fs) k (.ro len cells)).2))
def subM (n t g : Nat) : MF → Prop
 | .sub fs => MarkOk n g t fs
 | _ => True
def subH (n g : Nat) : MF → Prop
 | .sub fs => HeldOk n g fs
 | _ => True
def FdsM (n : Nat) : Nat → List FD → List Nat → Prop
 | off, fd :: r, t :: ts => fd.path.sum = off ∧ subM n t fd.g fd.f ∧ FdsM n (off + 1) r ts
 | _, [], [] => True
 | _, _, _ => False
def FdsH (n : Nat) : Nat → List FD → Prop
 | off, fd :: r => fd.path.sum = off ∧ subH n fd.g fd.f ∧ FdsH n (off + 1) r
 | _, [] => True
section fns
variable {β : Type}
def fadrs (p : Pr β) : List Nat → AV → (AV → Option β) → Option β
 | [], x, K => K x
 | o :: r, x, K => p.fadr o x fun t => fadrs p r t K
def bodyM (p : Pr β) (tS tI gT w : Nat) (a i : AV) : List FD → AV → Heap → (AV → Heap → Option β) → Option β
 | [], k, H, K => K k H
 | ⟨.str, path, _⟩ :: r, k, H, K => p.call tS (.fn gT [] []) [k] H fun s H => p.iadr w a i fun t => fadrs p path t fun t => p.store 1 t s H fun H => p.bin .add k (.sc (.int .i64 1)) fun k => bodyM p tS tI gT w a i r k H K
 | ⟨.int, path, _⟩ :: r, k, H, K => p.iadr w a i fun t => fadrs p path t fun t => p.store 1 t k H fun H => p.bin .add k (.sc (.int .i64 1)) fun k => bodyM p tS tI gT w a i r k H K
 | ⟨.bool, path, _⟩ :: r, k, H, K => p.bin .rem k (.sc (.int .i64 3)) fun q => p.bin .eql q (.sc (.int .i64 0)) fun b => p.iadr w a i fun t => fadrs p path t fun t => p.store 1 t b H fun H => p.bin .add k (.sc (.int .i64 1)) fun k => bodyM p tS tI gT w a i r k H K
 | ⟨.byt, path, _⟩ :: r, k, H, K => p.cvI .u8 k fun c => p.iadr w a i fun t => fadrs p path t fun t => p.store 1 t c H fun H => p.bin .add k (.sc (.int .i64 1)) fun k => bodyM p tS tI gT w a i r k H K
 | ⟨.sub _, path, g⟩ :: r, k, H, K => p.iadr w a i fun t => fadrs p path t fun t => p.load false 1 t H fun v => p.call tI (.fn g [] []) [v, k] H fun k H => bodyM p tS tI gT w a i r k H K
 | ⟨.skip, _, _⟩ :: r, k, H, K => bodyM p tS tI gT w a i r k H K
def bodyH (p : Pr β) (tS tI gT w : Nat) (a i : AV) (F : Heap → Option β) : List FD → AV → Heap → (AV → Heap → Option β) → Option β
 | [], k, H, K => K k H
 | ⟨.str, path, _⟩ :: r, k, H, K => p.iadr w a i fun t => fadrs p path t fun t => p.load false 1 t H fun v => p.call tS (.fn gT [] []) [k] H fun s H => p.bin .neq v s fun b => p.cond b (F H) (p.bin .add k (.sc (.int .i64 1)) fun k => bodyH p tS tI gT w a i F r k H K)
 | ⟨.int, path, _⟩ :: r, k, H, K => p.iadr w a i fun t => fadrs p path t fun t => p.load false 1 t H fun v => p.bin .neq v k fun b => p.cond b (F H) (p.bin .add k (.sc (.int .i64 1)) fun k => bodyH p tS tI gT w a i F r k H K)
 | ⟨.bool, path, _⟩ :: r, k, H, K => p.iadr w a i fun t => fadrs p path t fun t => p.load false 1 t H fun v => p.bin .rem k (.sc (.int .i64 3)) fun q => p.bin .eql q (.sc (.int .i64 0)) fun e => p.binB .neq v e fun b => p.cond b (F H) (p.bin .add k (.sc (.int .i64 1)) fun k => bodyH p tS tI gT w a i F r k H K)
 | ⟨.byt, path, _⟩ :: r, k, H, K => p.iadr w a i fun t => fadrs p path t fun t => p.load false 1 t H fun v => p.cvI .u8 k fun c => p.bin .neq v c fun b => p.cond b (F H) (p.bin .add k (.sc (.int .i64 1)) fun k => bodyH p tS tI gT w a i F r k H K)
 | ⟨.sub _, path, g⟩ :: r, k, H, K => p.iadr w a i fun t => fadrs p path t fun t => p.load false 1 t H fun v => p.call tI (.fn g [] []) [v, k] H fun k H => p.bin .lss k (.sc (.int .i64 0)) fun b => p.cond b (F H) (bodyH p tS tI gT w a i F r k H K)
 | ⟨.skip, _, _⟩ :: r, k, H, K => bodyH p tS tI gT w a i F r k H K
variable {n : Nat} {res : Option β}
theorem fadrs_ptr : ∀ (path : List Nat) (id off : Nat) (K : AV → Option β), fadrs (PR n β) path (.ptr id off) K = K (.ptr id (off + path.sum))
 | [], id, off, K => rfl
 | o :: r, id, off, K => by
  show fadrs (PR n β) r (.ptr id (off + o)) K = _
  rw [fadrs_ptr r, List.sum_cons, Nat.add_assoc]
theorem fadrs_rp : ∀ (path : List Nat) (cells : List AV) (K : AV → Option β), fadrs (PR n β) path (.rp cells) K = K (.rp (cells.drop path.sum))
 | [], cells, K => by simp [fadrs]
 | o :: r, cells, K => by
  show fadrs (PR n β) r (.rp (cells.drop o)) K = _
  rw [fadrs_rp r, List.sum_cons, List.drop_drop]
theorem add1 (k : Int) (K : AV → Option β) (h0 : 0 ≤ k) (h1 : k ≤ 4611686018427387904) : pBin .add (.sc (.int .i64 k)) (.sc (.int .i64 1)) K = K (.sc (.int .i64 (k + 1))) := by
 show K (.sc (.int .i64 (IntKind.i64.wrap (k + 1)))) = _
 rw [wrap64 _ (by omega) (by omega)]
theorem rem3 (k : Int) (K : AV → Option β) : (pBin .rem (.sc (.int .i64 k)) (.sc (.int .i64 3)) fun q => pBin .eql q (.sc (.int .i64 0)) K) = K (.sc (.bool (k.tmod 3 == 0))) := rfl
theorem cv8 (k : Int) (K : AV → Option β) : pCvI .u8 (.sc (.int .i64 k)) K = K (.sc (.int .u8 (IntKind.u8.wrap k))) := rfl
theorem call_txt {tS gT : Nat} (h : TxtOk n tS gT) {k : Int} (h0 : 0 ≤ k) (h1 : k ≤ 4611686018427387904) (H : Heap) (K : AV → Heap → Option β) : (PR n β).call tS (.fn gT [] []) [.sc (.int .i64 k)] H K = K (.sc (.string (mTxt k))) H := by
 rw [PR_call (vs := [.sc (.int .i64 k)]) h.1 rfl (h.2 k h0 h1), instT_sc, List.append_nil]
theorem body_m {tS tI gT w len i : Nat} (hT : TxtOk n tS gT) (hi : i < len) : ∀ (todo : List FD) (off : Nat) (Q R S : List AV) (TP tR TS : List Nat) (k : Int) (A C : Heap) (K : AV → Heap → Option β),
  FdsM n off todo tR → TP.length = Q.length → Q.length = i * w + off → wfL (todo.map FD.f) R → 0 ≤ k → k + cntL (todo.map FD.f) R ≤ 4611686018427387904 →
  (∀ X, K (.sc (.int .i64 (mkL (todo.map FD.f) k R).2)) (A ++ (SB A.length (TP ++ (tR ++ TS)) (Q ++ ((mkL (todo.map FD.f) k R).1 ++ S)) ++ (C ++ X))) = res) →
  bodyM (PR n β) tS tI gT w (.sl A.length 0 len w) (.sc (.int .i64 i)) todo (.sc (.int .i64 k)) (A ++ (SB A.length (TP ++ (tR ++ TS)) (Q ++ (R ++ S)) ++ C)) K = res
 | [], off, Q, R, S, TP, tR, TS, k, A, C, K, hf, ht, hq, hw, h0, h1, h => by
  cases R with
  | nil =>
   have := h []
   simp only [List.append_nil] at this
   exact this
  | cons c R => exact absurd rfl hw.1
 | fd :: todo, off, Q, R, S, TP, tR, TS, k, A, C, K, hf, ht, hq, hw, h0, h1, h => by
  cases R with
  | nil => exact absurd (show fd.f :: todo.map FD.f = [] from hw) (by simp)
  | cons c R =>
  cases tR with
  | nil => exact hf.elim
  | cons t tR =>
  obtain ⟨hpath, hsub, hrest⟩ := hf
  obtain ⟨hwc, hwR⟩ := wfL_cons.1 hw
  have hpl : ∀ K' : AV → Option β, (pIadr w (.sl A.length 0 len w) (.sc (.int .i64 i)) fun t => fadrs (PR n β) fd.path t K') = K' (.ptr A.length Q.length) := fun K' => by
   rw [iadr_sl w _ _ _ _ _ hi, fadrs_ptr, hpath, hq, Nat.zero_add]
  have hcnt : cntL ((fd :: todo).map FD.f) (c :: R) = cntF fd.f c + cntL (todo.map FD.f) R := rfl
  have hmk : mkL ((fd :: todo).map FD.f) k (c :: R) = ((mkF fd.f k c).1 :: (mkL (todo.map FD.f) (mkF fd.f k c).2 R).1, (mkL (todo.map FD.f) (mkF fd.f k c).2 R).2) := rfl
  rw [hcnt] at h1
  rw [hmk] at h
  have e1 : ∀ (x : AV) (Y : List AV), Q ++ (x :: Y ++ S) = Q ++ x :: (Y ++ S) := fun x Y => rfl
  have e2 : ∀ (x : AV) (Y : List AV), Q ++ x :: (Y ++ S) = (Q ++ [x]) ++ (Y ++ S) := fun x Y => by simp
  have e3 : TP ++ (t :: tR ++ TS) = (TP ++ [t]) ++ (tR ++ TS) := by simp
  have e4 : TP ++ (t :: tR ++ TS) = TP ++ t :: (tR ++ TS) := rfl
  have go : ∀ (c' : AV) (k' : Int) (C : Heap) (K : AV → Heap → Option β), 0 ≤ k' → k' + cntL (todo.map FD.f) R ≤ 4611686018427387904 →
    (∀ X, K (.sc (.int .i64 (mkL (todo.map FD.f) k' R).2)) (A ++ (SB A.length (TP ++ (t :: tR ++ TS)) (Q ++ (c' :: (mkL (todo.map FD.f) k' R).1 ++ S)) ++ (C ++ X))) = res) →
    bodyM (PR n β) tS tI gT w (.sl A.length 0 len w) (.sc (.int .i64 i)) todo (.sc (.int .i64 k')) (A ++ (SB A.length (TP ++ (t :: tR ++ TS)) (Q ++ c' :: (R ++ S)) ++ C)) K = res := by
   intro c' k' C K h0' h1' h'
   have := body_m (tI := tI) (w := w) hT hi todo (off + 1) (Q ++ [c']) R S (TP ++ [t]) tR TS k' A C K hrest (by simp [ht]) (by simp [hq]; omega) hwR h0' h1' (fun X => by
    have := h' X
    rw [e1, e2, e3] at this
    exact this)
   rw [e3, e2]
   exact this
  obtain ⟨f, path, g⟩ := fd
  cases f with
  | skip =>
   have hc : ∃ v, c = .sc v := by
    cases c <;> first | exact ⟨_, rfl⟩ | exact hwc.elim
   obtain ⟨v, rfl⟩ := hc
   exact go (.sc v) k C K h0 (by simpa [cntF] using h1) h
  | sub fs =>
   have hc : ∃ m cells, c = .ro m cells := by
    cases c with
    | ro m cells => exact ⟨m, cells, rfl⟩
    | sc v => exact hwc.elim
    | _ => exact hwc.elim
   obtain ⟨m, cells, rfl⟩ := hc
   obtain ⟨hh, hx, ⟨j1, j2, hj1, hj2⟩, hmk'⟩ := hsub
   have hk' := mkF_cnt (.ro m cells) (.sub fs) k
   have h1 : k + (cntF (.sub fs) (.ro m cells) + cntL (todo.map FD.f) R : Nat) ≤ 4611686018427387904 := h1
   show (pIadr w (.sl A.length 0 len w) (.sc (.int .i64 i)) fun t => fadrs (PR n β) path t fun t => pLoad false 1 t _ fun v => (PR n β).call tI (.fn g [] []) [v, .sc (.int .i64 k)] _ fun k H => bodyM (PR n β) tS tI gT w _ _ todo k H K) = res
   rw [hpl]
   rw [e4, e1]
   refine ms_sub ht rfl hh hx (hmk' m cells k hwc h0 (by omega)) (fun M => ?_) (mkF_nb _ _ _) fun X => ?_
   ·rw [inst_SB hj1 hj2]
    show (instT ti0 E0.tp M t (.ro m _)).1 = _
    rw [inst_SB hj1 hj2]
   ·refine go _ _ (C ++ X) K (by omega) (by omega) fun Y => ?_
    rw [List.append_assoc]
    exact h (X ++ Y)
  | str =>
   have hc : ∃ s, c = .sc (.string s) := by
    cases c with
    | sc v => cases v <;> first | exact ⟨_, rfl⟩ | exact hwc.elim
    | _ => exact hwc.elim
   obtain ⟨v, rfl⟩ := hc
   have h1 : k + (1 + cntL (todo.map FD.f) R : Nat) ≤ 4611686018427387904 := h1
   show (PR n β).call tS (.fn gT [] []) [.sc (.int .i64 k)] _ (fun s H => pIadr w (.sl A.length 0 len w) (.sc (.int .i64 i)) fun t => fadrs (PR n β) path t fun t => pStore 1 t s H fun H => pBin .add (.sc (.int .i64 k)) (.sc (.int .i64 1)) fun k => bodyM (PR n β) tS tI gT w _ _ todo k H K) = res
   rw [call_txt hT h0 (by omega)]
   simp only [hpl]
   rw [e4, e1, sb_store ht rfl rfl, add1 _ _ h0 (by omega)]
   exact go _ _ C K (by omega) (by omega) h
  | int =>
   have hc : ∃ z, c = .sc (.int .i64 z) := by
    cases c with
    | sc v => cases v with
     | int kd z => cases kd <;> first | exact ⟨_, rfl⟩ | exact hwc.elim
     | _ => exact hwc.elim
    | _ => exact hwc.elim
   obtain ⟨v, rfl⟩ := hc
   have h1 : k + (1 + cntL (todo.map FD.f) R : Nat) ≤ 4611686018427387904 := h1
   show (pIadr w (.sl A.length 0 len w) (.sc (.int .i64 i)) fun t => fadrs (PR n β) path t fun t => pStore 1 t (.sc (.int .i64 k)) _ fun H => pBin .add (.sc (.int .i64 k)) (.sc (.int .i64 1)) fun k => bodyM (PR n β) tS tI gT w _ _ todo k H K) = res
   rw [hpl]
   rw [e4, e1, sb_store ht rfl rfl, add1 _ _ h0 (by omega)]
   exact go _ _ C K (by omega) (by omega) h
  | bool =>
   have hc : ∃ b, c = .sc (.bool b) := by
    cases c with
    | sc v => cases v <;> first | exact ⟨_, rfl⟩ | exact hwc.elim
    | _ => exact hwc.elim
   obtain ⟨v, rfl⟩ := hc
   have h1 : k + (1 + cntL (todo.map FD.f) R : Nat) ≤ 4611686018427387904 := h1
   show (pIadr w (.sl A.length 0 len w) (.sc (.int .i64 i)) fun t => fadrs (PR n β) path t fun t => pStore 1 t (.sc (.bool (k.tmod 3 == 0))) _ fun H => pBin .add (.sc (.int .i64 k)) (.sc (.int .i64 1)) fun k => bodyM (PR n β) tS tI gT w _ _ todo k H K) = res
   rw [hpl]
   rw [e4, e1, sb_store ht rfl rfl, add1 _ _ h0 (by omega)]
   exact go _ _ C K (by omega) (by omega) h
  | byt =>
   have hc : ∃ z, c = .sc (.int .u8 z) := by
    cases c with
    | sc v => cases v with
     | int kd z => cases kd <;> first | exact ⟨_, rfl⟩ | exact hwc.elim
     | _ => exact hwc.elim
    | _ => exact hwc.elim
   obtain ⟨v, rfl⟩ := hc
   have h1 : k + (1 + cntL (todo.map FD.f) R : Nat) ≤ 4611686018427387904 := h1
   show (pIadr w (.sl A.length 0 len w) (.sc (.int .i64 i)) fun t => fadrs (PR n β) path t fun t => pStore 1 t (.sc (.int .u8 (IntKind.u8.wrap k))) _ fun H => pBin .add (.sc (.int .i64 k)) (.sc (.int .i64 1)) fun k => bodyM (PR n β) tS tI gT w _ _ todo k H K) = res
   rw [hpl]
   rw [e4, e1, sb_store ht rfl rfl, add1 _ _ h0 (by omega)]
   exact go _ _ C K (by omega) (by omega) h
end fns
end Go.Proofs.YtejjggnchdldoaaDoor.Abs
set_option linter.unusedVariables false
set_option linter.unusedSimpArgs false
namespace Go.Proofs.YtejjggnchdldoaaDoor.Abs
open Go
variable {β : Type} {n : Nat} {res : Option β}
theorem FdsM_len {n : Nat} : ∀ {off : Nat} {fds : List FD} {ts : List Nat}, FdsM n off fds ts → fds.length = ts.length
 | _, [], [], _ => rfl
 | _, _ :: _, _ :: _, h => by simp [FdsM_len h.2.2]
 | _, [], _ :: _, h => h.elim
 | _, _ :: _, [], h => h.elim
theorem len_sl (id off m w : Nat) (k : AV → Option β) : pLen (.sl id off m w) k = k (.sc (.int .i64 m)) := rfl
theorem loop_m {tS tI gT w len : Nat} {cty : List Nat} {fds : List FD} (hT : TxtOk n tS gT) (hf : FdsM n 0 fds cty) (hw : fds.length = w) (hlen : len ≤ 1048576) (L : Nat → AV → AV → AV → Heap → Option β) (kk : AV → Heap → Option β)
  (hL : ∀ m a k i H, L (m + 1) a k i H = pLen a fun t8 => pBin .lss i t8 fun t9 => pCond t9 (bodyM (PR n β) tS tI gT w a i fds k H fun k' H => pBin .add i (.sc (.int .i64 1)) fun i' => L m a k' i' H) (kk k H)) :
  ∀ (r i m : Nat) (P S : List AV) (TP : List Nat) (k : Int) (A C : Heap), P.length = i * w → TP.length = P.length → i + r = len → r < m → wfL (repF r (fds.map FD.f)) S → 0 ≤ k → k + cntL (repF r (fds.map FD.f)) S ≤ 4611686018427387904 →
   (∀ X, kk (.sc (.int .i64 (mkL (repF r (fds.map FD.f)) k S).2)) (A ++ (SB A.length (TP ++ (List.replicate r cty).flatten) (P ++ (mkL (repF r (fds.map FD.f)) k S).1) ++ (C ++ X))) = res) →
   L m (.sl A.length 0 len w) (.sc (.int .i64 k)) (.sc (.int .i64 i)) (A ++ (SB A.length (TP ++ (List.replicate r cty).flatten) (P ++ S) ++ C)) = res
 | 0, i, m + 1, P, S, TP, k, A, C, hP, hTP, hr, hm, hwf, h0, h1, h => by
  have hS : S = [] := by
   have := wfL_len hwf
   simp [repF] at this
   exact List.eq_nil_of_length_eq_zero this.symm
  subst hS
  obtain rfl : i = len := by omega
  rw [hL]
  rw [len_sl, lss_nat, cond_b, if_neg (by simp)]
  have := h []
  simp only [List.append_nil, mkL] at this ⊢
  exact this
 | r + 1, i, m + 1, P, S, TP, k, A, C, hP, hTP, hr, hm, hwf, h0, h1, h => by
  have hi : i < len := by omega
  have hml : (fds.map FD.f).length = w := by simp [hw]
  have hSl : S.length = (r + 1) * w := by
   have := wfL_len hwf
   rw [repF_len, hml] at this
   exact this.symm
  obtain ⟨R, S', rfl, hRl⟩ : ∃ R S', S = R ++ S' ∧ R.length = w := ⟨S.take w, S.drop w, (List.take_append_drop w S).symm, by rw [List.length_take, hSl, Nat.succ_mul]; omega⟩
  rw [repF_succ] at hwf h1 h
  have hl : (fds.map FD.f).length = R.length := by rw [hml, hRl]
  obtain ⟨hwR, hwS⟩ := (wfL_append hl).1 hwf
  rw [cntL_append _ _ _ _ hl] at h1
  rw [mkL_append _ _ _ _ _ hl] at h
  have hkc := mkL_cnt R (fds.map FD.f) k
  have hRl' := mkL_len R (fds.map FD.f) k
  have hcl : cty.length = w := by rw [← FdsM_len hf, hw]
  rw [List.replicate_succ, List.flatten_cons] at h ⊢
  rw [hL]
  rw [len_sl, lss_nat, cond_b, if_pos (by simpa using hi)]
  refine body_m (w := w) (tI := tI) hT hi fds 0 P R S' TP cty (List.replicate r cty).flatten k A C _ hf hTP (by rw [hP, Nat.add_zero]) hwR h0 (by omega) fun X => ?_
  rw [inc_nat _ _ (by omega)]
  have ih := loop_m hT hf hw hlen L kk hL r (i + 1) m (P ++ (mkL (fds.map FD.f) k R).1) S' (TP ++ cty) (mkL (fds.map FD.f) k R).2 A (C ++ X) (by rw [List.length_append, hP, hRl', hRl, Nat.succ_mul]) (by rw [List.length_append, List.length_append, hTP, hcl, hRl', hRl]) (by omega) (by omega) hwS (by omega) (by omega) (fun Y => by
   have := h (X ++ Y)
   simp only [List.append_assoc] at this ⊢
   exact this)
  simp only [List.append_assoc] at ih ⊢
  exact ih
theorem mark_ok {tS tI gT w f tyS : Nat} {cty : List Nat} {fds : List FD} (hh : E0.hm f = true) (hx : E0.ext f = none) (hT : TxtOk n tS gT) (hf : FdsM n 0 fds cty) (hw : fds.length = w) (hty : ∃ i j, ti0 tyS = some i ∧ ti0 i.elem = some j ∧ j.size = w ∧ j.cty = cty) (hn : 1048576 < n)
  (L : (β : Type) → (AV → Heap → Option β) → Nat → AV → AV → AV → Heap → Option β)
  (hL : ∀ β kk m a k i H, L β kk (m + 1) a k i H = pLen a fun t8 => pBin .lss i t8 fun t9 => pCond t9 (bodyM (PR n β) tS tI gT w a i fds k H fun k' H => pBin .add i (.sc (.int .i64 1)) fun i' => L β kk m a k' i' H) (kk k H))
  (hF : ∀ β a b H kk, evalFn E0 (n + 1) β f [a, b] H kk = L β kk n a b (.sc (.int .i64 0)) H) : MarkOk (n + 1) f tyS (fds.map FD.f) := by
 obtain ⟨ti, tj, h1, h2, h3, h4⟩ := hty
 refine ⟨hh, hx, ⟨ti, tj, h1, h2⟩, fun len cells k hwf h0 hb => ?_⟩
 intro β A C K r h
 obtain ⟨hlen, hcl, hwl⟩ := (show len ≤ 1048576 ∧ cells.length = len * (fds.map FD.f).length ∧ wfL (repF len (fds.map FD.f)) cells from hwf)
 rw [hF, inst_SB h1 h2, h3, h4]
 have hmk : mkF (.sub (fds.map FD.f)) k (.ro len cells) = (.ro len (mkL (repF len (fds.map FD.f)) k cells).1, (mkL (repF len (fds.map FD.f)) k cells).2) := rfl
 rw [hmk] at h
 simp only [inst_SB h1 h2, h3, h4] at h
 exact loop_m (n := n) (cty := cty) hT hf hw hlen (L β K) K (hL β K) len 0 n [] cells [] k A C (by simp) rfl (by omega) (by omega) hwl h0 hb h
theorem body_h {tS tI gT w len i : Nat} {F : Heap → Option β} (hT : TxtOk n tS gT) (hi : i < len) (cells : List AV) (hw0 : i * w < cells.length) : ∀ (todo : List FD) (off : Nat) (Q R S : List AV) (k : Int) (H : Heap) (K : AV → Heap → Option β),
  FdsH n off todo → Q.length = i * w + off → wfL (todo.map FD.f) R → 0 ≤ k → k + cntL (todo.map FD.f) R ≤ 4611686018427387904 → cells = Q ++ ((mkL (todo.map FD.f) k R).1 ++ S) →
  (∀ X, K (.sc (.int .i64 (mkL (todo.map FD.f) k R).2)) (H ++ X) = res) →
  bodyH (PR n β) tS tI gT w (.ro len cells) (.sc (.int .i64 i)) F todo (.sc (.int .i64 k)) H K = res
 | [], off, Q, R, S, k, H, K, hf, hq, hw, h0, h1, hc, h => by
  cases R with
  | nil =>
   have := h []
   rw [List.append_nil] at this
   exact this
  | cons c R => exact absurd rfl hw.1
 | fd :: todo, off, Q, R, S, k, H, K, hf, hq, hw, h0, h1, hc, h => by
  cases R with
  | nil => exact absurd (show fd.f :: todo.map FD.f = [] from hw) (by simp)
  | cons c R =>
  obtain ⟨hpath, hsub, hrest⟩ := hf
  obtain ⟨hwc, hwR⟩ := wfL_cons.1 hw
  have hmk : mkL ((fd :: todo).map FD.f) k (c :: R) = ((mkF fd.f k c).1 :: (mkL (todo.map FD.f) (mkF fd.f k c).2 R).1, (mkL (todo.map FD.f) (mkF fd.f k c).2 R).2) := rfl
  rw [hmk] at h hc
  have hcells : cells = Q ++ (mkF fd.f k c).1 :: ((mkL (todo.map FD.f) (mkF fd.f k c).2 R).1 ++ S) := hc
  have hpl : ∀ K' : AV → Option β, (pIadr w (.ro len cells) (.sc (.int .i64 i)) fun t => fadrs (PR n β) fd.path t fun t => pLoad false 1 t H K') = K' (mkF fd.f k c).1 := fun K' => by
   rw [iadr_ro w _ _ i _ hi hw0, fadrs_rp, hpath, List.drop_drop, ← hq]
   conv => lhs; rw [hcells]
   rw [List.drop_append_of_le_length (Nat.le_refl _), List.drop_length, List.nil_append, ld1_rp]
  have go : ∀ (H' : Heap), (∀ X, K (.sc (.int .i64 (mkL (todo.map FD.f) (mkF fd.f k c).2 R).2)) (H' ++ X) = res) → 0 ≤ (mkF fd.f k c).2 → (mkF fd.f k c).2 + cntL (todo.map FD.f) R ≤ 4611686018427387904 →
    bodyH (PR n β) tS tI gT w (.ro len cells) (.sc (.int .i64 i)) F todo (.sc (.int .i64 (mkF fd.f k c).2)) H' K = res := by
   intro H' h' g0 g1
   exact body_h hT hi cells hw0 todo (off + 1) (Q ++ [(mkF fd.f k c).1]) R S (mkF fd.f k c).2 H' K hrest (by simp [hq]; omega) hwR g0 g1 (by rw [hcells]; simp) h'
  have hcnt := mkF_cnt c fd.f k
  have h1 : k + (cntF fd.f c + cntL (todo.map FD.f) R : Nat) ≤ 4611686018427387904 := h1
  obtain ⟨f, path, g⟩ := fd
  simp only at hcnt h1 hpl go h
  cases f with
  | skip =>
   have hc : ∃ v, c = .sc v := by
    cases c <;> first | exact ⟨_, rfl⟩ | exact hwc.elim
   obtain ⟨v, rfl⟩ := hc
   exact go H h h0 (by simpa [cntF, mkF] using h1)
  | sub fs =>
   have hc : ∃ m cells, c = .ro m cells := by
    cases c with
    | ro m cells => exact ⟨m, cells, rfl⟩
    | sc v => exact hwc.elim
    | _ => exact hwc.elim
   obtain ⟨m, cs, rfl⟩ := hc
   obtain ⟨hh, hhe⟩ := hsub
   show (pIadr w (.ro len cells) (.sc (.int .i64 i)) fun t => fadrs (PR n β) path t fun t => pLoad false 1 t H fun v => (PR n β).call tI (.fn g [] []) [v, .sc (.int .i64 k)] H fun k H => pBin .lss k (.sc (.int .i64 0)) fun b => pCond b (F H) (bodyH (PR n β) tS tI gT w _ _ F todo k H K)) = res
   rw [hpl, PR_call (vs := [(mkF (.sub fs) k (.ro m cs)).1, .sc (.int .i64 k)]) hh rfl (hhe tI m cs k hwc h0 (by omega)), instT_sc, List.append_nil]
   simp only
   rw [lss64, cond_b, if_neg (by simp; omega)]
   exact go H h (by omega) (by omega)
  | str =>
   have hc : ∃ s, c = .sc (.string s) := by
    cases c with
    | sc v => cases v <;> first | exact ⟨_, rfl⟩ | exact hwc.elim
    | _ => exact hwc.elim
   obtain ⟨v, rfl⟩ := hc
   have h1 : k + (1 + cntL (todo.map FD.f) R : Nat) ≤ 4611686018427387904 := h1
   have hpl' : ∀ K' : AV → Option β, (pIadr w (.ro len cells) (.sc (.int .i64 i)) fun t => fadrs (PR n β) path t fun t => pLoad false 1 t H K') = K' (.sc (.string (mTxt k))) := hpl
   show (pIadr w (.ro len cells) (.sc (.int .i64 i)) fun t => fadrs (PR n β) path t fun t => pLoad false 1 t H fun v => (PR n β).call tS (.fn gT [] []) [.sc (.int .i64 k)] H fun s H => pBin .neq v s fun b => pCond b (F H) (pBin .add (.sc (.int .i64 k)) (.sc (.int .i64 1)) fun k => bodyH (PR n β) tS tI gT w _ _ F todo k H K)) = res
   rw [hpl', call_txt hT h0 (by omega), neqS]
   simp only [beq_self_eq_true, Bool.not_true]
   rw [cond_b, if_neg (by simp), add1 _ _ h0 (by omega)]
   exact go H h (by show 0 ≤ k + 1; omega) (by show k + 1 + _ ≤ _; omega)
  | int =>
   have hc : ∃ z, c = .sc (.int .i64 z) := by
    cases c with
    | sc v => cases v with
     | int kd z => cases kd <;> first | exact ⟨_, rfl⟩ | exact hwc.elim
     | _ => exact hwc.elim
    | _ => exact hwc.elim
   obtain ⟨v, rfl⟩ := hc
   have h1 : k + (1 + cntL (todo.map FD.f) R : Nat) ≤ 4611686018427387904 := h1
   have hpl' : ∀ K' : AV → Option β, (pIadr w (.ro len cells) (.sc (.int .i64 i)) fun t => fadrs (PR n β) path t fun t => pLoad false 1 t H K') = K' (.sc (.int .i64 k)) := hpl
   show (pIadr w (.ro len cells) (.sc (.int .i64 i)) fun t => fadrs (PR n β) path t fun t => pLoad false 1 t H fun v => pBin .neq v (.sc (.int .i64 k)) fun b => pCond b (F H) (pBin .add (.sc (.int .i64 k)) (.sc (.int .i64 1)) fun k => bodyH (PR n β) tS tI gT w _ _ F todo k H K)) = res
   rw [hpl', neq64]
   simp only [bne_self_eq_false]
   rw [cond_b, if_neg (by simp), add1 _ _ h0 (by omega)]
   exact go H h (by show 0 ≤ k + 1; omega) (by show k + 1 + _ ≤ _; omega)
  | bool =>
   have hc : ∃ b, c = .sc (.bool b) := by
    cases c with
    | sc v => cases v <;> first | exact ⟨_, rfl⟩ | exact hwc.elim
    | _ => exact hwc.elim
   obtain ⟨v, rfl⟩ := hc
   have h1 : k + (1 + cntL (todo.map FD.f) R : Nat) ≤ 4611686018427387904 := h1
   have hpl' : ∀ K' : AV → Option β, (pIadr w (.ro len cells) (.sc (.int .i64 i)) fun t => fadrs (PR n β) path t fun t => pLoad false 1 t H K') = K' (.sc (.bool (k.tmod 3 == 0))) := hpl
   show (pIadr w (.ro len cells) (.sc (.int .i64 i)) fun t => fadrs (PR n β) path t fun t => pLoad false 1 t H fun v => pBinB .neq v (.sc (.bool (k.tmod 3 == 0))) fun b => pCond b (F H) (pBin .add (.sc (.int .i64 k)) (.sc (.int .i64 1)) fun k => bodyH (PR n β) tS tI gT w _ _ F todo k H K)) = res
   rw [hpl', neqB]
   simp only [beq_self_eq_true, Bool.not_true]
   rw [cond_b, if_neg (by simp), add1 _ _ h0 (by omega)]
   exact go H h (by show 0 ≤ k + 1; omega) (by show k + 1 + _ ≤ _; omega)
  | byt =>
   have hc : ∃ z, c = .sc (.int .u8 z) := by
    cases c with
    | sc v => cases v with
     | int kd z => cases kd <;> first | exact ⟨_, rfl⟩ | exact hwc.elim
     | _ => exact hwc.elim
    | _ => exact hwc.elim
   obtain ⟨v, rfl⟩ := hc
   have h1 : k + (1 + cntL (todo.map FD.f) R : Nat) ≤ 4611686018427387904 := h1
   have hpl' : ∀ K' : AV → Option β, (pIadr w (.ro len cells) (.sc (.int .i64 i)) fun t => fadrs (PR n β) path t fun t => pLoad false 1 t H K') = K' (.sc (.int .u8 (IntKind.u8.wrap k))) := hpl
   show (pIadr w (.ro len cells) (.sc (.int .i64 i)) fun t => fadrs (PR n β) path t fun t => pLoad false 1 t H fun v => pBin .neq v (.sc (.int .u8 (IntKind.u8.wrap k))) fun b => pCond b (F H) (pBin .add (.sc (.int .i64 k)) (.sc (.int .i64 1)) fun k => bodyH (PR n β) tS tI gT w _ _ F todo k H K)) = res
   rw [hpl']
   show pCond (.sc (.bool (IntKind.u8.wrap k != IntKind.u8.wrap k))) _ _ = res
   simp only [bne_self_eq_false]
   rw [cond_b, if_neg (by simp), add1 _ _ h0 (by omega)]
   exact go H h (by show 0 ≤ k + 1; omega) (by show k + 1 + _ ≤ _; omega)
theorem loop_h {tS tI gT w len : Nat} {fds : List FD} (hT : TxtOk n tS gT) (hf : FdsH n 0 fds) (hw : fds.length = w) (hw0 : 0 < w) (hlen : len ≤ 1048576) (cells : List AV) (L : Nat → AV → AV → AV → Heap → Option β) (kk : AV → Heap → Option β)
  (hL : ∀ m a k i H, L (m + 1) a k i H = pLen a fun t8 => pBin .lss i t8 fun t9 => pCond t9 (bodyH (PR n β) tS tI gT w a i (fun H => kk (.sc (.int .i64 (-1))) H) fds k H fun k' H => pBin .add i (.sc (.int .i64 1)) fun i' => L m a k' i' H) (kk k H)) :
  ∀ (r i m : Nat) (P S : List AV) (k : Int) (H : Heap), P.length = i * w → i + r = len → r < m → wfL (repF r (fds.map FD.f)) S → 0 ≤ k → k + cntL (repF r (fds.map FD.f)) S ≤ 4611686018427387904 → cells = P ++ (mkL (repF r (fds.map FD.f)) k S).1 →
   (∀ X, kk (.sc (.int .i64 (mkL (repF r (fds.map FD.f)) k S).2)) (H ++ X) = res) →
   L m (.ro len cells) (.sc (.int .i64 k)) (.sc (.int .i64 i)) H = res
 | 0, i, m + 1, P, S, k, H, hP, hr, hm, hwf, h0, h1, hc, h => by
  have hS : S = [] := by
   have := wfL_len hwf
   simp [repF] at this
   exact List.eq_nil_of_length_eq_zero this.symm
  subst hS
  obtain rfl : i = len := by omega
  rw [hL, len_ro, lss_nat, cond_b, if_neg (by simp)]
  have := h []
  simp only [List.append_nil, mkL] at this ⊢
  exact this
 | r + 1, i, m + 1, P, S, k, H, hP, hr, hm, hwf, h0, h1, hc, h => by
  have hi : i < len := by omega
  have hml : (fds.map FD.f).length = w := by simp [hw]
  have hSl : S.length = (r + 1) * w := by
   have := wfL_len hwf
   rw [repF_len, hml] at this
   exact this.symm
  obtain ⟨R, S', rfl, hRl⟩ : ∃ R S', S = R ++ S' ∧ R.length = w := ⟨S.take w, S.drop w, (List.take_append_drop w S).symm, by rw [List.length_take, hSl, Nat.succ_mul]; omega⟩
  rw [repF_succ] at hwf h1 h hc
  have hl : (fds.map FD.f).length = R.length := by rw [hml, hRl]
  obtain ⟨hwR, hwS⟩ := (wfL_append hl).1 hwf
  rw [cntL_append _ _ _ _ hl] at h1
  rw [mkL_append _ _ _ _ _ hl] at h hc
  have hkc := mkL_cnt R (fds.map FD.f) k
  have hRl' := mkL_len R (fds.map FD.f) k
  have hcl : i * w < cells.length := by
   rw [hc, List.length_append, List.length_append, hRl', hRl, hP]
   omega
  rw [hL, len_ro, lss_nat, cond_b, if_pos (by simpa using hi)]
  refine body_h (w := w) (tI := tI) hT hi cells hcl fds 0 P R (mkL (repF r (fds.map FD.f)) (mkL (fds.map FD.f) k R).2 S').1 k H _ hf (by rw [hP, Nat.add_zero]) hwR h0 (by omega) hc fun X => ?_
  rw [inc_nat _ _ (by omega)]
  exact loop_h hT hf hw hw0 hlen cells L kk hL r (i + 1) m (P ++ (mkL (fds.map FD.f) k R).1) S' (mkL (fds.map FD.f) k R).2 (H ++ X) (by rw [List.length_append, hP, hRl', hRl, Nat.succ_mul]) (by omega) (by omega) hwS (by omega) (by omega) (by rw [hc, List.append_assoc]) (fun Y => by
   have := h (X ++ Y)
   rw [List.append_assoc]
   exact this)
theorem held_ok {tS tI gT w f : Nat} {fds : List FD} (hh : plainF f = false) (hT : TxtOk n tS gT) (hf : FdsH n 0 fds) (hw : fds.length = w) (hw0 : 0 < w) (hn : 1048576 < n)
  (L : (AV → Heap → Option AV) → Nat → AV → AV → AV → Heap → Option AV)
  (hL : ∀ kk m a k i H, L kk (m + 1) a k i H = pLen a fun t8 => pBin .lss i t8 fun t9 => pCond t9 (bodyH (PR n AV) tS tI gT w a i (fun H => kk (.sc (.int .i64 (-1))) H) fds k H fun k' H => pBin .add i (.sc (.int .i64 1)) fun i' => L kk m a k' i' H) (kk k H))
  (hF : ∀ a b H kk, evalFn E0 (n + 1) AV f [a, b] H kk = L kk n a b (.sc (.int .i64 0)) H) : HeldOk (n + 1) f (fds.map FD.f) := by
 refine ⟨hh, fun ty len cells k hwf h0 hb => ?_⟩
 obtain ⟨hlen, hcl, hwl⟩ := (show len ≤ 1048576 ∧ cells.length = len * (fds.map FD.f).length ∧ wfL (repF len (fds.map FD.f)) cells from hwf)
 rw [tree_def, hF]
 exact loop_h (n := n) hT hf hw hw0 hlen (mkL (repF len (fds.map FD.f)) k cells).1 (L fun x H => ownTree ti0 E0.tp ty H x) (fun x H => ownTree ti0 E0.tp ty H x) (hL _) len 0 n [] cells k [] (by simp) (by omega) (by omega) hwl h0 hb rfl (fun X => rfl)
end Go.Proofs.YtejjggnchdldoaaDoor.Abs
set_option linter.unusedVariables false
set_option linter.unusedSimpArgs false
namespace Go.Proofs.YtejjggnchdldoaaDoor.Abs
open Go
section txt
theorem txt_fill (v : AV) (h : cellsA v = some [v]) : fillA [(.sc (.int .u8 0))] [(0, 1, v)] = some [v] := by
 simp [fillA, h, splice]
theorem txt_bytes (H : Heap) (b : UInt8) : content (H ++ [⟨[.sc (.int .u8 b.toNat)], true, true⟩]) 1 (.sl H.length 0 1 1) = some [.sc (.int .u8 b.toNat)] := by
 simp only [content, if_true, rdCells, get_at H _ []]
 rfl
theorem digs_pos {k : Nat} (h : ¬ k = 0) (out : ByteArray) : digs k out = digs (k / 10) (⟨#[UInt8.ofNat (48 + k % 10)]⟩ ++ out) := by
 rw [digs, dif_neg h]
theorem txt_loop {n ty : Nat} (L : Nat → AV → AV → Heap → Option AV)
  (hL : ∀ m k s H, L (m + 1) k s H = pBin .gtr k (.sc (.int .i64 0)) fun t7 => pCond t7 (pBin .rem k (.sc (.int .i64 10)) fun t9 => pBin .add (.sc (.int .i64 48)) t9 fun t10 => pCvI .u8 t10 fun t11 =>
   (fillA [(.sc (.int .u8 0))] [(0, 1, t11)]).bind fun ct12 => pNewSl 1 1 ct12 true H fun t12 H => pCvBS t12 H fun t13 => pBin .add t13 s fun t15 => pBin .quo k (.sc (.int .i64 10)) fun t17 => L m t17 t15 H)
   (pBin .add (.sc (.string ⟨#[109]⟩)) s fun t19 => ownTree ti0 E0.tp ty H t19)) :
  ∀ (b m k : Nat) (out : ByteArray) (H : Heap), k ≤ 4611686018427387904 → k < 10 ^ b → b < m → out.size + b ≤ 1000 → L m (.sc (.int .i64 k)) (.sc (.string out)) H = some (.sc (.string (⟨#[109]⟩ ++ digs k out)))
 | b, 0, k, out, H, hk0, h1, h2, h3 => by omega
 | b, m + 1, k, out, H, hk0, h1, h2, h3 => by
  rw [hL, gtr64, cond_b]
  by_cases hk : k = 0
  ·subst hk
   rw [if_neg (by simp)]
   have hs : (⟨#[109]⟩ : ByteArray).size + out.size ≤ 9223372036854775807 := by
    show 1 + out.size ≤ _
    omega
   show (binS .add ⟨#[109]⟩ out).bind _ = _
   simp only [binS, if_pos hs, Option.bind_some]
   rw [digs, dif_pos rfl]
   rfl
  ·rw [if_pos (by simp; omega)]
   have e9 : ∀ K : AV → Option AV, pBin .rem (.sc (.int .i64 (k : Int))) (.sc (.int .i64 10)) K = K (.sc (.int .i64 ((k % 10 : Nat) : Int))) := by
    intro K
    show K (.sc (.int .i64 ((k : Int).tmod 10))) = _
    rw [show ((k : Int).tmod 10) = ((k % 10 : Nat) : Int) from by
     rw [Int.tmod_eq_emod_of_nonneg (by omega)]; simp]
   have e10 : ∀ K : AV → Option AV, pBin .add (.sc (.int .i64 48)) (.sc (.int .i64 ((k % 10 : Nat) : Int))) K = K (.sc (.int .i64 ((48 + k % 10 : Nat) : Int))) := by
    intro K
    show K (.sc (.int .i64 (IntKind.i64.wrap (48 + ((k % 10 : Nat) : Int))))) = _
    rw [wrap64 _ (by omega) (by omega)]
    rfl
   have e11 : ∀ K : AV → Option AV, pCvI .u8 (.sc (.int .i64 ((48 + k % 10 : Nat) : Int))) K = K (.sc (.int .u8 ((UInt8.ofNat (48 + k % 10)).toNat : Int))) := by
    intro K
    show K (.sc (.int .u8 (IntKind.u8.wrap ((48 + k % 10 : Nat) : Int)))) = _
    have : (UInt8.ofNat (48 + k % 10)).toNat = 48 + k % 10 := by
     rw [UInt8.toNat_ofNat']
     omega
    rw [this]
    have hw : IntKind.u8.wrap ((48 + k % 10 : Nat) : Int) = ((48 + k % 10 : Nat) : Int) := by
     have h10 : k % 10 < 10 := Nat.mod_lt _ (by decide)
     unfold IntKind.wrap
     simp [IntKind.bits, IntKind.signed]
     omega
    rw [hw]
   have e17 : ∀ K : AV → Option AV, pBin .quo (.sc (.int .i64 (k : Int))) (.sc (.int .i64 10)) K = K (.sc (.int .i64 ((k / 10 : Nat) : Int))) := by
    intro K
    show K (.sc (.int .i64 (IntKind.i64.wrap ((k : Int).tdiv 10)))) = _
    rw [Int.tdiv_eq_ediv_of_nonneg (by omega), wrap64 _ (by omega) (by omega)]
    rfl
   rw [e9, e10, e11, txt_fill _ rfl]
   have hb : ((UInt8.ofNat (48 + k % 10)).toNat : Int).toNat = (UInt8.ofNat (48 + k % 10)).toNat := Int.toNat_natCast _
   have hbb : ([.sc (.int .u8 ((UInt8.ofNat (48 + k % 10)).toNat : Int))] : List AV).mapM byteOf = some [UInt8.ofNat (48 + k % 10)] := byteOf_bytes [UInt8.ofNat (48 + k % 10)]
   simp only [Option.bind_some, pNewSl, pCvBS, txt_bytes, hbb]
   have hs : (⟨#[UInt8.ofNat (48 + k % 10)]⟩ : ByteArray).size + out.size ≤ 9223372036854775807 := by
    show 1 + out.size ≤ _
    omega
   have e15 : ∀ K : AV → Option AV, pBin .add (.sc (.string ⟨[UInt8.ofNat (48 + k % 10)].toArray⟩)) (.sc (.string out)) K = K (.sc (.string (⟨#[UInt8.ofNat (48 + k % 10)]⟩ ++ out))) := by
    intro K
    show (binS .add ⟨#[UInt8.ofNat (48 + k % 10)]⟩ out).bind _ = _
    simp only [binS, if_pos hs, Option.bind_some]
   rw [e15, e17]
   cases b with
   | zero => simp at h1; omega
   | succ b =>
    have hk10 : k / 10 < 10 ^ b := by
     rw [Nat.pow_succ] at h1
     omega
    have hsz : (⟨#[UInt8.ofNat (48 + k % 10)]⟩ ++ out : ByteArray).size = 1 + out.size := by
     rw [ByteArray.size_append]
     rfl
    rw [txt_loop (n := n) (ty := ty) L hL b m (k / 10) _ _ (by omega) hk10 (by omega) (by rw [hsz]; omega)]
    rw [digs_pos hk out]
end txt
theorem txt_ok {n tS f : Nat} (hh : plainF f = false) (hn : 1048576 < n) (L : (AV → Heap → Option AV) → Nat → AV → AV → Heap → Option AV)
  (hL : ∀ kk m k s H, L kk (m + 1) k s H = pBin .gtr k (.sc (.int .i64 0)) fun t7 => pCond t7 (pBin .rem k (.sc (.int .i64 10)) fun t9 => pBin .add (.sc (.int .i64 48)) t9 fun t10 => pCvI .u8 t10 fun t11 =>
   (fillA [(.sc (.int .u8 0))] [(0, 1, t11)]).bind fun ct12 => pNewSl 1 1 ct12 true H fun t12 H => pCvBS t12 H fun t13 => pBin .add t13 s fun t15 => pBin .quo k (.sc (.int .i64 10)) fun t17 => L kk m t17 t15 H)
   (pBin .add (.sc (.string ⟨#[109]⟩)) s fun t19 => kk t19 H))
  (hF : ∀ a H kk, evalFn E0 (n + 1) AV f [a] H kk = pBin .leq a (.sc (.int .i64 0)) fun t5 => pCond t5 (kk (.sc (.string ⟨#[109, 48]⟩)) H) (L kk n a (.sc (.string ⟨#[]⟩)) H)) : TxtOk (n + 1) tS f := by
 refine ⟨hh, fun k h0 h1 => ?_⟩
 rw [tree_def, hF, leq64, cond_b]
 by_cases hk : k ≤ 0
 ·rw [if_pos (by simpa using hk), own_v, mTxt, if_pos hk]
  rfl
 ·rw [if_neg (by simpa using hk)]
  obtain ⟨m, rfl⟩ : ∃ m : Nat, k = m := ⟨k.toNat, by omega⟩
  have := txt_loop (n := n) (ty := tS) (L fun x H => ownTree ti0 E0.tp tS H x) (hL _) 19 n m ⟨#[]⟩ [] (by omega) (by omega) (by omega) (by decide)
  rw [this, mTxt, if_neg hk]
  rfl
inductive FV where
 | skip
 | sub (fs : List MF) (path : List Nat) (g : FuncId)
 | agg (l : List MF) (path : List Nat) (w : Nat) (g : FuncId)
def flatV : List FV → List MF
 | [] => []
 | .skip :: r => .skip :: flatV r
 | .sub fs _ _ :: r => .sub fs :: flatV r
 | .agg l _ _ _ :: r => l ++ flatV r
def MarkV (n g : Nat) (cty : List Nat) (fs : List MF) : Prop := E0.hm g = true ∧ E0.ext g = none ∧ ∀ (cs : List AV) (k : Int) (β : Type) (A C : Heap) (K : AV → Heap → Option β) (r : Option β), wfL fs cs → 0 ≤ k → k + cntL fs cs ≤ 4611686018427387904 →
 (∀ X, K (.sc (.int .i64 (mkL fs k cs).2)) (A ++ ((instL ti0 E0.tp A.length cty (mkL fs k cs).1).2 ++ (C ++ X))) = r) → evalFn E0 n β g [.agg (instL ti0 E0.tp A.length cty cs).1, .sc (.int .i64 k)] (A ++ ((instL ti0 E0.tp A.length cty cs).2 ++ C)) K = r
def HeldV (n g : Nat) (fs : List MF) : Prop := plainF g = false ∧ ∀ (ty : Nat) (cs : List AV) (k : Int), wfL fs cs → 0 ≤ k → k + cntL fs cs ≤ 4611686018427387904 → tree E0 n ty g [.agg (mkL fs k cs).1, .sc (.int .i64 k)] = some (.sc (.int .i64 (mkL fs k cs).2))
def isV : MF → Bool
 | .skip => true
 | .sub _ => true
 | _ => false
def FvM (n : Nat) : Nat → List FV → List Nat → Prop
 | _, [], [] => True
 | off, .skip :: r, _ :: ts => FvM n (off + 1) r ts
 | off, .sub fs path g :: r, t :: ts => path.sum = off ∧ MarkOk n g t fs ∧ FvM n (off + 1) r ts
 | off, .agg l path w g :: r, ts => path.sum = off ∧ l.length = w ∧ 0 < w ∧ l.all isV = true ∧ MarkV n g (ts.take w) l ∧ w ≤ ts.length ∧ FvM n (off + w) r (ts.drop w)
 | _, _, _ => False
def FvH (n : Nat) : Nat → List FV → Prop
 | _, [] => True
 | off, .skip :: r => FvH n (off + 1) r
 | off, .sub fs path g :: r => path.sum = off ∧ HeldOk n g fs ∧ FvH n (off + 1) r
 | off, .agg l path w g :: r => path.sum = off ∧ l.length = w ∧ 0 < w ∧ HeldV n g l ∧ FvH n (off + w) r
section fns
variable {β : Type}
def bodyV (p : Pr β) (tI : Nat) (x : AV) : List FV → AV → Heap → (AV → Heap → Option β) → Option β
 | [], k, H, K => K k H
 | .skip :: r, k, H, K => bodyV p tI x r k H K
 | .sub _ path g :: r, k, H, K => fadrs p path x fun t => p.load false 1 t H fun v => p.call tI (.fn g [] []) [v, k] H fun k H => bodyV p tI x r k H K
 | .agg _ path w g :: r, k, H, K => fadrs p path x fun t => p.load true w t H fun v => p.call tI (.fn g [] []) [v, k] H fun k H => bodyV p tI x r k H K
def bodyHV (p : Pr β) (tI : Nat) (x : AV) (F : Heap → Option β) : List FV → AV → Heap → (AV → Heap → Option β) → Option β
 | [], k, H, K => K k H
 | .skip :: r, k, H, K => bodyHV p tI x F r k H K
 | .sub _ path g :: r, k, H, K => fadrs p path x fun t => p.load false 1 t H fun v => p.call tI (.fn g [] []) [v, k] H fun k H => p.bin .lss k (.sc (.int .i64 0)) fun b => p.cond b (F H) (bodyHV p tI x F r k H K)
 | .agg _ path w g :: r, k, H, K => fadrs p path x fun t => p.load true w t H fun v => p.call tI (.fn g [] []) [v, k] H fun k H => p.bin .lss k (.sc (.int .i64 0)) fun b => p.cond b (F H) (bodyHV p tI x F r k H K)
variable {n : Nat} {res : Option β}
theorem mk_ro_same {t g : Nat} {n : Nat} {fs : List MF} (h : MarkOk n g t fs) (k : Int) (m : Nat) (cells : List AV) (M : Nat) : (instT ti0 E0.tp M t (mkF (.sub fs) k (.ro m cells)).1).1 = (instT ti0 E0.tp M t (.ro m cells)).1 := by
 obtain ⟨_, _, ⟨j1, j2, hj1, hj2⟩, _⟩ := h
 rw [inst_SB hj1 hj2]
 show (instT ti0 E0.tp M t (.ro m _)).1 = _
 rw [inst_SB hj1 hj2]
theorem mkL_same {ti : Nat → Option TI} {tp : Nat → Option (List Nat)} : ∀ (cs : List AV) (fs : List MF) (k : Int) (N : Nat) (ts : List Nat), fs.all isV = true → wfL fs cs → (instL ti tp N ts (mkL fs k cs).1).1 = (instL ti tp N ts cs).1
 | [], fs, k, N, ts, _, _ => by simp [mkL]
 | c :: cs, [], k, N, ts, _, hw => absurd rfl hw.1
 | c :: cs, f :: fs, k, N, ts, hv, hw => by
  obtain ⟨h1, h2⟩ := wfL_cons.1 hw
  rw [List.all_cons, Bool.and_eq_true] at hv
  have ih := mkL_same (ti := ti) (tp := tp) cs fs (mkF f k c).2 (N + nbT c) ts.tail hv.2 h2
  have hn := mkF_nb c f k
  have e : (instT ti tp N (ts.headD 0) (mkF f k c).1).1 = (instT ti tp N (ts.headD 0) c).1 := by
   cases c with
   | sc v => cases f <;> first | rfl | (exfalso; simpa [isV] using hv.1)
   | ro m cells => cases f <;> first | rfl | exact h1.elim
   | _ => exact h1.elim
  show (instT ti tp N (ts.headD 0) (mkF f k c).1).1 :: (instL ti tp (N + (instT ti tp N (ts.headD 0) (mkF f k c).1).2.length) ts.tail (mkL fs (mkF f k c).2 cs).1).1 = _ :: (instL ti tp (N + (instT ti tp N (ts.headD 0) c).2.length) ts.tail cs).1
  rw [inst_nb, inst_nb, e, hn, ih]
theorem body_v {tI idx : Nat} {ys : List AV} : ∀ (todo : List FV) (off : Nat) (Q R : List AV) (TP tR : List Nat) (k : Int) (A D : Heap) (K : AV → Heap → Option β),
  FvM n off todo tR → TP.length = Q.length → Q.length = off → wfL (flatV todo) R → 0 ≤ k → k + cntL (flatV todo) R ≤ 4611686018427387904 →
  (instL ti0 E0.tp A.length (TP ++ tR) (Q ++ R)).1 = ys → D[idx]? = some ⟨ys, true, true⟩ →
  (∀ X, K (.sc (.int .i64 (mkL (flatV todo) k R).2)) (A ++ ((instL ti0 E0.tp A.length (TP ++ tR) (Q ++ (mkL (flatV todo) k R).1)).2 ++ (D ++ X))) = res) →
  bodyV (PR n β) tI (.ptr (A.length + nbL (Q ++ R) + idx) 0) todo (.sc (.int .i64 k)) (A ++ ((instL ti0 E0.tp A.length (TP ++ tR) (Q ++ R)).2 ++ D)) K = res
 | [], off, Q, R, TP, tR, k, A, D, K, hf, hT, hq, hw, h0, h1, hy, hD, h => by
  cases R with
  | nil =>
   have := h []
   rw [List.append_nil D] at this
   exact this
  | cons c R => exact absurd rfl hw.1
 | .skip :: todo, off, Q, R, TP, tR, k, A, D, K, hf, hT, hq, hw, h0, h1, hy, hD, h => by
  cases R with
  | nil => exact absurd (show MF.skip :: flatV todo = [] from hw) (by simp)
  | cons c R =>
  cases tR with
  | nil => exact hf.elim
  | cons t tR =>
  obtain ⟨hwc, hwR⟩ := wfL_cons.1 (show wfL (MF.skip :: flatV todo) (c :: R) from hw)
  obtain ⟨v, rfl⟩ : ∃ v, c = .sc v := by
   cases c <;> first | exact ⟨_, rfl⟩ | exact hwc.elim
  have e1 : Q ++ .sc v :: R = (Q ++ [.sc v]) ++ R := by simp
  have e2 : TP ++ t :: tR = (TP ++ [t]) ++ tR := by simp
  have h1 : k + (0 + cntL (flatV todo) R : Nat) ≤ 4611686018427387904 := h1
  rw [e1, e2] at hy ⊢
  refine body_v todo (off + 1) (Q ++ [.sc v]) R (TP ++ [t]) tR k A D K hf (by simp [hT]) (by simp [hq]) hwR h0 (by omega) hy hD fun X => ?_
  have := h X
  rw [e2] at this
  simp only [List.append_assoc] at this ⊢
  exact this
 | .sub fs path g :: todo, off, Q, R, TP, tR, k, A, D, K, hf, hT, hq, hw, h0, h1, hy, hD, h => by
  cases R with
  | nil => exact absurd (show MF.sub fs :: flatV todo = [] from hw) (by simp)
  | cons c R =>
  cases tR with
  | nil => exact hf.elim
  | cons t tR =>
  obtain ⟨hpath, hmk, hrest⟩ := hf
  obtain ⟨hwc, hwR⟩ := wfL_cons.1 (show wfL (MF.sub fs :: flatV todo) (c :: R) from hw)
  obtain ⟨m, cells, rfl⟩ : ∃ m cells, c = .ro m cells := by
   cases c with
   | ro m cells => exact ⟨m, cells, rfl⟩
   | sc v => exact hwc.elim
   | _ => exact hwc.elim
  have h1 : k + (cntF (.sub fs) (.ro m cells) + cntL (flatV todo) R : Nat) ≤ 4611686018427387904 := h1
  have hk' := mkF_cnt (.ro m cells) (.sub fs) k
  have hn' := mkF_nb (.ro m cells) (.sub fs) k
  have hs' := mk_ro_same hmk k m cells
  have hmk2 := hmk.2.2.2 m cells k hwc h0 (by omega)
  have hl : (instL ti0 E0.tp A.length TP Q).1.length = Q.length := instL_len _ _ _
  have hsplit := fun (x : AV) => inst_mid (ti := ti0) (tp := E0.tp) TP tR t Q R x A.length hT
  rw [hsplit] at hy
  have hys : ys.drop off = (instT ti0 E0.tp (A.length + nbL Q) t (.ro m cells)).1 :: (instL ti0 E0.tp (A.length + nbL Q + nbT (.ro m cells)) tR R).1 := by
   rw [← hy, ← hq, ← hl, List.drop_append_of_le_length (Nat.le_refl _), List.drop_length, List.nil_append]
  have hlen : (instL ti0 E0.tp A.length (TP ++ t :: tR) (Q ++ .ro m cells :: R)).2.length = nbL (Q ++ .ro m cells :: R) := instL_nb _ _ _
  show (fadrs (PR n β) path (.ptr (A.length + nbL (Q ++ .ro m cells :: R) + idx) 0) fun t => pLoad false 1 t _ fun v => (PR n β).call tI (.fn g [] []) [v, .sc (.int .i64 k)] _ fun k H => bodyV (PR n β) tI _ todo k H K) = res
  rw [fadrs_ptr, hpath, Nat.zero_add]
  have hget : (A ++ ((instL ti0 E0.tp A.length (TP ++ t :: tR) (Q ++ .ro m cells :: R)).2 ++ D))[A.length + nbL (Q ++ .ro m cells :: R) + idx]? = some ⟨ys, true, true⟩ := by
   rw [List.getElem?_append_right (by omega), List.getElem?_append_right (by omega), hlen]
   rw [show A.length + nbL (Q ++ .ro m cells :: R) + idx - A.length - nbL (Q ++ .ro m cells :: R) = idx by omega]
   exact hD
  have hld : rdCells (A ++ ((instL ti0 E0.tp A.length (TP ++ t :: tR) (Q ++ .ro m cells :: R)).2 ++ D)) (A.length + nbL (Q ++ .ro m cells :: R) + idx) off 1 = some [(instT ti0 E0.tp (A.length + nbL Q) t (.ro m cells)).1] := by
   have hle : off + 1 ≤ ys.length := by
    have := congrArg List.length hys
    rw [List.length_drop, List.length_cons] at this
    omega
   simp only [rdCells, hget, if_true, hle, hys]
   rfl
  rw [ldF hld, PR_hm hmk.1 hmk.2.1]
  have e : ∀ (x : AV) (B : Heap), A ++ ((instL ti0 E0.tp A.length (TP ++ t :: tR) (Q ++ x :: R)).2 ++ B) = (A ++ (instL ti0 E0.tp A.length TP Q).2) ++ ((instT ti0 E0.tp (A.length + nbL Q) t x).2 ++ ((instL ti0 E0.tp (A.length + nbL Q + nbT x) tR R).2 ++ B)) := by
   intro x B
   simp only [hsplit, List.append_assoc]
  have hN : (A ++ (instL ti0 E0.tp A.length TP Q).2).length = A.length + nbL Q := by rw [List.length_append, instL_nb]
  rw [e]
  have key := hmk2 β (A ++ (instL ti0 E0.tp A.length TP Q).2) ((instL ti0 E0.tp (A.length + nbL Q + nbT (.ro m cells)) tR R).2 ++ D) (fun k H => bodyV (PR n β) tI (.ptr (A.length + nbL (Q ++ .ro m cells :: R) + idx) 0) todo k H K) res
  rw [hN] at key
  refine key fun X => ?_
  generalize hc' : (mkF (.sub fs) k (.ro m cells)).1 = c' at hn' hs' h ⊢
  have e1 : ∀ (Y : List AV), Q ++ c' :: Y = (Q ++ [c']) ++ Y := fun Y => by simp
  have e2 : TP ++ t :: tR = (TP ++ [t]) ++ tR := by simp
  have e3 : nbL (Q ++ .ro m cells :: R) = nbL ((Q ++ [c']) ++ R) := by
   rw [nbL_append, nbL_append, nbL_append]
   show nbL Q + (nbT (.ro m cells) + nbL R) = nbL Q + (nbT c' + 0) + nbL R
   rw [hn']
   omega
  have e4 := e c' (D ++ X)
  rw [hn'] at e4
  rw [List.append_assoc (instL ti0 E0.tp (A.length + nbL Q + nbT (.ro m cells)) tR R).2 D X, ← e4, e3, e2, e1 R]
  refine body_v (tI := tI) (idx := idx) (ys := ys) todo (off + 1) (Q ++ [c']) R (TP ++ [t]) tR (mkF (.sub fs) k (.ro m cells)).2 A (D ++ X) K hrest (by simp [hT]) (by simp [hq]) hwR (by omega) (by omega) ?_ ?_ fun Y => ?_
  ·rw [← e1, ← e2, hsplit, hs', hn', hy]
  ·rw [List.getElem?_append_left (List.getElem?_eq_some_iff.1 hD).1]
   exact hD
  ·have := h (X ++ Y)
   have hm : mkL (flatV (.sub fs path g :: todo)) k (.ro m cells :: R) = (c' :: (mkL (flatV todo) (mkF (.sub fs) k (.ro m cells)).2 R).1, (mkL (flatV todo) (mkF (.sub fs) k (.ro m cells)).2 R).2) := by rw [← hc']; rfl
   rw [hm, e2, e1] at this
   rw [List.append_assoc D X Y]
   exact this
 | .agg l path w g :: todo, off, Q, R, TP, tR, k, A, D, K, hf, hT, hq, hw, h0, h1, hy, hD, h => by
  obtain ⟨hpath, hlw, hw0, hlv, hmk, hwt, hrest⟩ := hf
  have hRlen : w ≤ R.length := by
   have := wfL_len (show wfL (l ++ flatV todo) R from hw)
   rw [List.length_append] at this
   omega
  obtain ⟨c, R, rfl, hcl⟩ : ∃ c R', R = c ++ R' ∧ c.length = w := ⟨R.take w, R.drop w, (List.take_append_drop w R).symm, by rw [List.length_take]; omega⟩
  obtain ⟨t, tR, rfl, htl⟩ : ∃ c R', tR = c ++ R' ∧ c.length = w := ⟨tR.take w, tR.drop w, (List.take_append_drop w tR).symm, by rw [List.length_take]; omega⟩
  rw [List.take_left' htl] at hmk
  rw [List.drop_left' htl] at hrest
  have hlc : l.length = c.length := by rw [hlw, hcl]
  obtain ⟨hwc, hwR⟩ := (wfL_append hlc).1 (show wfL (l ++ flatV todo) (c ++ R) from hw)
  have h1 : k + (cntL l c + cntL (flatV todo) R : Nat) ≤ 4611686018427387904 := by
   have := cntL_append l (flatV todo) c R hlc
   rw [← this]
   exact h1
  have hk' := mkL_cnt c l k
  have hn' := mkL_nb c l k
  have hl' := mkL_len c l k
  have hs' := fun N => mkL_same (ti := ti0) (tp := E0.tp) c l k N t hlv hwc
  have hl : (instL ti0 E0.tp A.length TP Q).1.length = Q.length := instL_len _ _ _
  have hsplit : ∀ x : List AV, x.length = c.length → instL ti0 E0.tp A.length (TP ++ (t ++ tR)) (Q ++ (x ++ R)) = ((instL ti0 E0.tp A.length TP Q).1 ++ ((instL ti0 E0.tp (A.length + nbL Q) t x).1 ++ (instL ti0 E0.tp (A.length + nbL Q + nbL x) tR R).1), (instL ti0 E0.tp A.length TP Q).2 ++ ((instL ti0 E0.tp (A.length + nbL Q) t x).2 ++ (instL ti0 E0.tp (A.length + nbL Q + nbL x) tR R).2)) := by
   intro x hx
   rw [instL_append TP Q (t ++ tR) (x ++ R) _ hT, instL_nb, instL_append t x tR R _ (by rw [htl, hx, hcl]), instL_nb]
  rw [hsplit c rfl] at hy
  have hil : (instL ti0 E0.tp (A.length + nbL Q) t c).1.length = w := by rw [instL_len, hcl]
  have hys : ys.drop off = (instL ti0 E0.tp (A.length + nbL Q) t c).1 ++ (instL ti0 E0.tp (A.length + nbL Q + nbL c) tR R).1 := by
   rw [← hy, ← hq, ← hl, List.drop_append_of_le_length (Nat.le_refl _), List.drop_length, List.nil_append]
  have hlen : (instL ti0 E0.tp A.length (TP ++ (t ++ tR)) (Q ++ (c ++ R))).2.length = nbL (Q ++ (c ++ R)) := instL_nb _ _ _
  show (fadrs (PR n β) path (.ptr (A.length + nbL (Q ++ (c ++ R)) + idx) 0) fun t => pLoad true w t _ fun v => (PR n β).call tI (.fn g [] []) [v, .sc (.int .i64 k)] _ fun k H => bodyV (PR n β) tI _ todo k H K) = res
  rw [fadrs_ptr, hpath, Nat.zero_add]
  have hget : (A ++ ((instL ti0 E0.tp A.length (TP ++ (t ++ tR)) (Q ++ (c ++ R))).2 ++ D))[A.length + nbL (Q ++ (c ++ R)) + idx]? = some ⟨ys, true, true⟩ := by
   rw [List.getElem?_append_right (by omega), List.getElem?_append_right (by omega), hlen]
   rw [show A.length + nbL (Q ++ (c ++ R)) + idx - A.length - nbL (Q ++ (c ++ R)) = idx by omega]
   exact hD
  have hld : rdCells (A ++ ((instL ti0 E0.tp A.length (TP ++ (t ++ tR)) (Q ++ (c ++ R))).2 ++ D)) (A.length + nbL (Q ++ (c ++ R)) + idx) off w = some (instL ti0 E0.tp (A.length + nbL Q) t c).1 := by
   have hle : off + w ≤ ys.length := by
    have := congrArg List.length hys
    rw [List.length_drop, List.length_append, hil] at this
    omega
   simp only [rdCells, hget, if_true, hle, hys]
   rw [List.take_left' hil]
  rw [ldT hld, PR_hm hmk.1 hmk.2.1]
  have e : ∀ (x : List AV) (B : Heap), x.length = c.length → A ++ ((instL ti0 E0.tp A.length (TP ++ (t ++ tR)) (Q ++ (x ++ R))).2 ++ B) = (A ++ (instL ti0 E0.tp A.length TP Q).2) ++ ((instL ti0 E0.tp (A.length + nbL Q) t x).2 ++ ((instL ti0 E0.tp (A.length + nbL Q + nbL x) tR R).2 ++ B)) := by
   intro x B hx
   simp only [hsplit x hx, List.append_assoc]
  have hN : (A ++ (instL ti0 E0.tp A.length TP Q).2).length = A.length + nbL Q := by rw [List.length_append, instL_nb]
  rw [e c _ rfl]
  have key := hmk.2.2 c k β (A ++ (instL ti0 E0.tp A.length TP Q).2) ((instL ti0 E0.tp (A.length + nbL Q + nbL c) tR R).2 ++ D) (fun k H => bodyV (PR n β) tI (.ptr (A.length + nbL (Q ++ (c ++ R)) + idx) 0) todo k H K) res hwc h0 (by omega)
  rw [hN] at key
  refine key fun X => ?_
  have hm : mkL (flatV (.agg l path w g :: todo)) k (c ++ R) = ((mkL l k c).1 ++ (mkL (flatV todo) (mkL l k c).2 R).1, (mkL (flatV todo) (mkL l k c).2 R).2) := mkL_append l (flatV todo) k c R hlc
  generalize hc' : (mkL l k c).1 = c' at hn' hl' hs' hm ⊢
  have e1 : ∀ (Y : List AV), Q ++ (c' ++ Y) = (Q ++ c') ++ Y := fun Y => by simp
  have e2 : TP ++ (t ++ tR) = (TP ++ t) ++ tR := by simp
  have e3 : nbL (Q ++ (c ++ R)) = nbL ((Q ++ c') ++ R) := by
   rw [nbL_append, nbL_append, nbL_append, nbL_append, hn']
   omega
  have e4 := e c' (D ++ X) hl'
  rw [hn'] at e4
  rw [List.append_assoc (instL ti0 E0.tp (A.length + nbL Q + nbL c) tR R).2 D X, ← e4, e3, e2, e1 R]
  refine body_v (tI := tI) (idx := idx) (ys := ys) todo (off + w) (Q ++ c') R (TP ++ t) tR (mkL l k c).2 A (D ++ X) K hrest (by simp [hT, htl, hl', hcl]) (by simp [hq, hl', hcl]) hwR (by omega) (by omega) ?_ ?_ fun Y => ?_
  ·rw [← e1, ← e2, hsplit _ hl', hs', hn', hy]
  ·rw [List.getElem?_append_left (List.getElem?_eq_some_iff.1 hD).1]
   exact hD
  ·have := h (X ++ Y)
   rw [hm, e2, e1] at this
   rw [List.append_assoc D X Y]
   exact this
theorem markv_ok {tI f : Nat} {cty : List Nat} {fvs : List FV} (hh : E0.hm f = true) (hx : E0.ext f = none) (hf : FvM n 0 fvs cty) (hv : (flatV fvs).all isV = true) (hlf : ∀ (cs : List AV) (N : Nat), wfL (flatV fvs) cs → (instL ti0 E0.tp N cty cs).1.all isLeaf = true)
  (hF : ∀ β a b H kk, evalFn E0 (n + 1) β f [a, b] H kk = pBox a H fun x H => bodyV (PR n β) tI x fvs b H kk) : MarkV (n + 1) f cty (flatV fvs) := by
 refine ⟨hh, hx, fun cs k β A C K r hw h0 hb h => ?_⟩
 rw [hF]
 have hc : cellsA (.agg (instL ti0 E0.tp A.length cty cs).1) = some (instL ti0 E0.tp A.length cty cs).1 := by
  show (if _ then _ else none) = _
  rw [if_pos (hlf cs _ hw)]
 simp only [pBox, hc, Option.bind_some, pNew]
 have hlen : (instL ti0 E0.tp A.length cty cs).2.length = nbL cs := instL_nb _ _ _
 have e1 : (A ++ ((instL ti0 E0.tp A.length cty cs).2 ++ C)).length = A.length + nbL ([] ++ cs) + C.length := by
  simp only [List.length_append, hlen, List.nil_append]
  omega
 rw [e1]
 have e2 : A ++ ((instL ti0 E0.tp A.length cty cs).2 ++ C) ++ [⟨(instL ti0 E0.tp A.length cty cs).1, true, true⟩] = A ++ ((instL ti0 E0.tp A.length ([] ++ cty) ([] ++ cs)).2 ++ (C ++ [⟨(instL ti0 E0.tp A.length cty cs).1, true, true⟩])) := by simp
 rw [e2]
 refine body_v fvs 0 [] cs [] cty k A _ K hf rfl rfl hw h0 hb rfl (by rw [List.getElem?_append_right (Nat.le_refl _), Nat.sub_self]; rfl) fun X => ?_
 have := h ([⟨(instL ti0 E0.tp A.length cty cs).1, true, true⟩] ++ X)
 simp only [List.append_assoc, List.nil_append] at this ⊢
 exact this
theorem body_hv {tI : Nat} {F : Heap → Option β} (cells : List AV) (hfl : cells.all isFl = true) : ∀ (todo : List FV) (off : Nat) (Q R : List AV) (k : Int) (H : Heap) (K : AV → Heap → Option β),
  FvH n off todo → Q.length = off → wfL (flatV todo) R → 0 ≤ k → k + cntL (flatV todo) R ≤ 4611686018427387904 → cells = Q ++ (mkL (flatV todo) k R).1 → H[0]? = some ⟨cells, true, true⟩ →
  (∀ X, K (.sc (.int .i64 (mkL (flatV todo) k R).2)) (H ++ X) = res) →
  bodyHV (PR n β) tI (.ptr 0 0) F todo (.sc (.int .i64 k)) H K = res
 | [], off, Q, R, k, H, K, hf, hq, hw, h0, h1, hc, hH, h => by
  cases R with
  | nil =>
   have := h []
   rw [List.append_nil H] at this
   exact this
  | cons c R => exact absurd rfl hw.1
 | .skip :: todo, off, Q, R, k, H, K, hf, hq, hw, h0, h1, hc, hH, h => by
  cases R with
  | nil => exact absurd (show MF.skip :: flatV todo = [] from hw) (by simp)
  | cons c R =>
  obtain ⟨hwc, hwR⟩ := wfL_cons.1 (show wfL (MF.skip :: flatV todo) (c :: R) from hw)
  obtain ⟨v, rfl⟩ : ∃ v, c = .sc v := by
   cases c <;> first | exact ⟨_, rfl⟩ | exact hwc.elim
  have h1 : k + (0 + cntL (flatV todo) R : Nat) ≤ 4611686018427387904 := h1
  exact body_hv cells hfl todo (off + 1) (Q ++ [.sc v]) R k H K hf (by simp [hq]) hwR h0 (by omega) (by rw [List.append_assoc]; exact hc) hH h
 | .sub fs path g :: todo, off, Q, R, k, H, K, hf, hq, hw, h0, h1, hc, hH, h => by
  cases R with
  | nil => exact absurd (show MF.sub fs :: flatV todo = [] from hw) (by simp)
  | cons c R =>
  obtain ⟨hpath, hhe, hrest⟩ := hf
  obtain ⟨hwc, hwR⟩ := wfL_cons.1 (show wfL (MF.sub fs :: flatV todo) (c :: R) from hw)
  obtain ⟨m, cs, rfl⟩ : ∃ m cells, c = .ro m cells := by
   cases c with
   | ro m cells => exact ⟨m, cells, rfl⟩
   | sc v => exact hwc.elim
   | _ => exact hwc.elim
  have h1 : k + (cntF (.sub fs) (.ro m cs) + cntL (flatV todo) R : Nat) ≤ 4611686018427387904 := h1
  have hk' := mkF_cnt (.ro m cs) (.sub fs) k
  have hm : mkL (flatV (.sub fs path g :: todo)) k (.ro m cs :: R) = ((mkF (.sub fs) k (.ro m cs)).1 :: (mkL (flatV todo) (mkF (.sub fs) k (.ro m cs)).2 R).1, (mkL (flatV todo) (mkF (.sub fs) k (.ro m cs)).2 R).2) := rfl
  rw [hm] at hc h
  have hld : rdCells H 0 off 1 = some [(mkF (.sub fs) k (.ro m cs)).1] := by
   have hle : off + 1 ≤ cells.length := by
    rw [hc, List.length_append, List.length_cons]
    omega
   have hd : (cells.drop off).take 1 = [(mkF (.sub fs) k (.ro m cs)).1] := by
    rw [hc, ← hq, List.drop_append_of_le_length (Nat.le_refl _), List.drop_length]
    rfl
   simp only [rdCells, hH, if_true, hle, hd]
  show (fadrs (PR n β) path (.ptr 0 0) fun t => pLoad false 1 t H fun v => (PR n β).call tI (.fn g [] []) [v, .sc (.int .i64 k)] H fun k H => pBin .lss k (.sc (.int .i64 0)) fun b => pCond b (F H) (bodyHV (PR n β) tI _ F todo k H K)) = res
  rw [fadrs_ptr, hpath, Nat.zero_add, ldF hld, PR_call (vs := [(mkF (.sub fs) k (.ro m cs)).1, .sc (.int .i64 k)]) hhe.1 rfl (hhe.2 tI m cs k hwc h0 (by omega)), instT_sc, List.append_nil]
  simp only
  rw [lss64, cond_b, if_neg (by simp; omega)]
  exact body_hv cells hfl todo (off + 1) (Q ++ [(mkF (.sub fs) k (.ro m cs)).1]) R _ H K hrest (by simp [hq]) hwR (by omega) (by omega) (by rw [List.append_assoc]; exact hc) hH h
 | .agg l path w g :: todo, off, Q, R, k, H, K, hf, hq, hw, h0, h1, hc, hH, h => by
  obtain ⟨hpath, hlw, hw0, hhe, hrest⟩ := hf
  have hRlen : w ≤ R.length := by
   have := wfL_len (show wfL (l ++ flatV todo) R from hw)
   rw [List.length_append] at this
   omega
  obtain ⟨c, R, rfl, hcl⟩ : ∃ c R', R = c ++ R' ∧ c.length = w := ⟨R.take w, R.drop w, (List.take_append_drop w R).symm, by rw [List.length_take]; omega⟩
  have hlc : l.length = c.length := by rw [hlw, hcl]
  obtain ⟨hwc, hwR⟩ := (wfL_append hlc).1 (show wfL (l ++ flatV todo) (c ++ R) from hw)
  have h1 : k + (cntL l c + cntL (flatV todo) R : Nat) ≤ 4611686018427387904 := by
   have := cntL_append l (flatV todo) c R hlc
   rw [← this]
   exact h1
  have hk' := mkL_cnt c l k
  have hl' := mkL_len c l k
  have hm : mkL (flatV (.agg l path w g :: todo)) k (c ++ R) = ((mkL l k c).1 ++ (mkL (flatV todo) (mkL l k c).2 R).1, (mkL (flatV todo) (mkL l k c).2 R).2) := mkL_append l (flatV todo) k c R hlc
  rw [hm] at hc h
  have hd : (cells.drop off).take w = (mkL l k c).1 := by
   rw [hc, ← hq, List.drop_append_of_le_length (Nat.le_refl _), List.drop_length, List.nil_append, List.take_left' (by rw [hl', hcl])]
  have hld : rdCells H 0 off w = some (mkL l k c).1 := by
   have hle : off + w ≤ cells.length := by
    rw [hc, List.length_append, List.length_append, hl', hcl]
    omega
   simp only [rdCells, hH, if_true, hle, hd]
  have hfc : (mkL l k c).1.all isFl = true := by
   rw [hc, List.all_append, List.all_append, Bool.and_eq_true, Bool.and_eq_true] at hfl
   exact hfl.2.1
  show (fadrs (PR n β) path (.ptr 0 0) fun t => pLoad true w t H fun v => (PR n β).call tI (.fn g [] []) [v, .sc (.int .i64 k)] H fun k H => pBin .lss k (.sc (.int .i64 0)) fun b => pCond b (F H) (bodyHV (PR n β) tI _ F todo k H K)) = res
  rw [fadrs_ptr, hpath, Nat.zero_add, ldT hld, PR_call (vs := [.agg (mkL l k c).1, .sc (.int .i64 k)]) hhe.1 (vcons (Vw_agg _ hfc) (vcons (Vw_sc _ _) vnil)) (hhe.2 tI c k hwc h0 (by omega)), instT_sc, List.append_nil]
  simp only
  rw [lss64, cond_b, if_neg (by simp; omega)]
  exact body_hv cells hfl todo (off + w) (Q ++ (mkL l k c).1) R _ H K hrest (by simp [hq, hl', hcl]) hwR (by omega) (by omega) (by rw [List.append_assoc]; exact hc) hH h
theorem mkL_fl : ∀ (cs : List AV) (fs : List MF) (k : Int), wfL fs cs → fs.all isV = true → (mkL fs k cs).1.all isFl = true
 | [], fs, k, _, _ => by simp [mkL]
 | c :: cs, [], k, hw, _ => absurd rfl hw.1
 | c :: cs, f :: fs, k, hw, hv => by
  obtain ⟨h1, h2⟩ := wfL_cons.1 hw
  rw [List.all_cons, Bool.and_eq_true] at hv
  rw [mkL_cons, List.all_cons, mkL_fl cs fs _ h2 hv.2, Bool.and_true]
  cases c with
  | sc v => cases f <;> first | exact h1 | (exfalso; simpa [isV] using hv.1) | exact h1.elim
  | ro m cells => cases f <;> first | rfl | exact h1.elim
  | _ => exact h1.elim
theorem heldv_ok {tI f : Nat} {fvs : List FV} (hh : plainF f = false) (hf : FvH n 0 fvs) (hv : (flatV fvs).all isV = true)
  (hF : ∀ a b H kk, evalFn E0 (n + 1) AV f [a, b] H kk = pBox a H fun x H => bodyHV (PR n AV) tI x (fun H => kk (.sc (.int .i64 (-1))) H) fvs b H kk) : HeldV (n + 1) f (flatV fvs) := by
 refine ⟨hh, fun ty cs k hw h0 hb => ?_⟩
 have hfl := mkL_fl cs (flatV fvs) k hw hv
 rw [tree_def, hF, box_fl _ _ _ hfl]
 exact body_hv (mkL (flatV fvs) k cs).1 hfl fvs 0 [] cs k _ _ hf rfl hw h0 hb rfl rfl (fun X => rfl)
end fns
end Go.Proofs.YtejjggnchdldoaaDoor.Abs
set_option linter.unusedVariables false
set_option linter.unusedSimpArgs false
namespace Go.Proofs.YtejjggnchdldoaaDoor.Abs
open Go
def AtT (H : Heap) (y : AV) (N ty : Nat) (t : AV) : Prop := y = (instT ti0 E0.tp N ty t).1 ∧ N + nbT t ≤ H.length ∧ Lies H N (instT ti0 E0.tp N ty t).2
def AtL (H : Heap) (ys : List AV) (N : Nat) (ts : List Nat) (cs : List AV) : Prop := ys = (instL ti0 E0.tp N ts cs).1 ∧ N + nbL cs ≤ H.length ∧ Lies H N (instL ti0 E0.tp N ts cs).2
def Kept (H H' : Heap) (N m : Nat) : Prop := H.length ≤ H'.length ∧ ∀ (i : Nat) b, H[i]? = some b → (i < N ∨ N + m ≤ i) → H'[i]? = some b
theorem Lies.grow {H : Heap} {N : Nat} {B : List Blk} (h : Lies H N B) (X : List Blk) : Lies (H ++ X) N B := fun j b hj => by
 have := h j b hj
 rw [List.getElem?_append_left (List.getElem?_eq_some_iff.1 this).1]
 exact this
theorem Lies.kept {H H' : Heap} {N M m : Nat} {B : List Blk} (h : Lies H N B) (k : Kept H H' M m) (hd : N + B.length ≤ M ∨ M + m ≤ N) : Lies H' N B := fun j b hj => by
 have hlt := (List.getElem?_eq_some_iff.1 hj).1
 exact k.2 _ b (h j b hj) (by omega)
theorem AtT.grow {H : Heap} {y : AV} {N ty : Nat} {t : AV} (h : AtT H y N ty t) (X : List Blk) : AtT (H ++ X) y N ty t := ⟨h.1, by rw [List.length_append]; have := h.2.1; omega, h.2.2.grow X⟩
theorem AtL.grow {H : Heap} {ys : List AV} {N : Nat} {ts : List Nat} {cs : List AV} (h : AtL H ys N ts cs) (X : List Blk) : AtL (H ++ X) ys N ts cs := ⟨h.1, by rw [List.length_append]; have := h.2.1; omega, h.2.2.grow X⟩
theorem AtT.kept {H H' : Heap} {y : AV} {N ty M m : Nat} {t : AV} (h : AtT H y N ty t) (k : Kept H H' M m) (hd : N + nbT t ≤ M ∨ M + m ≤ N) : AtT H' y N ty t := ⟨h.1, Nat.le_trans h.2.1 k.1, h.2.2.kept k (by rw [inst_nb]; exact hd)⟩
theorem AtL.kept {H H' : Heap} {ys : List AV} {N M m : Nat} {ts : List Nat} {cs : List AV} (h : AtL H ys N ts cs) (k : Kept H H' M m) (hd : N + nbL cs ≤ M ∨ M + m ≤ N) : AtL H' ys N ts cs := ⟨h.1, Nat.le_trans h.2.1 k.1, h.2.2.kept k (by rw [instL_nb]; exact hd)⟩
theorem blk_kept {H H' : Heap} {i M m : Nat} {b : Blk} (h : H[i]? = some b) (k : Kept H H' M m) (hd : i < M ∨ M + m ≤ i) : H'[i]? = some b := k.2 i b h hd
theorem AtL.cons {H : Heap} {ys : List AV} {N t : Nat} {ts : List Nat} {c : AV} {cs : List AV} (h : AtL H ys N (t :: ts) (c :: cs)) : ∃ y ys', ys = y :: ys' ∧ AtT H y N t c ∧ AtL H ys' (N + nbT c) ts cs := by
 obtain ⟨h1, h2, h3⟩ := h
 have h2 : N + (nbT c + nbL cs) ≤ H.length := h2
 have e : instL ti0 E0.tp N (t :: ts) (c :: cs) = ((instT ti0 E0.tp N t c).1 :: (instL ti0 E0.tp (N + nbT c) ts cs).1, (instT ti0 E0.tp N t c).2 ++ (instL ti0 E0.tp (N + nbT c) ts cs).2) := by
  rw [instL, inst_nb]
  rfl
 rw [e] at h1 h3
 refine ⟨_, _, h1, ⟨rfl, by omega, h3.left⟩, ⟨rfl, by omega, ?_⟩⟩
 have := h3.right
 rwa [inst_nb] at this
theorem AtL.nil {H : Heap} {ys : List AV} {N : Nat} {ts : List Nat} (h : AtL H ys N ts []) : ys = [] := h.1
theorem AtT.sc {H : Heap} {y : AV} {N ty : Nat} {v : Value} (h : AtT H y N ty (.sc v)) : y = .sc v := h.1
theorem AtT.agg {H : Heap} {y : AV} {N ty : Nat} {cs : List AV} {cty : List Nat} (h : AtT H y N ty (.agg cs)) (hty : ∃ i, ti0 ty = some i ∧ i.cty = cty) : ∃ ys, y = .agg ys ∧ AtL H ys N cty cs := by
 obtain ⟨i, hi, rfl⟩ := hty
 obtain ⟨h1, h2, h3⟩ := h
 rw [instT_agg, hi, Option.getD_some] at h1 h3
 exact ⟨_, h1, rfl, h2, h3⟩
theorem AtT.vw {H : Heap} {y : AV} {N ty : Nat} {t : AV} (h : AtT H y N ty t) (hok : okW ti0 E0.tp 8 ty t) : Vw H y t := fun X => by
 rw [h.1]
 exact view_inst 8 ty t N (okW_okTr 8 ty t hok) (h.2.2.grow X)
theorem AtL.vw {H : Heap} {ys : List AV} {N : Nat} {ts : List Nat} {cs : List AV} (h : AtL H ys N ts cs) (hok : okLW (okW ti0 E0.tp 7) ts cs) : Vw H (.agg ys) (.agg cs) := fun X => by
 rw [h.1, viewV_agg, view_instL (fun ty t N => view_inst 7 ty t N) cs ts N (okLW_okL (okW_okTr 7) hok) (h.2.2.grow X)]
 rfl
theorem AtL.leaf {H : Heap} {ys : List AV} {N : Nat} {ts : List Nat} {cs : List AV} (h : AtL H ys N ts cs) (hf : cs.all isFl = true) : ys.all isLeaf = true := by
 rw [h.1]
 exact instL_leaf _ _ _ hf
theorem AtL.len {H : Heap} {ys : List AV} {N : Nat} {ts : List Nat} {cs : List AV} (h : AtL H ys N ts cs) : ys.length = cs.length := by rw [h.1, instL_len]
theorem okLW_mk {d : Nat} (hd : ∀ ty x f k, okW ti0 E0.tp d ty x → okW ti0 E0.tp d ty (mkF f k x).1) : ∀ (cs : List AV) (ts : List Nat) (fs : List MF) (k : Int), okLW (okW ti0 E0.tp d) ts cs → okLW (okW ti0 E0.tp d) ts (mkL fs k cs).1
 | [], ts, fs, k, h => by simpa [mkL] using h
 | c :: cs, [], fs, k, h => h.elim
 | c :: cs, t :: ts, fs, k, h => ⟨hd _ _ _ _ h.1, okLW_mk hd cs ts fs.tail _ h.2⟩
theorem okW_mk : ∀ (d ty : Nat) (x : AV) (f : MF) (k : Int), okW ti0 E0.tp d ty x → okW ti0 E0.tp d ty (mkF f k x).1
 | 0, _, _, _, _, h => h
 | d + 1, ty, x, f, k, h => by
  cases x with
  | sc v => cases f <;> trivial
  | ro n cells =>
   cases f with
   | sub fs =>
    obtain ⟨i, j, h1, h2, h3, h4⟩ := h
    exact ⟨i, j, h1, h2, by rw [mkL_len]; exact h3, okLW_mk (okW_mk d) _ _ _ _ h4⟩
   | _ => exact h
  | _ => exact h
theorem okLW_mk7 {cs : List AV} {ts : List Nat} (fs : List MF) (k : Int) (h : okLW (okW ti0 E0.tp 7) ts cs) : okLW (okW ti0 E0.tp 7) ts (mkL fs k cs).1 := okLW_mk (okW_mk 7) cs ts fs k h
section steps
variable {β : Type} {n : Nat} {H : Heap} {r : Option β}
theorem lm_tree {ty f : Nat} {args vs : List AV} {t : AV} {K : AV → Heap → Option β} (hh : plainF f = false) (hv : args.mapM (viewV H 8) = some vs) (ht : tree E0 n ty f vs = some t) (h : ∀ y X N, N = H.length → AtT (H ++ X) y N ty t → K y (H ++ X) = r) : (PR n β).call ty (.fn f [] []) args H (fun x H => K x H) = r := by
 rw [PR_call hh hv ht]
 exact h _ _ _ rfl ⟨rfl, by rw [List.length_append, inst_nb]; exact Nat.le_refl _, Lies_end _ _⟩
theorem lm_tup {ty f : Nat} {args vs cs : List AV} {ts : List Nat} {K : AV → Heap → Option β} (hh : plainF f = false) (hv : args.mapM (viewV H 8) = some vs) (ht : tree E0 n ty f vs = some (.tup cs)) (hts : E0.tp ty = some ts) (h : ∀ ys X N, N = H.length → AtL (H ++ X) ys N ts cs → K (.tup ys) (H ++ X) = r) : (PR n β).call ty (.fn f [] []) args H (fun x H => K x H) = r := by
 rw [PR_call hh hv ht, instT_tup, hts, Option.getD_some]
 exact h _ _ _ rfl ⟨rfl, by rw [List.length_append, instL_nb]; exact Nat.le_refl _, Lies_end _ _⟩
theorem lm_agg {ty f : Nat} {args vs cs : List AV} {cty : List Nat} {K : AV → Heap → Option β} (hh : plainF f = false) (hv : args.mapM (viewV H 8) = some vs) (ht : tree E0 n ty f vs = some (.agg cs)) (hty : ∃ i, ti0 ty = some i ∧ i.cty = cty) (h : ∀ ys X N, N = H.length → AtL (H ++ X) ys N cty cs → K (.agg ys) (H ++ X) = r) : (PR n β).call ty (.fn f [] []) args H (fun x H => K x H) = r := by
 obtain ⟨i, hi, rfl⟩ := hty
 rw [PR_call hh hv ht, instT_agg, hi, Option.getD_some]
 exact h _ _ _ rfl ⟨rfl, by rw [List.length_append, instL_nb]; exact Nat.le_refl _, Lies_end _ _⟩
theorem lm_put {w : Nat} {z ys : List AV} {K : AV → Heap → Option β} (hz : z.length = w) (hy : ys.length = w) (hl : ys.all isLeaf = true) (h : ∀ i, i = H.length → (H ++ [⟨ys, true, true⟩])[i]? = some ⟨ys, true, true⟩ → K (.ptr i 0) (H ++ [⟨ys, true, true⟩]) = r) :
  pNew z H (fun t H => pStore w t (.agg ys) H fun H => K t H) = r := by
 have hg : (H ++ [(⟨z, true, true⟩ : Blk)])[H.length]? = some ⟨z, true, true⟩ := get_at H _ []
 have hc : cellsA (.agg ys) = some ys := by
  show (if ys.all isLeaf then some ys else none) = _
  rw [if_pos hl]
 show pStore w (.ptr H.length 0) (.agg ys) (H ++ [⟨z, true, true⟩]) _ = r
 rw [st_at w H.length 0 _ ⟨z, true, true⟩ ys _ _ hg hc hy (by rw [hz]; omega) rfl]
 have hs : splice z 0 ys = ys := by
  unfold splice
  rw [List.take_zero, List.nil_append, List.drop_of_length_le (by rw [hz, hy]; omega), List.append_nil]
 simp only [hs, set_at]
 exact h _ rfl (get_at H _ [])
theorem cut_at {N : Nat} {B : List Blk} (h1 : N + B.length ≤ H.length) (h2 : Lies H N B) : ∃ A C : Heap, A.length = N ∧ H = A ++ (B ++ C) := by
 refine ⟨H.take N, H.drop (N + B.length), by rw [List.length_take]; omega, ?_⟩
 have e : (H.drop N).take B.length = B := by
  apply List.ext_getElem?
  intro j
  by_cases hj : j < B.length
  ·rw [List.getElem?_take_of_lt hj, List.getElem?_drop]
   have hb : B[j]? = some (B[j]) := List.getElem?_eq_getElem hj
   rw [hb, h2 j _ hb]
  ·rw [List.getElem?_eq_none (by rw [List.length_take]; omega), List.getElem?_eq_none (by omega)]
 conv => lhs; rw [← List.take_append_drop N H, ← List.take_append_drop B.length (H.drop N), e, List.drop_drop]
theorem kept_at {A B B' C X : Heap} (hl : B'.length = B.length) : Kept (A ++ (B ++ C)) (A ++ (B' ++ (C ++ X))) A.length B.length := by
 refine ⟨by simp only [List.length_append, hl]; omega, fun i b h hd => ?_⟩
 rcases hd with hd | hd
 ·rw [List.getElem?_append_left hd] at h ⊢
  exact h
 ·rw [List.getElem?_append_right (by omega), List.getElem?_append_right (by omega)] at h ⊢
  rw [hl, List.getElem?_append_left (List.getElem?_eq_some_iff.1 h).1]
  exact h
theorem lm_mark {tI g ty N : Nat} {fs : List MF} {t : AV} {y : AV} {k : Int} {K : AV → Heap → Option β} (hmk : MarkOk n g ty fs) (hro : ∃ len cells, t = .ro len cells) (ha : AtT H y N ty t) (hw : wfF (.sub fs) t) (h0 : 0 ≤ k) (hb : k + cntF (.sub fs) t ≤ 4611686018427387904)
  (h : ∀ H', AtT H' y N ty (mkF (.sub fs) k t).1 → Kept H H' N (nbT t) → K (.sc (.int .i64 (k + cntF (.sub fs) t))) H' = r) : (PR n β).call tI (.fn g [] []) [y, .sc (.int .i64 k)] H (fun x H => K x H) = r := by
 obtain ⟨len, cells, rfl⟩ := hro
 obtain ⟨rfl, h2, h3⟩ := ha
 have hnb : ∀ M, (instT ti0 E0.tp M ty (.ro len cells)).2.length = nbT (.ro len cells) := fun M => inst_nb _ _ _
 obtain ⟨A, C, rfl, rfl⟩ := cut_at (by rw [hnb]; exact h2) h3
 rw [PR_hm hmk.1 hmk.2.1]
 refine hmk.2.2.2 len cells k hw h0 hb β A C _ r fun X => ?_
 rw [mkF_cnt]
 have hl : (instT ti0 E0.tp A.length ty (mkF (.sub fs) k (.ro len cells)).1).2.length = (instT ti0 E0.tp A.length ty (.ro len cells)).2.length := by rw [inst_nb, inst_nb, mkF_nb]
 refine h _ ⟨(mk_ro_same hmk k len cells A.length).symm, ?_, ?_⟩ ?_
 ·rw [mkF_nb]
  simp only [List.length_append, inst_nb, mkF_nb]
  omega
 ·have := Lies_in A (instT ti0 E0.tp A.length ty (mkF (.sub fs) k (.ro len cells)).1).2 (C ++ X)
  rwa [List.append_assoc] at this
 ·rw [← hnb A.length]
  exact kept_at hl
theorem lm_markv {tI g N : Nat} {cty : List Nat} {fs : List MF} {cs ys : List AV} {k : Int} {K : AV → Heap → Option β} (hmk : MarkV n g cty fs) (hv : fs.all isV = true) (ha : AtL H ys N cty cs) (hw : wfL fs cs) (h0 : 0 ≤ k) (hb : k + cntL fs cs ≤ 4611686018427387904)
  (h : ∀ H', AtL H' ys N cty (mkL fs k cs).1 → Kept H H' N (nbL cs) → K (.sc (.int .i64 (k + cntL fs cs))) H' = r) : (PR n β).call tI (.fn g [] []) [.agg ys, .sc (.int .i64 k)] H (fun x H => K x H) = r := by
 obtain ⟨rfl, h2, h3⟩ := ha
 have hnb : ∀ M, (instL ti0 E0.tp M cty cs).2.length = nbL cs := fun M => instL_nb _ _ _
 obtain ⟨A, C, rfl, rfl⟩ := cut_at (by rw [hnb]; exact h2) h3
 rw [PR_hm hmk.1 hmk.2.1]
 refine hmk.2.2 cs k β A C _ r hw h0 hb fun X => ?_
 rw [mkL_cnt]
 have hl : (instL ti0 E0.tp A.length cty (mkL fs k cs).1).2.length = (instL ti0 E0.tp A.length cty cs).2.length := by rw [instL_nb, instL_nb, mkL_nb]
 refine h _ ⟨(mkL_same cs fs k A.length cty hv hw).symm, ?_, ?_⟩ ?_
 ·rw [mkL_nb]
  simp only [List.length_append, instL_nb, mkL_nb]
  omega
 ·have := Lies_in A (instL ti0 E0.tp A.length cty (mkL fs k cs).1).2 (C ++ X)
  rwa [List.append_assoc] at this
 ·rw [← hnb A.length]
  exact kept_at hl
theorem lm_held {tI g : Nat} {fs : List MF} {t : AV} {y : AV} {k : Int} {K : AV → Heap → Option β} (hhe : HeldOk n g fs) (hro : ∃ len cells, t = .ro len cells) (hv : Vw H y (mkF (.sub fs) k t).1) (hw : wfF (.sub fs) t) (h0 : 0 ≤ k) (hb : k + cntF (.sub fs) t ≤ 4611686018427387904)
  {F : Heap → Option β} (h : K (.sc (.int .i64 (k + cntF (.sub fs) t))) H = r) : (PR n β).call tI (.fn g [] []) [y, .sc (.int .i64 k)] H (fun t H => pBin .lss t (.sc (.int .i64 0)) fun t' => pCond t' (F H) (K t H)) = r := by
 obtain ⟨len, cells, rfl⟩ := hro
 refine lw_sc hhe.1 (vcons hv (vcons (Vw_sc _ _) vnil)) (hhe.2 tI len cells k hw h0 hb) ?_
 rw [mkF_cnt, lss64, cond_b, if_neg (by simp; omega)]
 exact h
theorem lm_heldv {tI g : Nat} {fs : List MF} {cs : List AV} {y : AV} {k : Int} {K : AV → Heap → Option β} (hhe : HeldV n g fs) (hv : Vw H y (.agg (mkL fs k cs).1)) (hw : wfL fs cs) (h0 : 0 ≤ k) (hb : k + cntL fs cs ≤ 4611686018427387904)
  {F : Heap → Option β} (h : K (.sc (.int .i64 (k + cntL fs cs))) H = r) : (PR n β).call tI (.fn g [] []) [y, .sc (.int .i64 k)] H (fun t H => pBin .lss t (.sc (.int .i64 0)) fun t' => pCond t' (F H) (K t H)) = r := by
 refine lw_sc hhe.1 (vcons hv (vcons (Vw_sc _ _) vnil)) (hhe.2 tI cs k hw h0 hb) ?_
 rw [mkL_cnt, lss64, cond_b, if_neg (by simp; omega)]
 exact h
theorem lm_gf {m : (AV → Heap → Option β) → Option β} {k : AV → Heap → Option β} (h : m k = r) : pGuard (.sc (.bool false)) false H m k = r := h
theorem lm_pk {v : Value} {K : AV → Option β} (h : K (.sc v) = r) : pPick (.sc (.bool false)) (.sc (.bool true)) (.sc v) (fun t => K t) = r := h
theorem lm_not {b : Bool} {K : AV → Option β} (h : K (.sc (.bool (!b))) = r) : pUn .not (.sc (.bool b)) (fun t => K t) = r := h
theorem lm_cf {A K : Option β} (h : K = r) : pCond (.sc (.bool false)) A K = r := h
theorem lm_eq {ty f : Nat} {args vs : List AV} {K : AV → Heap → Option β} (hh : plainF f = false) (hv : args.mapM (viewV H 8) = some vs) (ht : tree E0 n ty f vs = some (.sc (.bool true))) (h : K (.sc (.bool true)) H = r) : (PR n β).call ty (.fn f [] []) args H (fun t H => K t H) = r := lw_sc hh hv ht h
theorem lm_neB {b : Bool} {K : AV → Option β} (h : K (.sc (.bool false)) = r) : pBinB .neq (.sc (.bool b)) (.sc (.bool b)) (fun t => K t) = r := by
 rw [neqB]
 cases b <;> exact h
theorem lm_neI {z : Int} {K : AV → Option β} (h : K (.sc (.bool false)) = r) : pBin .neq (.sc (.int .i64 z)) (.sc (.int .i64 z)) (fun t => K t) = r := by
 rw [neq64, bne_self_eq_false]
 exact h
theorem lm_neg {z : Int} {K : AV → Option β} (h0 : 0 ≤ z) (h : K (.sc (.bool false)) = r) : pBin .lss (.sc (.int .i64 z)) (.sc (.int .i64 0)) (fun t => K t) = r := by
 rw [lss64, show decide (z < 0) = false from by simp; omega]
 exact h
theorem lm_ex {vs : List AV} {i : Nat} {v : AV} {K : AV → Option β} (hi : vs[i]? = some v) (h : K v = r) : pExtr (.tup vs) i (fun t => K t) = r := by
 simp only [pExtr, hi, Option.bind_some]
 exact h
end steps
end Go.Proofs.YtejjggnchdldoaaDoor.Abs
set_option linter.unusedVariables false
set_option linter.unusedSimpArgs false
set_option maxRecDepth 100000
namespace Go.Proofs.YtejjggnchdldoaaDoor.Abs
open Go
variable {α : Type}
theorem wfv_fl : ∀ (cs : List AV) (fs : List MF), wfL fs cs → fs.all isV = true → cs.all isFl = true
 | [], fs, _, _ => rfl
 | c :: cs, [], hw, _ => absurd rfl hw.1
 | c :: cs, f :: fs, hw, hv => by
  obtain ⟨h1, h2⟩ := wfL_cons.1 hw
  rw [List.all_cons, Bool.and_eq_true] at hv
  rw [List.all_cons, wfv_fl cs fs h2 hv.2, Bool.and_true]
  cases c with
  | sc v => cases f <;> first | exact h1 | (exfalso; simpa [isV] using hv.1) | exact h1.elim
  | ro m cells => cases f <;> first | rfl | exact h1.elim
  | _ => exact h1.elim
theorem cnt_cc {f : MF} {fs : List MF} {c : AV} {cs : List AV} {a b : Nat} (h1 : cntF f c = a) (h2 : cntL fs cs = b) : cntL (f :: fs) (c :: cs) = a + b := by
 subst h1
 subst h2
 rfl
def fdByteS : List FD := [⟨.byt, [], 0⟩]
def mfByteS : List MF := fdByteS.map FD.f
def fdIntS : List FD := [⟨.int, [], 0⟩]
def mfIntS : List MF := fdIntS.map FD.f
def fdStringS : List FD := [⟨.str, [], 0⟩]
def mfStringS : List MF := fdStringS.map FD.f
theorem wf_bytes (s : ByteArray) (h : s.size ≤ 1048576) : wfF (.sub mfByteS) (bytesC s) := by
 refine ⟨h, by rw [bytesAV_len]; show _ = s.size * 1; omega, ?_⟩
 have key : ∀ l : List UInt8, wfL (repF l.length mfByteS) (l.map fun b => .sc (.int .u8 b.toNat)) := by
  intro l
  induction l with
  | nil => rfl
  | cons b l ih =>
   rw [List.length_cons, repF_succ, List.map_cons]
   exact wfL_cons.2 ⟨trivial, ih⟩
 have := key s.data.toList
 rwa [show s.data.toList.length = s.size by simp] at this
theorem cnt_flat (f : MF) (e : α → Value) (h : ∀ x, cntF f (.sc (e x)) = 1) : ∀ l : List α, cntL (repF l.length [f]) (l.map fun x => .sc (e x)) = l.length
 | [] => rfl
 | x :: l => by
  rw [List.length_cons, repF_succ, List.map_cons]
  show cntF f (.sc (e x)) + cntL (repF l.length [f]) _ = _
  rw [h, cnt_flat f e h l]
  omega
theorem cnt_bytes (s : ByteArray) : cntF (.sub mfByteS) (bytesC s) = s.size := by
 have := cnt_flat .byt (fun b : UInt8 => .int .u8 b.toNat) (fun _ => rfl) s.data.toList
 rw [show s.data.toList.length = s.size by simp] at this
 exact this
theorem wf_ints (l : List Int) (h : l.length ≤ 1048576) : wfF (.sub mfIntS) (intsC l) := by
 refine ⟨h, by simp [mfIntS, fdIntS], ?_⟩
 clear h
 induction l with
 | nil => rfl
 | cons b l ih =>
  rw [List.length_cons, repF_succ, List.map_cons]
  exact wfL_cons.2 ⟨trivial, ih⟩
theorem cnt_ints (l : List Int) : cntF (.sub mfIntS) (intsC l) = l.length := cnt_flat .int (fun z : Int => .int .i64 z) (fun _ => rfl) l
theorem wf_strs (l : List ByteArray) (h : l.length ≤ 1048576) : wfF (.sub mfStringS) (strsC l) := by
 refine ⟨h, by simp [mfStringS, fdStringS], ?_⟩
 clear h
 induction l with
 | nil => rfl
 | cons b l ih =>
  rw [List.length_cons, repF_succ, List.map_cons]
  exact wfL_cons.2 ⟨trivial, ih⟩
theorem cnt_strs (l : List ByteArray) : cntF (.sub mfStringS) (strsC l) = l.length := cnt_flat .str (fun z : ByteArray => .string z) (fun _ => rfl) l
theorem smwS {wt : α → Nat} (sm : α → Prop) (hs : ∀ x, wt x ≤ 1048576 → sm x) (l : List α) (h : wtL wt l ≤ 1048576) : l.length ≤ 1048576 ∧ ∀ y ∈ l, sm y := by
 have h1 := wtL_eq wt l
 refine ⟨by omega, fun y hy => hs y ?_⟩
 have h2 := wtS_mem (wt := wt) hy
 omega
theorem wf_rows {enc : α → List AV} {fs : List MF} (l : List α) (h : l.length ≤ 1048576) (hw : ∀ x ∈ l, wfL fs (enc x)) : wfF (.sub fs) (rowsC enc l) := by
 have key : ∀ l : List α, (∀ x ∈ l, wfL fs (enc x)) → (l.map enc).flatten.length = l.length * fs.length ∧ wfL (repF l.length fs) (l.map enc).flatten := by
  intro l
  induction l with
  | nil => intro _; exact ⟨by simp, rfl⟩
  | cons x l ih =>
   intro hw
   obtain ⟨h1, h2⟩ := ih fun y hy => hw y (List.mem_cons_of_mem _ hy)
   have hx := hw x List.mem_cons_self
   have hl := wfL_len hx
   rw [List.map_cons, List.flatten_cons, List.length_cons, repF_succ]
   exact ⟨by rw [List.length_append, h1, ← hl, Nat.succ_mul]; omega, (wfL_append hl).2 ⟨hx, h2⟩⟩
 obtain ⟨h1, h2⟩ := key l hw
 exact ⟨h, h1, h2⟩
theorem cnt_rows {enc : α → List AV} {fs : List MF} {wt : α → Nat} : ∀ (l : List α), (∀ x ∈ l, fs.length = (enc x).length) → (∀ x ∈ l, cntL fs (enc x) ≤ 64 * (1 + wt x)) → cntF (.sub fs) (rowsC enc l) ≤ 64 * wtL wt l
 | [], _, _ => Nat.zero_le _
 | x :: l, hl, h => by
  have ih := cnt_rows l (fun y hy => hl y (List.mem_cons_of_mem _ hy)) (fun y hy => h y (List.mem_cons_of_mem _ hy))
  have hx := h x List.mem_cons_self
  show cntL (repF (l.length + 1) fs) (enc x ++ (l.map enc).flatten) ≤ _
  rw [repF_succ, cntL_append _ _ _ _ (hl x List.mem_cons_self), wtL]
  have ih : cntL (repF l.length fs) (l.map enc).flatten ≤ 64 * wtL wt l := ih
  omega
def smMsg (x : MsgV) : Prop := x.fBody.size ≤ 1048576 ∧ True
theorem smwMsg (x : MsgV) (h : wtMsg x ≤ 1048576) : smMsg x := by
 have h0 := h
 unfold wtMsg at h0
 exact ⟨by omega, trivial⟩
end Go.Proofs.YtejjggnchdldoaaDoor.Abs
set_option linter.unusedVariables false
set_option linter.unusedSimpArgs false
set_option maxRecDepth 100000
namespace Go.Proofs.YtejjggnchdldoaaDoor.Abs
open Go
def vIn (x lo hi : Int) : Bool := decide (lo ≤ x) && decide (x ≤ hi)
theorem l1InF (n : Nat) (ty : Nat) (x : Int) (lo : Int) (hi : Int) : tree E0 (n + 1) ty 53 [.sc (.int .i64 x), .sc (.int .i64 lo), .sc (.int .i64 hi)] = some (.sc (.bool (vIn x lo hi))) := by
 rw [tree_def, f53_eq, f53]
 try simp only [PR_box, PR_new, PR_fadr, PR_load, PR_store, PR_bin, PR_binB, PR_binA, PR_un, PR_cond, PR_guard, PR_pick, PR_len, PR_lenS, PR_iadr, PR_idx, PR_slice, PR_sliceS, PR_newSl, PR_fill, PR_make, PR_app, PR_cvI, PR_cvBS]
 refine w_bin (v := .sc (.bool (decide (x ≥ lo)))) (fun k => rfl) ?_
 apply w_merge ((decide (x ≥ lo)) && (decide (x ≤ hi)))
 ·intro b1 q1
  refine w_split ((decide (x ≥ lo))) (fun h1 => ?_) (fun h1 => ?_)
  ·refine w_gT h1 ?_
   refine w_gT h1 ?_
   refine w_gT h1 ?_
   refine w_bin (v := .sc (.bool (decide (x ≤ hi)))) (fun k => rfl) ?_
   refine w_pTb h1 (mAT q1 h1) ?_
   exact rfl
  ·refine w_gF h1 ?_
   refine w_gF h1 ?_
   refine w_gF h1 ?_
   refine w_pFb h1 (mAF q1 h1) ?_
   exact rfl
 intro b1 q1
 exact w_endB (by first | (simp_all [vIn]; done) | (rw [Bool.eq_iff_iff]; simp [vIn] at *; omega))
theorem withinF (n : Nat) (ty : Nat) (x : Int) (lo : Int) (hi : Int) : tree E0 (n + 1) ty 59 [.sc (.int .i64 x), .sc (.int .i64 lo), .sc (.int .i64 hi)] = some (.sc (.bool (vIn x lo hi))) := by
 rw [tree_def, f59_eq, f59]
 try simp only [PR_box, PR_new, PR_fadr, PR_load, PR_store, PR_bin, PR_binB, PR_binA, PR_un, PR_cond, PR_guard, PR_pick, PR_len, PR_lenS, PR_iadr, PR_idx, PR_slice, PR_sliceS, PR_newSl, PR_fill, PR_make, PR_app, PR_cvI, PR_cvBS]
 refine w_bin (v := .sc (.bool (decide (x ≥ lo)))) (fun k => rfl) ?_
 apply w_merge ((decide (x ≥ lo)) && (decide (x ≤ hi)))
 ·intro b1 q1
  refine w_split ((decide (x ≥ lo))) (fun h1 => ?_) (fun h1 => ?_)
  ·refine w_gT h1 ?_
   refine w_gT h1 ?_
   refine w_gT h1 ?_
   refine w_bin (v := .sc (.bool (decide (x ≤ hi)))) (fun k => rfl) ?_
   refine w_pTb h1 (mAT q1 h1) ?_
   exact rfl
  ·refine w_gF h1 ?_
   refine w_gF h1 ?_
   refine w_gF h1 ?_
   refine w_pFb h1 (mAF q1 h1) ?_
   exact rfl
 intro b1 q1
 exact w_endB (by first | (simp_all [vIn]; done) | (rw [Bool.eq_iff_iff]; simp [vIn] at *; omega))
theorem bytesEqualF (n : Nat) (ty : Nat) (s t : ByteArray) : tree E0 (n + 1) ty 54 [bytesC s, bytesC t] = some (.sc (.bool (s.toList == t.toList))) := by
 rw [tree_def, f54_eq, f54]
 have e : ∀ u : ByteArray, content [] 1 (.ro u.size (bytesAV u)) = some (bytesAV u) := by
  intro u
  simp [content, bytesAV_len]
 have eb : ∀ u : ByteArray, (bytesAV u).mapM byteOf = some u.data.toList := fun u => byteOf_bytes _
 simp only [PR_cvBS, PR_bin, pCvBS, e, eb, Option.bind_some, pBin, binS]
 simp
end Go.Proofs.YtejjggnchdldoaaDoor.Abs
