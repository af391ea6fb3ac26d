/- Texts that are topics, as both sides have them. -/
import Derived.Test.YtpcgppelelfmiaaDoorVText
import Derived.Test.YtpcgppelelfmiaaDoorOwn
set_option linter.unusedVariables false
set_option linter.unusedSimpArgs false
set_option maxRecDepth 100000
namespace Go.Proofs.YtpcgppelelfmiaaDoor.Abs
open Go

/-- A topic. -/
def vTopicOk (s : ByteArray) : Bool := vTextOk s && !(s.toList == (⟨#[]⟩ : ByteArray).toList) && !(vHas s 43) && !(vHas s 35) && decide (((vLevels s).length : Int) ≤ 6)

section
variable {β : Type} {n : Nat} {H : Heap} {r : Option β}
/-- A call whose result is a list. -/
theorem lw_list {ty f len : Nat} {args vs cells : List AV} {K : AV → Heap → Option β} (hh : plainF f = false) (hv : args.mapM (viewV H 8) = some vs) (ht : tree E0 n ty f vs = some (.ro len cells)) (h : ∀ N X sz, K (.sl N 0 len sz) (H ++ X) = r) : (PR n β).call ty (.fn f [] []) args H (fun x H => K x H) = r := by
  rw [PR_call hh hv ht]
  exact h _ _ _
theorem w_endS {b b' : Bool} (h : b = b') : some (AV.sc (.bool b)) = some (AV.sc (.bool b')) := by rw [h]
/-- The element that is come to, the one before it. -/
theorem w_iadrE {α : Type} {w : Nat} {enc : α → List AV} {l pre t : List α} {x : α} {K : AV → Option β} (hw : ∀ x, (enc x).length = w) (h0 : 0 < w) (hl : l = pre ++ x :: t) (h : K (.rp (enc x ++ (t.map enc).flatten)) = r) : pIadr w (rowsC enc l) (.sc (.int .i64 (pre.length : Int))) (fun t => K t) = r := by
  subst hl
  exact (el_ro (β := β) hw h0 pre x t (fun t => K t)).trans h
theorem w_iadrP {α : Type} {w : Nat} {enc : α → List AV} {l pre t : List α} {K : AV → Option β} (hw : ∀ x, (enc x).length = w) (h0 : 0 < w) (hp : decide ((pre.length : Int) > 0) = true) (hl : l = pre ++ t) (hlen : l.length ≤ 1048576) (h : ∀ y, pre.getLast? = some y → K (.rp (enc y ++ (t.map enc).flatten)) = r) : pIadr w (rowsC enc l) (.sc (.int .i64 (IntKind.i64.wrap ((pre.length : Int) - 1)))) (fun t => K t) = r := by
  cases hg : pre.getLast? with
  | none =>
    rw [List.getLast?_eq_none_iff] at hg
    subst hg
    simp at hp
  | some y =>
    obtain ⟨p, rfl⟩ := List.getLast?_eq_some_iff.1 hg
    have hlp : p.length < 1048576 := by
      rw [hl] at hlen
      simp at hlen
      omega
    have e : IntKind.i64.wrap (((p ++ [y]).length : Int) - 1) = (p.length : Int) := by
      rw [List.length_append, List.length_singleton, wrap64 _ (by omega) (by omega)]
      omega
    rw [e]
    exact w_iadrE hw h0 (hl.trans (by simp)) (h y hg)
theorem w_lenL {id off m w : Nat} {K : AV → Option β} (h : K (.sc (.int .i64 m)) = r) : pLen (.sl id off m w) (fun t => K t) = r := h
end

section has
variable (n : Nat) (k : AV → Heap → Option AV) (H : Heap)
theorem has_loop (s : ByteArray) (b : UInt8) (hs : s.size ≤ 1048576) : ∀ (r pre : List UInt8) (m : Nat), s.data.toList = pre ++ r → r.length < m →
    f94_l0 (PR n AV) n k m (.sc (.string s)) (.sc (.int .u8 b.toNat)) (.sc (.int .i64 pre.length)) H = k (.sc (.bool (r.any fun c => c == b))) H
  | [], pre, m + 1, hl, hm => by
    have h1 : s.size = pre.length := by
      have := congrArg List.length hl
      simpa using this
    rw [f94_l0]
    simp only [PR_lenS, PR_bin, PR_cond]
    rw [lenSc, lss_nat, h1, cond_b, if_neg (by simp)]
    rfl
  | c :: r, pre, m + 1, hl, hm => by
    have h1 : s.size = pre.length + r.length + 1 := by
      have := congrArg List.length hl
      simpa [Nat.add_assoc] using this
    rw [f94_l0]
    simp only [PR_lenS, PR_bin, PR_cond, PR_idx]
    rw [lenSc, lss_nat, cond_b, if_pos (by simp; omega), idx_s s pre.length c _ (by rw [hl]; simp)]
    have he : ∀ K : AV → Option AV, pBin .eql (.sc (.int .u8 (c.toNat : Int))) (.sc (.int .u8 (b.toNat : Int))) K = K (.sc (.bool (c == b))) := by
      intro K
      show K (.sc (.bool ((c.toNat : Int) == (b.toNat : Int)))) = _
      congr 3
      rw [Bool.eq_iff_iff, beq_iff_eq, beq_iff_eq, Int.ofNat_inj, UInt8.toNat_inj]
    rw [he, cond_b, List.any_cons]
    cases hcb : (c == b)
    · rw [if_neg (by simp), inc_nat _ _ (by omega)]
      have ih := has_loop s b hs r (pre ++ [c]) m (by rw [hl]; simp) (by simpa using hm)
      rw [List.length_append, List.length_singleton] at ih
      rw [ih]
      rfl
    · rw [if_pos rfl]
      rfl
end has
theorem hasF (n : Nat) (hn : 1048576 < n) (ty : Nat) (s : ByteArray) (b : UInt8) (hs : s.size ≤ 1048576) : tree E0 (n + 1) ty 94 [.sc (.string s), .sc (.int .u8 b.toNat)] = some (.sc (.bool (vHas s b))) := by
  rw [tree_def, f94_eq, f94]
  have key := has_loop n (fun x H => ownTree ti0 E0.tp ty H x) [] s b hs s.data.toList [] n rfl (by simp; omega)
  simp only [List.length_nil, Int.natCast_zero] at key
  rw [key]
  rfl
theorem has43 (n : Nat) (hn : 1048576 < n) (ty : Nat) (s : ByteArray) (hs : s.size ≤ 1048576) : tree E0 (n + 1) ty 94 [.sc (.string s), .sc (.int .u8 43)] = some (.sc (.bool (vHas s 43))) := hasF n hn ty s 43 hs
theorem has35 (n : Nat) (hn : 1048576 < n) (ty : Nat) (s : ByteArray) (hs : s.size ≤ 1048576) : tree E0 (n + 1) ty 94 [.sc (.string s), .sc (.int .u8 35)] = some (.sc (.bool (vHas s 35))) := hasF n hn ty s 35 hs

theorem strs_ty : ∃ i j, ti0 109 = some i ∧ ti0 i.elem = some j ∧ j.size = 1 ∧ j.cty = [i.elem] := ⟨_, _, rfl, rfl, rfl, rfl⟩
def strC (l : List UInt8) : AV := .sc (.string (ofL l))
theorem ofL_extract (s : ByteArray) (P cur r : List UInt8) (h : s.data.toList = P ++ (cur ++ r)) : s.extract P.length (P.length + cur.length) = ofL cur := by
  have : (s.extract P.length (P.length + cur.length)).data.toList = cur := by
    rw [ByteArray.data_extract, Array.toList_extract, List.extract, h]
    rw [List.drop_append_of_le_length (Nat.le_refl _), List.drop_length, List.nil_append, Nat.add_sub_cancel_left, List.take_append_of_le_length (Nat.le_refl _), List.take_length]
  rw [← ofL_data (s.extract _ _), this]

theorem lev_piece {H : Heap} {x : AV} {cnt : Nat} {cells : List AV} {K : AV → Heap → Option AV} {r : Option AV} (s : ByteArray) (P cur rest : List UInt8) (hl : s.data.toList = P ++ (cur ++ rest)) (hs : s.size ≤ 1048576) (hx : OwnS 7 H 1 [9] x cnt cells) (hc : cnt ≤ 1048577)
    (h : ∀ x' H', OwnS 7 H' 1 [9] x' (cnt + 1) (cells ++ [strC cur]) → K x' H' = r) :
    (pSliceS (.sc (.string s)) (some (.sc (.int .i64 P.length))) (some (.sc (.int .i64 ((P.length + cur.length : Nat) : Int)))) fun t27 => (fillA [(.sc (.string ⟨#[]⟩))] [(0, 1, t27)]).bind fun ct28 => pNewSl 1 1 ct28 true H fun t28 H => pApp 1 16 x t28 H K) = r := by
  have hsz : P.length + cur.length ≤ s.size := by
    have := congrArg List.length hl
    simp at this
    omega
  simp only [pSliceS, asS, bound, asI, Option.bind_some]
  rw [if_pos (by omega)]
  simp only [Int.toNat_natCast]
  rw [ofL_extract s P cur rest hl]
  have hf : fillA [(.sc (.string ⟨#[]⟩))] [(0, 1, .sc (.string (ofL cur)))] = some [.sc (.string (ofL cur))] := rfl
  rw [hf, Option.bind_some]
  have key := app_one (H := H) (X := []) (bytes := 16) (er := [.sc (.string (ofL cur))]) (ec := [strC cur]) (eids := []) (K := K) (r := r) hx rfl rfl rfl List.nodup_nil (fun i hi => by cases hi) (by omega) h
  rw [List.append_nil] at key
  exact key

theorem lev_loop (n : Nat) (s : ByteArray) (hs : s.size ≤ 1048576) : ∀ (r P cur : List UInt8) (m : Nat) (x : AV) (H : Heap) (cnt : Nat) (cells : List AV), s.data.toList = P ++ (cur ++ r) → r.length + 1 < m → OwnS 7 H 1 [9] x cnt cells → cnt ≤ P.length →
    f95_l0 (PR n AV) n (fun x H => ownTree ti0 E0.tp 109 H x) m (.sc (.string s)) x (.sc (.int .i64 P.length)) (.sc (.int .i64 ((P.length + cur.length : Nat) : Int))) H = some (.ro (cnt + (lvL cur r).length) (cells ++ (lvL cur r).map strC))
  | [], P, cur, m + 2, x, H, cnt, cells, hl, hm, hx, hc => by
    have h1 : s.size = P.length + cur.length := by
      have := congrArg List.length hl
      simpa using this
    rw [f95_l0]
    simp only [PR_lenS, PR_bin, PR_cond, PR_guard, PR_pick, PR_sliceS, PR_fill, PR_newSl, PR_app, PR_idx]
    rw [lenSc, leq64, cond_b, if_pos (by simp; omega), lenSc, eql64]
    have he : (((P.length + cur.length : Nat) : Int) == (s.size : Int)) = true := by simp; omega
    refine w_hF he ?_
    refine w_hF he ?_
    refine w_hF he ?_
    refine w_hF he ?_
    refine w_pT he ?_
    refine w_cT rfl ?_
    refine lev_piece s P cur [] hl hs hx (by omega) fun x' H' hx' => ?_
    rw [inc_nat _ _ (by omega), inc_nat _ _ (by omega)]
    rw [f95_l0]
    simp only [PR_lenS, PR_bin, PR_cond]
    rw [lenSc, leq64, cond_b, if_neg (by simp; omega)]
    obtain ⟨i, j, e1, e2, e3, e4⟩ := strs_ty
    obtain ⟨ids, ho, hno⟩ := own_res (d := 7) (tyS := 109) (w := 1) (cty := [9]) ⟨_, _, rfl, rfl, rfl, rfl⟩ hx'
    rw [ownTree, ho, Option.bind_some, if_pos hno]
    rfl
  | c :: r, P, cur, m + 1, x, H, cnt, cells, hl, hm, hx, hc => by
    have h1 : s.size = P.length + cur.length + r.length + 1 := by
      have := congrArg List.length hl
      simp at this
      omega
    have hidx : s.data.toList[P.length + cur.length]? = some c := by
      rw [hl, ← List.append_assoc, ← List.length_append, List.getElem?_append_right (Nat.le_refl _), Nat.sub_self]
      rfl
    rw [f95_l0]
    simp only [PR_lenS, PR_bin, PR_cond, PR_guard, PR_pick, PR_sliceS, PR_fill, PR_newSl, PR_app, PR_idx]
    rw [lenSc, leq64, cond_b, if_pos (by simp; omega), lenSc, eql64]
    have he : (((P.length + cur.length : Nat) : Int) == (s.size : Int)) = false := by simp; omega
    refine w_hT he ?_
    refine w_hT he ?_
    refine w_hT he ?_
    rw [idx_s s (P.length + cur.length) c _ hidx]
    refine w_hT he ?_
    refine w_bin (v := .sc (.bool (c == 47))) (fun K => ?_) ?_
    · show K (.sc (.bool ((c.toNat : Int) == (47 : Int)))) = _
      congr 3
      rw [Bool.eq_iff_iff, beq_iff_eq, beq_iff_eq, show (47 : Int) = (((47 : UInt8).toNat : Nat) : Int) from rfl, Int.ofNat_inj, UInt8.toNat_inj]
    refine w_pF he ?_
    rw [lvL]
    by_cases h47 : c = 47
    · refine w_cT (by simp [h47]) ?_
      refine lev_piece s P cur (c :: r) hl hs hx (by omega) fun x' H' hx' => ?_
      rw [inc_nat _ _ (by omega), inc_nat _ _ (by omega), if_pos h47]
      have ih := lev_loop n s hs r (P ++ cur ++ [c]) [] m x' H' (cnt + 1) (cells ++ [strC cur]) (by rw [hl]; simp) (by simpa using hm) hx' (by simp; omega)
      simp only [List.length_append, List.length_nil, List.length_singleton, Nat.add_zero] at ih
      rw [ih]
      simp [Nat.add_assoc, Nat.add_comm]
    · refine w_cF (by simpa using h47) ?_
      rw [inc_nat _ _ (by omega), if_neg h47]
      have ih := lev_loop n s hs r P (cur ++ [c]) m x H cnt cells (by rw [hl]; simp) (by simpa using hm) hx hc
      rw [List.length_append, List.length_singleton, ← Nat.add_assoc] at ih
      exact ih
/-- spec.Levels. -/
theorem specLevelsF (n : Nat) (hn : 1048577 < n) (s : ByteArray) (hs : s.size ≤ 1048576) : tree E0 (n + 1) 109 95 [.sc (.string s)] = some (.ro (vLevels s).length ((vLevels s).map fun x => .sc (.string x))) := by
  rw [tree_def, f95_eq, f95]
  have key := lev_loop n s hs s.data.toList [] [] n .nl [] 0 [] rfl (by simp; omega) (OwnS.nil _ _ _ _) (by simp)
  simp only [List.length_nil, Int.natCast_zero, Nat.zero_add, List.nil_append] at key
  rw [key, vLevels, List.length_map, List.map_map]
  rfl
/-- impl.Levels. -/
theorem implLevelsF (n : Nat) (s : ByteArray) (hs : s.size ≤ 1048576) : tree E0 (n + 1) 109 98 [.sc (.string s)] = some (.ro (vLevels s).length ((vLevels s).map fun x => .sc (.string x))) := by
  rw [tree_def, f98_eq, f98]
  have hg : ext108 109 [.sc (.string s), .sc (.string ⟨#[47]⟩)] = some (.ro (vLevels s).length ((vLevels s).map fun x => .sc (.string x))) := by
    unfold ext108
    exact if_pos ⟨rfl, rfl, by omega⟩
  rw [PR_ext (g := ext108) rfl (vcons (Vw_sc _ _) (vcons (Vw_sc _ _) vnil)) hg]
  refine own_ret [] _ _ ?_
  refine ⟨_, _, rfl, rfl, by simp, ?_⟩
  have := okLW_rows (f := okW ti0 E0.tp 7) (cty := [9]) (enc := fun x : ByteArray => [.sc (.string x)]) (vLevels s) (fun x _ => ⟨trivial, trivial⟩)
  rw [flat_one] at this
  exact this
theorem containsF (ty : Nat) (s : ByteArray) (hs : s.size ≤ 1048576) : ext97 ty [.sc (.string s), .sc (.string ⟨#[43, 35]⟩)] = some (.sc (.bool (vPH s))) := by
  unfold ext97
  exact if_pos ⟨rfl, by omega⟩

end Go.Proofs.YtpcgppelelfmiaaDoor.Abs
