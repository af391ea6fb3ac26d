/- The structures, as typed values: Msg (written by types.py). -/
import Derived.Test.YtpcgppelelfmiaaKitB
set_option linter.unusedVariables false
set_option linter.unusedSimpArgs false
set_option maxRecDepth 100000
namespace Go.Proofs.Ytpcgppelelfmiaa.Abs
open Go
theorem tyByteS : ∃ i j, ti0 25 = some i ∧ ti0 i.elem = some j ∧ j.size = 1 ∧ j.cty.length = 1 := ⟨_, _, rfl, rfl, rfl, rfl⟩
theorem toF_ByteS (n : Nat) (hn : 1048576 < n) (s : ByteArray) (h : s.size ≤ 1048576) : tree E0 (n + 1) 25 24 [bytesC s] = some (bytesC s) := by
  have e : s.data.toList.length = s.size := by simp
  have h0 := to_flat (n := n) (bytes := 1) (fun b : UInt8 => .int .u8 b.toNat) (.sc (.int .u8 0)) (fun _ => rfl) tyByteS (fun k => f24_l0 (PR n AV) n k) (fun k m a o i H => rfl) (fun a H k => f24_eq n a H k) (by decide) s.data.toList (by rw [e]; exact h) hn
  rw [e] at h0
  exact h0
theorem eqF_ByteS (n : Nat) (hn : 1048576 < n) (tb : Nat) (s : ByteArray) (h : s.size ≤ 1048576) : tree E0 (n + 1) tb 19 [bytesC s, bytesC s] = some (.sc (.bool true)) := by
  have e : s.data.toList.length = s.size := by simp
  have h0 := eq_flat (n := n) (fun b : UInt8 => .int .u8 b.toNat) (fun x γ k => ne_u8 _ k) (fun k => f19_l0 (PR n AV) n k) (fun k m a b i H => rfl) (fun a b H k => f19_eq n a b H k) s.data.toList (by rw [e]; exact h) hn tb
  rw [e] at h0
  exact h0
theorem szF_ByteS (n : Nat) (ty : Nat) (s : ByteArray) (hmax : s.size ≤ 9223372036854775807) (left : Int) (h0 : 0 ≤ left) (h1 : left ≤ 1048576) : tree E0 (n + 1) ty 23 [bytesC s, .sc (.int .i64 left)] = some (.sc (.int .i64 (szR s.size left))) :=
  sz_len (n := n) (fun a b H k => f23_eq n a b H k) s.size _ hmax left h0 h1 ty

/-! Msg -/
structure MsgV where
  fTopic : ByteArray
  fBody : ByteArray
  fQos : Int
  fRetain : Bool
def encMsg (x : MsgV) : List AV := .sc (.string x.fTopic) :: bytesC x.fBody :: .sc (.int .i64 x.fQos) :: .sc (.bool x.fRetain) :: []
def wtMsg (x : MsgV) : Nat := x.fTopic.size + (x.fBody.size + 0)
def okMsg (x : MsgV) : Prop := okS x.fTopic ∧ okS x.fBody ∧ okI x.fQos ∧ True
theorem lenMsg (x : MsgV) : (encMsg x).length = 4 := rfl
theorem flMsg (x : MsgV) : (encMsg x).all isFl = true := rfl
def ctyMsg : List Nat := [9, 25, 3, 4]
theorem tyMsg : ∃ i, ti0 27 = some i ∧ i.cty = ctyMsg := ⟨_, rfl, rfl⟩
theorem okWMsg (d : Nat) (x : MsgV) : okLW (okW ti0 E0.tp (d + 2)) ctyMsg (encMsg x) := ⟨trivial, ⟨okW_bytes (d := d + 0) tyByteS x.fBody, ⟨trivial, ⟨trivial, trivial⟩⟩⟩⟩
theorem okT_Msg {n : Nat} {cs : List AV} (h : okT ti0 n 37 cs) : ∃ x : MsgV, cs = encMsg x ∧ okMsg x := by
  obtain ⟨m, hf⟩ := okT_struct (fs := [(0, 9), (1, 25), (2, 3), (3, 4)]) ⟨_, rfl, rfl, rfl, rfl, rfl, rfl, rfl⟩ h
  obtain ⟨a0, b0, rfl, h0, hf⟩ := hf
  obtain ⟨v0, rfl, k0⟩ := okT_str' h0
  obtain ⟨a1, b1, rfl, h1, hf⟩ := hf
  obtain ⟨v1, rfl, k1⟩ := okT_bytes' ⟨_, rfl, rfl, rfl, rfl, rfl, rfl⟩ h1
  obtain ⟨a2, b2, rfl, h2, hf⟩ := hf
  obtain ⟨v2, rfl, k2⟩ := okT_int' h2
  obtain ⟨a3, b3, rfl, h3, hf⟩ := hf
  obtain ⟨v3, rfl⟩ := okT_bool' h3
  subst hf
  exact ⟨⟨v0, v1, v2, v3⟩, rfl, k0, k1, k2, trivial⟩
def zzMsg : List AV := [(.sc (.string ⟨#[]⟩)), .nl, (.sc (.int .i64 0)), (.sc (.bool false))]
theorem toF_Msg (n : Nat) (hn : 1048576 < n) (x : MsgV) (h : wtMsg x ≤ 1048576) : tree E0 (n + 2) 27 17 [.agg (encMsg x)] = some (.agg (encMsg x)) := by
  rw [tree_def, f17_eq, f17]
  simp only [PR_box, PR_new, PR_fadr, PR_load, PR_store, pNew]
  rw [box_fl _ _ _ (flMsg x)]
  simp only [List.length_nil, List.nil_append, List.length_cons, List.cons_append, Nat.zero_add, Nat.reduceAdd]
  refine st_sc (T := ctyMsg) (C := encMsg x) (Z := zzMsg) (v := .string x.fTopic) (o' := 1) rfl rfl rfl rfl rfl ?_
  refine st_ro (o' := 2) rfl rfl rfl rfl rfl (toF_ByteS (n + 0) (by omega) x.fBody (by unfold wtMsg at h; omega)) rfl ?_
  refine st_sc (v := .int .i64 x.fQos) (o' := 3) rfl rfl rfl rfl rfl ?_
  refine st_sc (v := .bool x.fRetain) (o' := 4) rfl rfl rfl rfl rfl ?_
  exact st_end rfl rfl rfl (flMsg x) tyMsg (okWMsg 5 x)
theorem eqF_Msg (n : Nat) (hn : 1048576 < n) (tb : Nat) (x : MsgV) (h : wtMsg x ≤ 1048576) : tree E0 (n + 2) tb 9 [.agg (encMsg x), .agg (encMsg x)] = some (.sc (.bool true)) := by
  rw [tree_def, f9_eq, f9]
  simp only [PR_box, PR_fadr, PR_load, PR_bin, PR_binB, PR_un, PR_cond]
  rw [box_fl _ _ _ (flMsg x), box_fl _ _ _ (flMsg x)]
  simp only [List.length_nil, List.nil_append, List.length_cons, List.cons_append, Nat.zero_add, Nat.reduceAdd]
  refine eq_sc (v := .string x.fTopic) rfl rfl (fun k => ne_str _ k) ?_
  refine eq_ro rfl rfl rfl (eqF_ByteS (n + 0) (by omega) _ x.fBody (by unfold wtMsg at h; omega)) ?_
  refine eq_sc (v := .int .i64 x.fQos) rfl rfl (fun k => ne_int _ k) ?_
  refine eq_b (b := x.fRetain) rfl rfl ?_
  rfl
theorem szF_Msg (n : Nat) (hn : 1048576 < n) (ty : Nat) (x : MsgV) (hx : okMsg x) (left : Int) (h0 : 0 ≤ left) (h1 : left ≤ 1048576) : tree E0 (n + 2) ty 14 [.agg (encMsg x), .sc (.int .i64 left)] = szA (wtMsg x) left := by
  obtain ⟨k0, k1, _, _⟩ := hx
  unfold wtMsg
  rw [tree_def, f14_eq, f14]
  simp only [PR_box, PR_fadr, PR_load, PR_lenS, PR_bin, PR_cond]
  rw [box_fl _ _ _ (flMsg x)]
  simp only [List.length_nil, List.nil_append, List.length_cons, List.cons_append, Nat.zero_add, Nat.reduceAdd]
  refine sz_str (s := x.fTopic) rfl h0 h1 k0 rfl fun h0 h1 => ?_
  refine sz_ro rfl h0 h1 rfl (szF_ByteS (n + 0) _ x.fBody k1 _ h0 h1) rfl fun h0 h1 => ?_
  exact sz_end h0
theorem tyMsgS : ∃ i j, ti0 24 = some i ∧ ti0 i.elem = some j ∧ j.size = 4 ∧ j.cty = ctyMsg := ⟨_, _, rfl, rfl, rfl, rfl⟩
theorem toF_MsgS (n : Nat) (hn : 1048576 < n) (l : List MsgV) (h : wtL wtMsg l ≤ 1048576) : tree E0 (n + 3) 24 6 [rowsC encMsg l] = some (rowsC encMsg l) := by
  have e := wtL_eq wtMsg l
  exact to_slice (n := n + 2) (w := 4) (bytes := 56) (cty := ctyMsg) encMsg [(.sc (.string ⟨#[]⟩)), .nl, (.sc (.int .i64 0)), (.sc (.bool false))] rfl lenMsg rfl (by decide) tyMsgS tyMsg flMsg rfl (fun k => f6_l0 (PR (n + 2) AV) (n + 2) k) (fun k m a o i H => rfl) (fun a H k => f6_eq (n + 2) a H k) (by decide) l (fun x hx => toF_Msg n hn x (by have := wtS_mem (wt := wtMsg) hx; omega)) (fun x _ => okWMsg 5 x) (by omega) (by omega)
theorem eqF_MsgS (n : Nat) (hn : 1048576 < n) (tb : Nat) (l : List MsgV) (h : wtL wtMsg l ≤ 1048576) : tree E0 (n + 3) tb 8 [rowsC encMsg l, rowsC encMsg l] = some (.sc (.bool true)) := by
  have e := wtL_eq wtMsg l
  exact eq_slice (n := n + 2) encMsg lenMsg (by decide) flMsg rfl (fun k => f8_l0 (PR (n + 2) AV) (n + 2) k) (fun k m a b i H => rfl) (fun a b H k => f8_eq (n + 2) a b H k) l (fun x hx => eqF_Msg n hn _ x (by have := wtS_mem (wt := wtMsg) hx; omega)) (by omega) (by omega) tb
theorem szF_MsgS (n : Nat) (hn : 1048576 < n) (ty : Nat) (l : List MsgV) (hmax : l.length ≤ 9223372036854775807) (hok : ∀ x ∈ l, okMsg x) (left : Int) (h0 : 0 ≤ left) (h1 : left ≤ 1048576) : tree E0 (n + 3) ty 4 [rowsC encMsg l, .sc (.int .i64 left)] = some (.sc (.int .i64 (szR (wtL wtMsg l) left))) :=
  sz_slice (n := n + 2) encMsg wtMsg lenMsg (by decide) flMsg rfl (fun k => f4_l0 (PR (n + 2) AV) (n + 2) k) (fun k m a l i H => rfl) (fun a b H k => f4_eq (n + 2) a b H k) l (fun x hx left h0 h1 => szF_Msg n hn _ x (hok x hx) left h0 h1) hmax (by omega) left h0 h1 ty

end Go.Proofs.Ytpcgppelelfmiaa.Abs
