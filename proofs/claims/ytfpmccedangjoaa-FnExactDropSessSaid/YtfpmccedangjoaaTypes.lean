/- The structures, as typed values: Msg, Flight, Out, Sess, Stripe (written by types.py). -/
import Derived.Test.YtfpmccedangjoaaKitB
set_option linter.unusedVariables false
set_option linter.unusedSimpArgs false
set_option maxRecDepth 100000
namespace Go.Proofs.Ytfpmccedangjoaa.Abs
open Go
theorem tyByteS : ∃ i j, ti0 73 = some i ∧ ti0 i.elem = some j ∧ j.size = 1 ∧ j.cty.length = 1 := ⟨_, _, rfl, rfl, rfl, rfl⟩
theorem toF_ByteS (n : Nat) (hn : 1048576 < n) (s : ByteArray) (h : s.size ≤ 1048576) : tree E0 (n + 1) 73 70 [bytesC s] = some (bytesC s) := by
  have e : s.data.toList.length = s.size := by simp
  have h0 := to_flat (n := n) (bytes := 1) (fun b : UInt8 => .int .u8 b.toNat) (.sc (.int .u8 0)) (fun _ => rfl) tyByteS (fun k => f70_l0 (PR n AV) n k) (fun k m a o i H => rfl) (fun a H k => f70_eq n a H k) (by decide) s.data.toList (by rw [e]; exact h) hn
  rw [e] at h0
  exact h0
theorem eqF_ByteS (n : Nat) (hn : 1048576 < n) (tb : Nat) (s : ByteArray) (h : s.size ≤ 1048576) : tree E0 (n + 1) tb 71 [bytesC s, bytesC s] = some (.sc (.bool true)) := by
  have e : s.data.toList.length = s.size := by simp
  have h0 := eq_flat (n := n) (fun b : UInt8 => .int .u8 b.toNat) (fun x γ k => ne_u8 _ k) (fun k => f71_l0 (PR n AV) n k) (fun k m a b i H => rfl) (fun a b H k => f71_eq n a b H k) s.data.toList (by rw [e]; exact h) hn tb
  rw [e] at h0
  exact h0
theorem szF_ByteS (n : Nat) (ty : Nat) (s : ByteArray) (hmax : s.size ≤ 9223372036854775807) (left : Int) (h0 : 0 ≤ left) (h1 : left ≤ 1048576) : tree E0 (n + 1) ty 69 [bytesC s, .sc (.int .i64 left)] = some (.sc (.int .i64 (szR s.size left))) :=
  sz_len (n := n) (fun a b H k => f69_eq n a b H k) s.size _ hmax left h0 h1 ty
theorem tyIntS : ∃ i j, ti0 47 = some i ∧ ti0 i.elem = some j ∧ j.size = 1 ∧ j.cty.length = 1 := ⟨_, _, rfl, rfl, rfl, rfl⟩
theorem toF_IntS (n : Nat) (hn : 1048576 < n) (s : List Int) (h : s.length ≤ 1048576) : tree E0 (n + 1) 47 45 [intsC s] = some (intsC s) :=
  to_flat (n := n) (bytes := 8) (fun z : Int => .int .i64 z) (.sc (.int .i64 0)) (fun _ => rfl) tyIntS (fun k => f45_l0 (PR n AV) n k) (fun k m a o i H => rfl) (fun a H k => f45_eq n a H k) (by decide) s h hn
theorem eqF_IntS (n : Nat) (hn : 1048576 < n) (tb : Nat) (s : List Int) (h : s.length ≤ 1048576) : tree E0 (n + 1) tb 49 [intsC s, intsC s] = some (.sc (.bool true)) :=
  eq_flat (n := n) (fun z : Int => .int .i64 z) (fun x γ k => ne_int _ k) (fun k => f49_l0 (PR n AV) n k) (fun k m a b i H => rfl) (fun a b H k => f49_eq n a b H k) s h hn tb
theorem szF_IntS (n : Nat) (ty : Nat) (s : List Int) (hmax : s.length ≤ 9223372036854775807) (left : Int) (h0 : 0 ≤ left) (h1 : left ≤ 1048576) : tree E0 (n + 1) ty 43 [intsC s, .sc (.int .i64 left)] = some (.sc (.int .i64 (szR s.length left))) :=
  sz_len (n := n) (fun a b H k => f43_eq n a b H k) s.length _ hmax left h0 h1 ty

/-! Msg -/
structure MsgV where
  fTopic : ByteArray
  fBody : ByteArray
  fQos : Int
  fRetain : Bool
def encMsg (x : MsgV) : List AV := .sc (.string x.fTopic) :: bytesC x.fBody :: .sc (.int .i64 x.fQos) :: .sc (.bool x.fRetain) :: []
def wtMsg (x : MsgV) : Nat := x.fTopic.size + (x.fBody.size + 0)
def okMsg (x : MsgV) : Prop := okS x.fTopic ∧ okS x.fBody ∧ okI x.fQos ∧ True
theorem lenMsg (x : MsgV) : (encMsg x).length = 4 := rfl
theorem flMsg (x : MsgV) : (encMsg x).all isFl = true := rfl
def ctyMsg : List Nat := [9, 73, 3, 4]
theorem tyMsg : ∃ i, ti0 75 = some i ∧ i.cty = ctyMsg := ⟨_, rfl, rfl⟩
theorem okWMsg (d : Nat) (x : MsgV) : okLW (okW ti0 E0.tp (d + 2)) ctyMsg (encMsg x) := ⟨trivial, ⟨okW_bytes (d := d + 0) tyByteS x.fBody, ⟨trivial, ⟨trivial, trivial⟩⟩⟩⟩
theorem okT_Msg {n : Nat} {cs : List AV} (h : okT ti0 n 88 cs) : ∃ x : MsgV, cs = encMsg x ∧ okMsg x := by
  obtain ⟨m, hf⟩ := okT_struct (fs := [(0, 9), (1, 73), (2, 3), (3, 4)]) ⟨_, rfl, rfl, rfl, rfl, rfl, rfl, rfl⟩ h
  obtain ⟨a0, b0, rfl, h0, hf⟩ := hf
  obtain ⟨v0, rfl, k0⟩ := okT_str' h0
  obtain ⟨a1, b1, rfl, h1, hf⟩ := hf
  obtain ⟨v1, rfl, k1⟩ := okT_bytes' ⟨_, rfl, rfl, rfl, rfl, rfl, rfl⟩ h1
  obtain ⟨a2, b2, rfl, h2, hf⟩ := hf
  obtain ⟨v2, rfl, k2⟩ := okT_int' h2
  obtain ⟨a3, b3, rfl, h3, hf⟩ := hf
  obtain ⟨v3, rfl⟩ := okT_bool' h3
  subst hf
  exact ⟨⟨v0, v1, v2, v3⟩, rfl, k0, k1, k2, trivial⟩
def zzMsg : List AV := [(.sc (.string ⟨#[]⟩)), .nl, (.sc (.int .i64 0)), (.sc (.bool false))]
theorem toF_Msg (n : Nat) (hn : 1048576 < n) (x : MsgV) (h : wtMsg x ≤ 1048576) : tree E0 (n + 2) 75 65 [.agg (encMsg x)] = some (.agg (encMsg x)) := by
  rw [tree_def, f65_eq, f65]
  simp only [PR_box, PR_new, PR_fadr, PR_load, PR_store, pNew]
  rw [box_fl _ _ _ (flMsg x)]
  simp only [List.length_nil, List.nil_append, List.length_cons, List.cons_append, Nat.zero_add, Nat.reduceAdd]
  refine st_sc (T := ctyMsg) (C := encMsg x) (Z := zzMsg) (v := .string x.fTopic) (o' := 1) rfl rfl rfl rfl rfl ?_
  refine st_ro (o' := 2) rfl rfl rfl rfl rfl (toF_ByteS (n + 0) (by omega) x.fBody (by unfold wtMsg at h; omega)) rfl ?_
  refine st_sc (v := .int .i64 x.fQos) (o' := 3) rfl rfl rfl rfl rfl ?_
  refine st_sc (v := .bool x.fRetain) (o' := 4) rfl rfl rfl rfl rfl ?_
  exact st_end rfl rfl rfl (flMsg x) tyMsg (okWMsg 5 x)
theorem eqF_Msg (n : Nat) (hn : 1048576 < n) (tb : Nat) (x : MsgV) (h : wtMsg x ≤ 1048576) : tree E0 (n + 2) tb 68 [.agg (encMsg x), .agg (encMsg x)] = some (.sc (.bool true)) := by
  rw [tree_def, f68_eq, f68]
  simp only [PR_box, PR_fadr, PR_load, PR_bin, PR_binB, PR_un, PR_cond]
  rw [box_fl _ _ _ (flMsg x), box_fl _ _ _ (flMsg x)]
  simp only [List.length_nil, List.nil_append, List.length_cons, List.cons_append, Nat.zero_add, Nat.reduceAdd]
  refine eq_sc (v := .string x.fTopic) rfl rfl (fun k => ne_str _ k) ?_
  refine eq_ro rfl rfl rfl (eqF_ByteS (n + 0) (by omega) _ x.fBody (by unfold wtMsg at h; omega)) ?_
  refine eq_sc (v := .int .i64 x.fQos) rfl rfl (fun k => ne_int _ k) ?_
  refine eq_b (b := x.fRetain) rfl rfl ?_
  rfl
theorem szF_Msg (n : Nat) (hn : 1048576 < n) (ty : Nat) (x : MsgV) (hx : okMsg x) (left : Int) (h0 : 0 ≤ left) (h1 : left ≤ 1048576) : tree E0 (n + 2) ty 63 [.agg (encMsg x), .sc (.int .i64 left)] = szA (wtMsg x) left := by
  obtain ⟨k0, k1, _, _⟩ := hx
  unfold wtMsg
  rw [tree_def, f63_eq, f63]
  simp only [PR_box, PR_fadr, PR_load, PR_lenS, PR_bin, PR_cond]
  rw [box_fl _ _ _ (flMsg x)]
  simp only [List.length_nil, List.nil_append, List.length_cons, List.cons_append, Nat.zero_add, Nat.reduceAdd]
  refine sz_str (s := x.fTopic) rfl h0 h1 k0 rfl fun h0 h1 => ?_
  refine sz_ro rfl h0 h1 rfl (szF_ByteS (n + 0) _ x.fBody k1 _ h0 h1) rfl fun h0 h1 => ?_
  exact sz_end h0
theorem tyMsgS : ∃ i j, ti0 44 = some i ∧ ti0 i.elem = some j ∧ j.size = 4 ∧ j.cty = ctyMsg := ⟨_, _, rfl, rfl, rfl, rfl⟩
theorem toF_MsgS (n : Nat) (hn : 1048576 < n) (l : List MsgV) (h : wtL wtMsg l ≤ 1048576) : tree E0 (n + 3) 44 57 [rowsC encMsg l] = some (rowsC encMsg l) := by
  have e := wtL_eq wtMsg l
  exact to_slice (n := n + 2) (w := 4) (bytes := 56) (cty := ctyMsg) encMsg [(.sc (.string ⟨#[]⟩)), .nl, (.sc (.int .i64 0)), (.sc (.bool false))] rfl lenMsg rfl (by decide) tyMsgS tyMsg flMsg rfl (fun k => f57_l0 (PR (n + 2) AV) (n + 2) k) (fun k m a o i H => rfl) (fun a H k => f57_eq (n + 2) a H k) (by decide) l (fun x hx => toF_Msg n hn x (by have := wtS_mem (wt := wtMsg) hx; omega)) (fun x _ => okWMsg 5 x) (by omega) (by omega)
theorem eqF_MsgS (n : Nat) (hn : 1048576 < n) (tb : Nat) (l : List MsgV) (h : wtL wtMsg l ≤ 1048576) : tree E0 (n + 3) tb 61 [rowsC encMsg l, rowsC encMsg l] = some (.sc (.bool true)) := by
  have e := wtL_eq wtMsg l
  exact eq_slice (n := n + 2) encMsg lenMsg (by decide) flMsg rfl (fun k => f61_l0 (PR (n + 2) AV) (n + 2) k) (fun k m a b i H => rfl) (fun a b H k => f61_eq (n + 2) a b H k) l (fun x hx => eqF_Msg n hn _ x (by have := wtS_mem (wt := wtMsg) hx; omega)) (by omega) (by omega) tb
theorem szF_MsgS (n : Nat) (hn : 1048576 < n) (ty : Nat) (l : List MsgV) (hmax : l.length ≤ 9223372036854775807) (hok : ∀ x ∈ l, okMsg x) (left : Int) (h0 : 0 ≤ left) (h1 : left ≤ 1048576) : tree E0 (n + 3) ty 55 [rowsC encMsg l, .sc (.int .i64 left)] = some (.sc (.int .i64 (szR (wtL wtMsg l) left))) :=
  sz_slice (n := n + 2) encMsg wtMsg lenMsg (by decide) flMsg rfl (fun k => f55_l0 (PR (n + 2) AV) (n + 2) k) (fun k m a l i H => rfl) (fun a b H k => f55_eq (n + 2) a b H k) l (fun x hx left h0 h1 => szF_Msg n hn _ x (hok x hx) left h0 h1) hmax (by omega) left h0 h1 ty

/-! Flight -/
structure FlightV where
  fId : Int
  fM : MsgV
  fSt : Int
def encFlight (x : FlightV) : List AV := .sc (.int .i64 x.fId) :: (encMsg x.fM ++ .sc (.int .i64 x.fSt) :: [])
def wtFlight (x : FlightV) : Nat := wtMsg x.fM + 0
def okFlight (x : FlightV) : Prop := okI x.fId ∧ okMsg x.fM ∧ okI x.fSt
theorem lenFlight (x : FlightV) : (encFlight x).length = 6 := rfl
theorem flFlight (x : FlightV) : (encFlight x).all isFl = true := rfl
def ctyFlight : List Nat := [3, 9, 73, 3, 4, 3]
theorem tyFlight : ∃ i, ti0 77 = some i ∧ i.cty = ctyFlight := ⟨_, rfl, rfl⟩
theorem okWFlight (d : Nat) (x : FlightV) : okLW (okW ti0 E0.tp (d + 2)) ctyFlight (encFlight x) := ⟨trivial, okLW_append (ts := ctyMsg) (ts' := [3]) (okWMsg (d + 0) x.fM) ⟨trivial, trivial⟩⟩
theorem okT_Flight {n : Nat} {cs : List AV} (h : okT ti0 n 90 cs) : ∃ x : FlightV, cs = encFlight x ∧ okFlight x := by
  obtain ⟨m, hf⟩ := okT_struct (fs := [(0, 3), (1, 88), (5, 3)]) ⟨_, rfl, rfl, rfl, rfl, rfl, rfl, rfl⟩ h
  obtain ⟨a0, b0, rfl, h0, hf⟩ := hf
  obtain ⟨v0, rfl, k0⟩ := okT_int' h0
  obtain ⟨a1, b1, rfl, h1, hf⟩ := hf
  obtain ⟨v1, rfl, k1⟩ := okT_Msg h1
  obtain ⟨a2, b2, rfl, h2, hf⟩ := hf
  obtain ⟨v2, rfl, k2⟩ := okT_int' h2
  subst hf
  exact ⟨⟨v0, v1, v2⟩, rfl, k0, k1, k2⟩
def zzFlight : List AV := [(.sc (.int .i64 0)), (.sc (.string ⟨#[]⟩)), .nl, (.sc (.int .i64 0)), (.sc (.bool false)), (.sc (.int .i64 0))]
theorem toF_Flight (n : Nat) (hn : 1048576 < n) (x : FlightV) (h : wtFlight x ≤ 1048576) : tree E0 (n + 3) 77 64 [.agg (encFlight x)] = some (.agg (encFlight x)) := by
  rw [tree_def, f64_eq, f64]
  simp only [PR_box, PR_new, PR_fadr, PR_load, PR_store, pNew]
  rw [box_fl _ _ _ (flFlight x)]
  simp only [List.length_nil, List.nil_append, List.length_cons, List.cons_append, Nat.zero_add, Nat.reduceAdd]
  refine st_sc (T := ctyFlight) (C := encFlight x) (Z := zzFlight) (v := .int .i64 x.fId) (o' := 1) rfl rfl rfl rfl rfl ?_
  refine st_agg (cty := ctyMsg) (cells := encMsg x.fM) (o' := 5) rfl rfl rfl rfl rfl (flMsg _) (toF_Msg (n + 0) (by omega) x.fM (by unfold wtFlight at h; omega)) tyMsg rfl (by decide) rfl ?_
  refine st_sc (v := .int .i64 x.fSt) (o' := 6) rfl rfl rfl rfl rfl ?_
  exact st_end rfl rfl rfl (flFlight x) tyFlight (okWFlight 5 x)
theorem eqF_Flight (n : Nat) (hn : 1048576 < n) (tb : Nat) (x : FlightV) (h : wtFlight x ≤ 1048576) : tree E0 (n + 3) tb 67 [.agg (encFlight x), .agg (encFlight x)] = some (.sc (.bool true)) := by
  rw [tree_def, f67_eq, f67]
  simp only [PR_box, PR_fadr, PR_load, PR_bin, PR_binB, PR_un, PR_cond]
  rw [box_fl _ _ _ (flFlight x), box_fl _ _ _ (flFlight x)]
  simp only [List.length_nil, List.nil_append, List.length_cons, List.cons_append, Nat.zero_add, Nat.reduceAdd]
  refine eq_sc (v := .int .i64 x.fId) rfl rfl (fun k => ne_int _ k) ?_
  refine eq_agg (cells := encMsg x.fM) rfl rfl rfl (flMsg _) (eqF_Msg (n + 0) (by omega) _ x.fM (by unfold wtFlight at h; omega)) ?_
  refine eq_sc (v := .int .i64 x.fSt) rfl rfl (fun k => ne_int _ k) ?_
  rfl
theorem szF_Flight (n : Nat) (hn : 1048576 < n) (ty : Nat) (x : FlightV) (hx : okFlight x) (left : Int) (h0 : 0 ≤ left) (h1 : left ≤ 1048576) : tree E0 (n + 3) ty 62 [.agg (encFlight x), .sc (.int .i64 left)] = szA (wtFlight x) left := by
  obtain ⟨_, k1, _⟩ := hx
  unfold wtFlight
  rw [tree_def, f62_eq, f62]
  simp only [PR_box, PR_fadr, PR_load, PR_lenS, PR_bin, PR_cond]
  rw [box_fl _ _ _ (flFlight x)]
  simp only [List.length_nil, List.nil_append, List.length_cons, List.cons_append, Nat.zero_add, Nat.reduceAdd]
  refine sz_agg (cells := encMsg x.fM) rfl h0 h1 rfl (flMsg _) (szF_Msg (n + 0) (by omega) _ x.fM k1 _ h0 h1) rfl fun h0 h1 => ?_
  exact sz_end h0
theorem tyFlightS : ∃ i j, ti0 43 = some i ∧ ti0 i.elem = some j ∧ j.size = 6 ∧ j.cty = ctyFlight := ⟨_, _, rfl, rfl, rfl, rfl⟩
theorem toF_FlightS (n : Nat) (hn : 1048576 < n) (l : List FlightV) (h : wtL wtFlight l ≤ 1048576) : tree E0 (n + 4) 43 56 [rowsC encFlight l] = some (rowsC encFlight l) := by
  have e := wtL_eq wtFlight l
  exact to_slice (n := n + 3) (w := 6) (bytes := 72) (cty := ctyFlight) encFlight [(.sc (.int .i64 0)), (.sc (.string ⟨#[]⟩)), .nl, (.sc (.int .i64 0)), (.sc (.bool false)), (.sc (.int .i64 0))] rfl lenFlight rfl (by decide) tyFlightS tyFlight flFlight rfl (fun k => f56_l0 (PR (n + 3) AV) (n + 3) k) (fun k m a o i H => rfl) (fun a H k => f56_eq (n + 3) a H k) (by decide) l (fun x hx => toF_Flight n hn x (by have := wtS_mem (wt := wtFlight) hx; omega)) (fun x _ => okWFlight 5 x) (by omega) (by omega)
theorem eqF_FlightS (n : Nat) (hn : 1048576 < n) (tb : Nat) (l : List FlightV) (h : wtL wtFlight l ≤ 1048576) : tree E0 (n + 4) tb 60 [rowsC encFlight l, rowsC encFlight l] = some (.sc (.bool true)) := by
  have e := wtL_eq wtFlight l
  exact eq_slice (n := n + 3) encFlight lenFlight (by decide) flFlight rfl (fun k => f60_l0 (PR (n + 3) AV) (n + 3) k) (fun k m a b i H => rfl) (fun a b H k => f60_eq (n + 3) a b H k) l (fun x hx => eqF_Flight n hn _ x (by have := wtS_mem (wt := wtFlight) hx; omega)) (by omega) (by omega) tb
theorem szF_FlightS (n : Nat) (hn : 1048576 < n) (ty : Nat) (l : List FlightV) (hmax : l.length ≤ 9223372036854775807) (hok : ∀ x ∈ l, okFlight x) (left : Int) (h0 : 0 ≤ left) (h1 : left ≤ 1048576) : tree E0 (n + 4) ty 54 [rowsC encFlight l, .sc (.int .i64 left)] = some (.sc (.int .i64 (szR (wtL wtFlight l) left))) :=
  sz_slice (n := n + 3) encFlight wtFlight lenFlight (by decide) flFlight rfl (fun k => f54_l0 (PR (n + 3) AV) (n + 3) k) (fun k m a l i H => rfl) (fun a b H k => f54_eq (n + 3) a b H k) l (fun x hx left h0 h1 => szF_Flight n hn _ x (hok x hx) left h0 h1) hmax (by omega) left h0 h1 ty

/-! Out -/
structure OutV where
  fLast : Int
  fFl : List FlightV
  fQ : List MsgV
def encOut (x : OutV) : List AV := .sc (.int .i64 x.fLast) :: rowsC encFlight x.fFl :: rowsC encMsg x.fQ :: []
def wtOut (x : OutV) : Nat := wtL wtFlight x.fFl + (wtL wtMsg x.fQ + 0)
def okOut (x : OutV) : Prop := okI x.fLast ∧ (x.fFl.length ≤ 9223372036854775807 ∧ ∀ z ∈ x.fFl, okFlight z) ∧ (x.fQ.length ≤ 9223372036854775807 ∧ ∀ z ∈ x.fQ, okMsg z)
theorem lenOut (x : OutV) : (encOut x).length = 3 := rfl
theorem flOut (x : OutV) : (encOut x).all isFl = true := rfl
def ctyOut : List Nat := [3, 43, 44]
theorem tyOut : ∃ i, ti0 46 = some i ∧ i.cty = ctyOut := ⟨_, rfl, rfl⟩
theorem okWOut (d : Nat) (x : OutV) : okLW (okW ti0 E0.tp (d + 3)) ctyOut (encOut x) := ⟨trivial, ⟨okW_rows (d := d + 2) lenFlight tyFlightS (okWFlight (d + 0)) x.fFl, ⟨okW_rows (d := d + 2) lenMsg tyMsgS (okWMsg (d + 0)) x.fQ, trivial⟩⟩⟩
theorem okT_Out {n : Nat} {cs : List AV} (h : okT ti0 n 57 cs) : ∃ x : OutV, cs = encOut x ∧ okOut x := by
  obtain ⟨m, hf⟩ := okT_struct (fs := [(0, 3), (1, 54), (2, 55)]) ⟨_, rfl, rfl, rfl, rfl, rfl, rfl, rfl⟩ h
  obtain ⟨a0, b0, rfl, h0, hf⟩ := hf
  obtain ⟨v0, rfl, k0⟩ := okT_int' h0
  obtain ⟨a1, b1, rfl, h1, hf⟩ := hf
  obtain ⟨v1, rfl, k1⟩ := okT_rows (ok := okFlight) ⟨_, rfl, rfl, rfl, rfl, rfl, rfl⟩ (fun n cs h => okT_Flight h) h1
  obtain ⟨a2, b2, rfl, h2, hf⟩ := hf
  obtain ⟨v2, rfl, k2⟩ := okT_rows (ok := okMsg) ⟨_, rfl, rfl, rfl, rfl, rfl, rfl⟩ (fun n cs h => okT_Msg h) h2
  subst hf
  exact ⟨⟨v0, v1, v2⟩, rfl, k0, k1, k2⟩
def zzOut : List AV := [(.sc (.int .i64 0)), .nl, .nl]
theorem toF_Out (n : Nat) (hn : 1048576 < n) (x : OutV) (h : wtOut x ≤ 1048576) : tree E0 (n + 5) 46 44 [.agg (encOut x)] = some (.agg (encOut x)) := by
  rw [tree_def, f44_eq, f44]
  simp only [PR_box, PR_new, PR_fadr, PR_load, PR_store, pNew]
  rw [box_fl _ _ _ (flOut x)]
  simp only [List.length_nil, List.nil_append, List.length_cons, List.cons_append, Nat.zero_add, Nat.reduceAdd]
  refine st_sc (T := ctyOut) (C := encOut x) (Z := zzOut) (v := .int .i64 x.fLast) (o' := 1) rfl rfl rfl rfl rfl ?_
  refine st_ro (o' := 2) rfl rfl rfl rfl rfl (toF_FlightS (n + 0) (by omega) x.fFl (by unfold wtOut at h; omega)) rfl ?_
  refine st_ro (o' := 3) rfl rfl rfl rfl rfl (toF_MsgS (n + 1) (by omega) x.fQ (by unfold wtOut at h; omega)) rfl ?_
  exact st_end rfl rfl rfl (flOut x) tyOut (okWOut 4 x)
theorem eqF_Out (n : Nat) (hn : 1048576 < n) (tb : Nat) (x : OutV) (h : wtOut x ≤ 1048576) : tree E0 (n + 5) tb 48 [.agg (encOut x), .agg (encOut x)] = some (.sc (.bool true)) := by
  rw [tree_def, f48_eq, f48]
  simp only [PR_box, PR_fadr, PR_load, PR_bin, PR_binB, PR_un, PR_cond]
  rw [box_fl _ _ _ (flOut x), box_fl _ _ _ (flOut x)]
  simp only [List.length_nil, List.nil_append, List.length_cons, List.cons_append, Nat.zero_add, Nat.reduceAdd]
  refine eq_sc (v := .int .i64 x.fLast) rfl rfl (fun k => ne_int _ k) ?_
  refine eq_ro rfl rfl rfl (eqF_FlightS (n + 0) (by omega) _ x.fFl (by unfold wtOut at h; omega)) ?_
  refine eq_ro rfl rfl rfl (eqF_MsgS (n + 1) (by omega) _ x.fQ (by unfold wtOut at h; omega)) ?_
  rfl
theorem szF_Out (n : Nat) (hn : 1048576 < n) (ty : Nat) (x : OutV) (hx : okOut x) (left : Int) (h0 : 0 ≤ left) (h1 : left ≤ 1048576) : tree E0 (n + 5) ty 42 [.agg (encOut x), .sc (.int .i64 left)] = szA (wtOut x) left := by
  obtain ⟨_, k1, k2⟩ := hx
  unfold wtOut
  rw [tree_def, f42_eq, f42]
  simp only [PR_box, PR_fadr, PR_load, PR_lenS, PR_bin, PR_cond]
  rw [box_fl _ _ _ (flOut x)]
  simp only [List.length_nil, List.nil_append, List.length_cons, List.cons_append, Nat.zero_add, Nat.reduceAdd]
  refine sz_ro rfl h0 h1 rfl (szF_FlightS (n + 0) (by omega) _ x.fFl k1.1 k1.2 _ h0 h1) rfl fun h0 h1 => ?_
  refine sz_ro rfl h0 h1 rfl (szF_MsgS (n + 1) (by omega) _ x.fQ k2.1 k2.2 _ h0 h1) rfl fun h0 h1 => ?_
  exact sz_end h0

/-! Sess -/
structure SessV where
  fClient : ByteArray
  fBorn : Int
  fClean : Bool
  fConn : Int
  fGen : Int
  fO : OutV
  fIn : List Int
def encSess (x : SessV) : List AV := .sc (.string x.fClient) :: .sc (.int .i64 x.fBorn) :: .sc (.bool x.fClean) :: .sc (.int .i64 x.fConn) :: .sc (.int .i64 x.fGen) :: (encOut x.fO ++ intsC x.fIn :: [])
def wtSess (x : SessV) : Nat := x.fClient.size + (wtOut x.fO + (x.fIn.length + 0))
def okSess (x : SessV) : Prop := okS x.fClient ∧ okI x.fBorn ∧ True ∧ okI x.fConn ∧ okI x.fGen ∧ okOut x.fO ∧ (x.fIn.length ≤ 9223372036854775807 ∧ ∀ z ∈ x.fIn, okI z)
theorem lenSess (x : SessV) : (encSess x).length = 9 := rfl
theorem flSess (x : SessV) : (encSess x).all isFl = true := rfl
def ctySess : List Nat := [9, 3, 4, 3, 3, 3, 43, 44, 47]
theorem tySess : ∃ i, ti0 49 = some i ∧ i.cty = ctySess := ⟨_, rfl, rfl⟩
theorem okWSess (d : Nat) (x : SessV) : okLW (okW ti0 E0.tp (d + 3)) ctySess (encSess x) := ⟨trivial, ⟨trivial, ⟨trivial, ⟨trivial, ⟨trivial, okLW_append (ts := ctyOut) (ts' := [47]) (okWOut (d + 0) x.fO) ⟨okW_flat (d := d + 1) (fun z : Int => .int .i64 z) tyIntS x.fIn, trivial⟩⟩⟩⟩⟩⟩
theorem okT_Sess {n : Nat} {cs : List AV} (h : okT ti0 n 59 cs) : ∃ x : SessV, cs = encSess x ∧ okSess x := by
  obtain ⟨m, hf⟩ := okT_struct (fs := [(0, 9), (1, 3), (2, 4), (3, 3), (4, 3), (5, 57), (8, 47)]) ⟨_, rfl, rfl, rfl, rfl, rfl, rfl, rfl⟩ h
  obtain ⟨a0, b0, rfl, h0, hf⟩ := hf
  obtain ⟨v0, rfl, k0⟩ := okT_str' h0
  obtain ⟨a1, b1, rfl, h1, hf⟩ := hf
  obtain ⟨v1, rfl, k1⟩ := okT_int' h1
  obtain ⟨a2, b2, rfl, h2, hf⟩ := hf
  obtain ⟨v2, rfl⟩ := okT_bool' h2
  obtain ⟨a3, b3, rfl, h3, hf⟩ := hf
  obtain ⟨v3, rfl, k3⟩ := okT_int' h3
  obtain ⟨a4, b4, rfl, h4, hf⟩ := hf
  obtain ⟨v4, rfl, k4⟩ := okT_int' h4
  obtain ⟨a5, b5, rfl, h5, hf⟩ := hf
  obtain ⟨v5, rfl, k5⟩ := okT_Out h5
  obtain ⟨a6, b6, rfl, h6, hf⟩ := hf
  obtain ⟨v6, rfl, k6⟩ := okT_ints' ⟨_, rfl, rfl, rfl, rfl, rfl, rfl⟩ h6
  subst hf
  exact ⟨⟨v0, v1, v2, v3, v4, v5, v6⟩, rfl, k0, k1, trivial, k3, k4, k5, k6⟩
def zzSess : List AV := [(.sc (.string ⟨#[]⟩)), (.sc (.int .i64 0)), (.sc (.bool false)), (.sc (.int .i64 0)), (.sc (.int .i64 0)), (.sc (.int .i64 0)), .nl, .nl, .nl]
theorem toF_Sess (n : Nat) (hn : 1048576 < n) (x : SessV) (h : wtSess x ≤ 1048576) : tree E0 (n + 6) 49 30 [.agg (encSess x)] = some (.agg (encSess x)) := by
  rw [tree_def, f30_eq, f30]
  simp only [PR_box, PR_new, PR_fadr, PR_load, PR_store, pNew]
  rw [box_fl _ _ _ (flSess x)]
  simp only [List.length_nil, List.nil_append, List.length_cons, List.cons_append, Nat.zero_add, Nat.reduceAdd]
  refine st_sc (T := ctySess) (C := encSess x) (Z := zzSess) (v := .string x.fClient) (o' := 1) rfl rfl rfl rfl rfl ?_
  refine st_sc (v := .int .i64 x.fBorn) (o' := 2) rfl rfl rfl rfl rfl ?_
  refine st_sc (v := .bool x.fClean) (o' := 3) rfl rfl rfl rfl rfl ?_
  refine st_sc (v := .int .i64 x.fConn) (o' := 4) rfl rfl rfl rfl rfl ?_
  refine st_sc (v := .int .i64 x.fGen) (o' := 5) rfl rfl rfl rfl rfl ?_
  refine st_agg (cty := ctyOut) (cells := encOut x.fO) (o' := 8) rfl rfl rfl rfl rfl (flOut _) (toF_Out (n + 0) (by omega) x.fO (by unfold wtSess at h; omega)) tyOut rfl (by decide) rfl ?_
  refine st_ro (o' := 9) rfl rfl rfl rfl rfl (toF_IntS (n + 4) (by omega) x.fIn (by unfold wtSess at h; omega)) rfl ?_
  exact st_end rfl rfl rfl (flSess x) tySess (okWSess 4 x)
theorem eqF_Sess (n : Nat) (hn : 1048576 < n) (tb : Nat) (x : SessV) (h : wtSess x ≤ 1048576) : tree E0 (n + 6) tb 32 [.agg (encSess x), .agg (encSess x)] = some (.sc (.bool true)) := by
  rw [tree_def, f32_eq, f32]
  simp only [PR_box, PR_fadr, PR_load, PR_bin, PR_binB, PR_un, PR_cond]
  rw [box_fl _ _ _ (flSess x), box_fl _ _ _ (flSess x)]
  simp only [List.length_nil, List.nil_append, List.length_cons, List.cons_append, Nat.zero_add, Nat.reduceAdd]
  refine eq_sc (v := .string x.fClient) rfl rfl (fun k => ne_str _ k) ?_
  refine eq_sc (v := .int .i64 x.fBorn) rfl rfl (fun k => ne_int _ k) ?_
  refine eq_b (b := x.fClean) rfl rfl ?_
  refine eq_sc (v := .int .i64 x.fConn) rfl rfl (fun k => ne_int _ k) ?_
  refine eq_sc (v := .int .i64 x.fGen) rfl rfl (fun k => ne_int _ k) ?_
  refine eq_agg (cells := encOut x.fO) rfl rfl rfl (flOut _) (eqF_Out (n + 0) (by omega) _ x.fO (by unfold wtSess at h; omega)) ?_
  refine eq_ro rfl rfl rfl (eqF_IntS (n + 4) (by omega) _ x.fIn (by unfold wtSess at h; omega)) ?_
  rfl
theorem szF_Sess (n : Nat) (hn : 1048576 < n) (ty : Nat) (x : SessV) (hx : okSess x) (left : Int) (h0 : 0 ≤ left) (h1 : left ≤ 1048576) : tree E0 (n + 6) ty 29 [.agg (encSess x), .sc (.int .i64 left)] = szA (wtSess x) left := by
  obtain ⟨k0, _, _, _, _, k5, k6⟩ := hx
  unfold wtSess
  rw [tree_def, f29_eq, f29]
  simp only [PR_box, PR_fadr, PR_load, PR_lenS, PR_bin, PR_cond]
  rw [box_fl _ _ _ (flSess x)]
  simp only [List.length_nil, List.nil_append, List.length_cons, List.cons_append, Nat.zero_add, Nat.reduceAdd]
  refine sz_str (s := x.fClient) rfl h0 h1 k0 rfl fun h0 h1 => ?_
  refine sz_agg (cells := encOut x.fO) rfl h0 h1 rfl (flOut _) (szF_Out (n + 0) (by omega) _ x.fO k5 _ h0 h1) rfl fun h0 h1 => ?_
  refine sz_ro rfl h0 h1 rfl (szF_IntS (n + 4) _ x.fIn k6.1 _ h0 h1) rfl fun h0 h1 => ?_
  exact sz_end h0
theorem tySessS : ∃ i j, ti0 26 = some i ∧ ti0 i.elem = some j ∧ j.size = 9 ∧ j.cty = ctySess := ⟨_, _, rfl, rfl, rfl, rfl⟩
theorem toF_SessS (n : Nat) (hn : 1048576 < n) (l : List SessV) (h : wtL wtSess l ≤ 1048576) : tree E0 (n + 7) 26 20 [rowsC encSess l] = some (rowsC encSess l) := by
  have e := wtL_eq wtSess l
  exact to_slice (n := n + 6) (w := 9) (bytes := 128) (cty := ctySess) encSess [(.sc (.string ⟨#[]⟩)), (.sc (.int .i64 0)), (.sc (.bool false)), (.sc (.int .i64 0)), (.sc (.int .i64 0)), (.sc (.int .i64 0)), .nl, .nl, .nl] rfl lenSess rfl (by decide) tySessS tySess flSess rfl (fun k => f20_l0 (PR (n + 6) AV) (n + 6) k) (fun k m a o i H => rfl) (fun a H k => f20_eq (n + 6) a H k) (by decide) l (fun x hx => toF_Sess n hn x (by have := wtS_mem (wt := wtSess) hx; omega)) (fun x _ => okWSess 4 x) (by omega) (by omega)
theorem eqF_SessS (n : Nat) (hn : 1048576 < n) (tb : Nat) (l : List SessV) (h : wtL wtSess l ≤ 1048576) : tree E0 (n + 7) tb 23 [rowsC encSess l, rowsC encSess l] = some (.sc (.bool true)) := by
  have e := wtL_eq wtSess l
  exact eq_slice (n := n + 6) encSess lenSess (by decide) flSess rfl (fun k => f23_l0 (PR (n + 6) AV) (n + 6) k) (fun k m a b i H => rfl) (fun a b H k => f23_eq (n + 6) a b H k) l (fun x hx => eqF_Sess n hn _ x (by have := wtS_mem (wt := wtSess) hx; omega)) (by omega) (by omega) tb
theorem szF_SessS (n : Nat) (hn : 1048576 < n) (ty : Nat) (l : List SessV) (hmax : l.length ≤ 9223372036854775807) (hok : ∀ x ∈ l, okSess x) (left : Int) (h0 : 0 ≤ left) (h1 : left ≤ 1048576) : tree E0 (n + 7) ty 17 [rowsC encSess l, .sc (.int .i64 left)] = some (.sc (.int .i64 (szR (wtL wtSess l) left))) :=
  sz_slice (n := n + 6) encSess wtSess lenSess (by decide) flSess rfl (fun k => f17_l0 (PR (n + 6) AV) (n + 6) k) (fun k m a l i H => rfl) (fun a b H k => f17_eq (n + 6) a b H k) l (fun x hx left h0 h1 => szF_Sess n hn _ x (hok x hx) left h0 h1) hmax (by omega) left h0 h1 ty

/-! Stripe -/
structure StripeV where
  fHeld : Int
  fL : List SessV
def encStripe (x : StripeV) : List AV := .sc (.int .i64 x.fHeld) :: rowsC encSess x.fL :: []
def wtStripe (x : StripeV) : Nat := wtL wtSess x.fL + 0
def okStripe (x : StripeV) : Prop := okI x.fHeld ∧ (x.fL.length ≤ 9223372036854775807 ∧ ∀ z ∈ x.fL, okSess z)
theorem lenStripe (x : StripeV) : (encStripe x).length = 2 := rfl
theorem flStripe (x : StripeV) : (encStripe x).all isFl = true := rfl
def ctyStripe : List Nat := [3, 26]
theorem tyStripe : ∃ i, ti0 28 = some i ∧ i.cty = ctyStripe := ⟨_, rfl, rfl⟩
theorem okWStripe (d : Nat) (x : StripeV) : okLW (okW ti0 E0.tp (d + 4)) ctyStripe (encStripe x) := ⟨trivial, ⟨okW_rows (d := d + 3) lenSess tySessS (okWSess (d + 0)) x.fL, trivial⟩⟩
theorem okT_Stripe {n : Nat} {cs : List AV} (h : okT ti0 n 24 cs) : ∃ x : StripeV, cs = encStripe x ∧ okStripe x := by
  obtain ⟨m, hf⟩ := okT_struct (fs := [(0, 3), (1, 22)]) ⟨_, rfl, rfl, rfl, rfl, rfl, rfl, rfl⟩ h
  obtain ⟨a0, b0, rfl, h0, hf⟩ := hf
  obtain ⟨v0, rfl, k0⟩ := okT_int' h0
  obtain ⟨a1, b1, rfl, h1, hf⟩ := hf
  obtain ⟨v1, rfl, k1⟩ := okT_rows (ok := okSess) ⟨_, rfl, rfl, rfl, rfl, rfl, rfl⟩ (fun n cs h => okT_Sess h) h1
  subst hf
  exact ⟨⟨v0, v1⟩, rfl, k0, k1⟩
def zzStripe : List AV := [(.sc (.int .i64 0)), .nl]
theorem toF_Stripe (n : Nat) (hn : 1048576 < n) (x : StripeV) (h : wtStripe x ≤ 1048576) : tree E0 (n + 8) 28 8 [.agg (encStripe x)] = some (.agg (encStripe x)) := by
  rw [tree_def, f8_eq, f8]
  simp only [PR_box, PR_new, PR_fadr, PR_load, PR_store, pNew]
  rw [box_fl _ _ _ (flStripe x)]
  simp only [List.length_nil, List.nil_append, List.length_cons, List.cons_append, Nat.zero_add, Nat.reduceAdd]
  refine st_sc (T := ctyStripe) (C := encStripe x) (Z := zzStripe) (v := .int .i64 x.fHeld) (o' := 1) rfl rfl rfl rfl rfl ?_
  refine st_ro (o' := 2) rfl rfl rfl rfl rfl (toF_SessS (n + 0) (by omega) x.fL (by unfold wtStripe at h; omega)) rfl ?_
  exact st_end rfl rfl rfl (flStripe x) tyStripe (okWStripe 3 x)
theorem eqF_Stripe (n : Nat) (hn : 1048576 < n) (tb : Nat) (x : StripeV) (h : wtStripe x ≤ 1048576) : tree E0 (n + 8) tb 10 [.agg (encStripe x), .agg (encStripe x)] = some (.sc (.bool true)) := by
  rw [tree_def, f10_eq, f10]
  simp only [PR_box, PR_fadr, PR_load, PR_bin, PR_binB, PR_un, PR_cond]
  rw [box_fl _ _ _ (flStripe x), box_fl _ _ _ (flStripe x)]
  simp only [List.length_nil, List.nil_append, List.length_cons, List.cons_append, Nat.zero_add, Nat.reduceAdd]
  refine eq_sc (v := .int .i64 x.fHeld) rfl rfl (fun k => ne_int _ k) ?_
  refine eq_ro rfl rfl rfl (eqF_SessS (n + 0) (by omega) _ x.fL (by unfold wtStripe at h; omega)) ?_
  rfl
theorem szF_Stripe (n : Nat) (hn : 1048576 < n) (ty : Nat) (x : StripeV) (hx : okStripe x) (left : Int) (h0 : 0 ≤ left) (h1 : left ≤ 1048576) : tree E0 (n + 8) ty 6 [.agg (encStripe x), .sc (.int .i64 left)] = szA (wtStripe x) left := by
  obtain ⟨_, k1⟩ := hx
  unfold wtStripe
  rw [tree_def, f6_eq, f6]
  simp only [PR_box, PR_fadr, PR_load, PR_lenS, PR_bin, PR_cond]
  rw [box_fl _ _ _ (flStripe x)]
  simp only [List.length_nil, List.nil_append, List.length_cons, List.cons_append, Nat.zero_add, Nat.reduceAdd]
  refine sz_ro rfl h0 h1 rfl (szF_SessS (n + 0) (by omega) _ x.fL k1.1 k1.2 _ h0 h1) rfl fun h0 h1 => ?_
  exact sz_end h0

end Go.Proofs.Ytfpmccedangjoaa.Abs
