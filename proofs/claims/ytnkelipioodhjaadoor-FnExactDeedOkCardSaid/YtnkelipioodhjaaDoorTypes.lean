/- The structures, as typed values: Want, Packet, Sub, Msg, Deed (written by types.py). -/
import Derived.Test.YtnkelipioodhjaaDoorKitB
set_option linter.unusedVariables false
set_option linter.unusedSimpArgs false
set_option maxRecDepth 100000
namespace Go.Proofs.YtnkelipioodhjaaDoor.Abs
open Go
theorem tyByteS : ∃ i j, ti0 22 = some i ∧ ti0 i.elem = some j ∧ j.size = 1 ∧ j.cty.length = 1 := ⟨_, _, rfl, rfl, rfl, rfl⟩
theorem toF_ByteS (n : Nat) (hn : 1048576 < n) (s : ByteArray) (h : s.size ≤ 1048576) : tree E0 (n + 1) 22 35 [bytesC s] = some (bytesC s) := by
  have e : s.data.toList.length = s.size := by simp
  have h0 := to_flat (n := n) (bytes := 1) (fun b : UInt8 => .int .u8 b.toNat) (.sc (.int .u8 0)) (fun _ => rfl) tyByteS (fun k => f35_l0 (PR n AV) n k) (fun k m a o i H => rfl) (fun a H k => f35_eq n a H k) (by decide) s.data.toList (by rw [e]; exact h) hn
  rw [e] at h0
  exact h0
theorem eqF_ByteS (n : Nat) (hn : 1048576 < n) (tb : Nat) (s : ByteArray) (h : s.size ≤ 1048576) : tree E0 (n + 1) tb 38 [bytesC s, bytesC s] = some (.sc (.bool true)) := by
  have e : s.data.toList.length = s.size := by simp
  have h0 := eq_flat (n := n) (fun b : UInt8 => .int .u8 b.toNat) (fun x γ k => ne_u8 _ k) (fun k => f38_l0 (PR n AV) n k) (fun k m a b i H => rfl) (fun a b H k => f38_eq n a b H k) s.data.toList (by rw [e]; exact h) hn tb
  rw [e] at h0
  exact h0
theorem szF_ByteS (n : Nat) (ty : Nat) (s : ByteArray) (hmax : s.size ≤ 9223372036854775807) (left : Int) (h0 : 0 ≤ left) (h1 : left ≤ 1048576) : tree E0 (n + 1) ty 32 [bytesC s, .sc (.int .i64 left)] = some (.sc (.int .i64 (szR s.size left))) :=
  sz_len (n := n) (fun a b H k => f32_eq n a b H k) s.size _ hmax left h0 h1 ty
theorem tyIntS : ∃ i j, ti0 40 = some i ∧ ti0 i.elem = some j ∧ j.size = 1 ∧ j.cty.length = 1 := ⟨_, _, rfl, rfl, rfl, rfl⟩
theorem toF_IntS (n : Nat) (hn : 1048576 < n) (s : List Int) (h : s.length ≤ 1048576) : tree E0 (n + 1) 40 46 [intsC s] = some (intsC s) :=
  to_flat (n := n) (bytes := 8) (fun z : Int => .int .i64 z) (.sc (.int .i64 0)) (fun _ => rfl) tyIntS (fun k => f46_l0 (PR n AV) n k) (fun k m a o i H => rfl) (fun a H k => f46_eq n a H k) (by decide) s h hn
theorem eqF_IntS (n : Nat) (hn : 1048576 < n) (tb : Nat) (s : List Int) (h : s.length ≤ 1048576) : tree E0 (n + 1) tb 51 [intsC s, intsC s] = some (.sc (.bool true)) :=
  eq_flat (n := n) (fun z : Int => .int .i64 z) (fun x γ k => ne_int _ k) (fun k => f51_l0 (PR n AV) n k) (fun k m a b i H => rfl) (fun a b H k => f51_eq n a b H k) s h hn tb
theorem szF_IntS (n : Nat) (ty : Nat) (s : List Int) (hmax : s.length ≤ 9223372036854775807) (left : Int) (h0 : 0 ≤ left) (h1 : left ≤ 1048576) : tree E0 (n + 1) ty 42 [intsC s, .sc (.int .i64 left)] = some (.sc (.int .i64 (szR s.length left))) :=
  sz_len (n := n) (fun a b H k => f42_eq n a b H k) s.length _ hmax left h0 h1 ty
theorem tyStringS : ∃ i j, ti0 39 = some i ∧ ti0 i.elem = some j ∧ j.size = 1 ∧ j.cty.length = 1 := ⟨_, _, rfl, rfl, rfl, rfl⟩
theorem toF_StringS (n : Nat) (hn : 1048576 < n) (s : List ByteArray) (h : s.length ≤ 1048576) : tree E0 (n + 1) 39 79 [strsC s] = some (strsC s) :=
  to_flat (n := n) (bytes := 16) (fun s : ByteArray => .string s) (.sc (.string ⟨#[]⟩)) (fun _ => rfl) tyStringS (fun k => f79_l0 (PR n AV) n k) (fun k m a o i H => rfl) (fun a H k => f79_eq n a H k) (by decide) s h hn
theorem eqF_StringS (n : Nat) (hn : 1048576 < n) (tb : Nat) (s : List ByteArray) (h : s.length ≤ 1048576) : tree E0 (n + 1) tb 83 [strsC s, strsC s] = some (.sc (.bool true)) :=
  eq_flat (n := n) (fun s : ByteArray => .string s) (fun x γ k => ne_str _ k) (fun k => f83_l0 (PR n AV) n k) (fun k m a b i H => rfl) (fun a b H k => f83_eq n a b H k) s h hn tb
theorem szF_StringS_loop (n : Nat) (k : AV → Heap → Option AV) (H : Heap) (l : List ByteArray) (hok : ∀ s ∈ l, okS s) (hlen : l.length ≤ 1048576) : ∀ (r pre : List ByteArray) (m : Nat) (left : Int), 0 ≤ left → left ≤ 1048576 → l = pre ++ r → r.length < m → f75_l0 (PR n AV) n k m (strsC l) (.sc (.int .i64 left)) (.sc (.int .i64 pre.length)) H = k (.sc (.int .i64 (szR (wtS ByteArray.size r) left))) H
  | [], pre, m + 1, left, hl0, hl1, hl, hm => by
    rw [List.append_nil] at hl
    subst hl
    have e : szR (wtS ByteArray.size []) left = left := by simp [szR, wtS]; omega
    rw [e]
    rw [f75_l0]
    simp only [PR_len, PR_bin, PR_cond]
    rw [len_ro, lss_nat, cond_b]
    simp
  | x :: r, pre, m + 1, left, hl0, hl1, hl, hm => by
    have hlt : pre.length < l.length := by rw [hl]; simp
    have hx : okS x := hok x (by rw [hl]; simp)
    have hx2 : x.size ≤ 9223372036854775807 := hx
    have hd : (l.map fun x => AV.sc (.string x)).drop (pre.length * 1) = .sc (.string x) :: r.map fun x => .sc (.string x) := by
      rw [Nat.mul_one, hl, List.map_append, List.drop_append_of_le_length (by simp)]
      rw [show pre.length = (pre.map fun x => AV.sc (.string x)).length by simp, List.drop_length]
      rfl
    rw [f75_l0]
    simp only [PR_len, PR_bin, PR_cond, PR_iadr, PR_load, PR_lenS]
    rw [len_ro, lss_nat, cond_b, if_pos (by simpa using hlt), iadr_ro 1 _ _ pre.length _ hlt (by simpa using hlt), hd, ld1_rp]
    simp only [pLenS, asS, Option.bind_some]
    rw [sub64 _ _ _ (by omega) (by omega), lss64, cond_b]
    by_cases hs : left < x.size
    · have e2 : szR (wtS ByteArray.size (x :: r)) left = -1 := by rw [wtS, szR, if_pos]; omega
      rw [if_pos (by simpa using (show left - (x.size : Int) < 0 by omega)), e2]
    · have e2 : szR (wtS ByteArray.size (x :: r)) left = szR (wtS ByteArray.size r) (left - x.size) := by
        rw [wtS]
        exact szR_go hs
      rw [if_neg (by simpa using (show ¬ left - (x.size : Int) < 0 by omega)), e2, inc_nat _ _ (by omega)]
      have ih := szF_StringS_loop n k H l hok hlen r (pre ++ [x]) m (left - x.size) (by omega) (by omega) (by rw [hl]; simp) (by simpa using hm)
      rw [List.length_append, List.length_singleton] at ih
      exact ih
theorem szF_StringS (n : Nat) (hn : 1048576 < n) (ty : Nat) (s : List ByteArray) (hmax : s.length ≤ 9223372036854775807) (hok : ∀ x ∈ s, okS x) (left : Int) (h0 : 0 ≤ left) (h1 : left ≤ 1048576) : tree E0 (n + 1) ty 75 [strsC s, .sc (.int .i64 left)] = some (.sc (.int .i64 (szR (wtL ByteArray.size s) left))) := by
  rw [tree_def, f75_eq, f75]
  simp only [PR_len, PR_bin, PR_cond]
  rw [len_ro, sub64 _ _ _ (by omega) (by omega), lss64, cond_b]
  by_cases h : left - (s.length : Int) < 0
  · have e : szR (wtL ByteArray.size s) left = -1 := by rw [wtL_eq, szR, if_pos]; omega
    rw [if_pos (by simpa using h), e]
    rfl
  · have e : szR (wtL ByteArray.size s) left = szR (wtS ByteArray.size s) (left - s.length) := by
      rw [wtL_eq]
      exact szR_go (by omega)
    rw [if_neg (by simpa using h), e]
    have key := szF_StringS_loop n (fun x H => ownTree ti0 E0.tp ty H x) [] s hok (by omega) s [] n (left - s.length) (by omega) (by omega) (by simp) (by omega)
    simp only [List.length_nil, Int.natCast_zero] at key
    rw [key]
    rfl

/-! Want -/
structure WantV where
  fFilter : ByteArray
  fQos : Int
def encWant (x : WantV) : List AV := .sc (.string x.fFilter) :: .sc (.int .i64 x.fQos) :: []
def wtWant (x : WantV) : Nat := x.fFilter.size + 0
def okWant (x : WantV) : Prop := okS x.fFilter ∧ okI x.fQos
theorem lenWant (x : WantV) : (encWant x).length = 2 := rfl
theorem flWant (x : WantV) : (encWant x).all isFl = true := rfl
def ctyWant : List Nat := [9, 3]
theorem tyWant : ∃ i, ti0 115 = some i ∧ i.cty = ctyWant := ⟨_, rfl, rfl⟩
theorem okWWant (d : Nat) (x : WantV) : okLW (okW ti0 E0.tp (d + 1)) ctyWant (encWant x) := ⟨trivial, ⟨trivial, trivial⟩⟩
theorem okT_Want {n : Nat} {cs : List AV} (h : okT ti0 n 120 cs) : ∃ x : WantV, cs = encWant x ∧ okWant x := by
  obtain ⟨m, hf⟩ := okT_struct (fs := [(0, 9), (1, 3)]) ⟨_, rfl, rfl, rfl, rfl, rfl, rfl, rfl⟩ h
  obtain ⟨a0, b0, rfl, h0, hf⟩ := hf
  obtain ⟨v0, rfl, k0⟩ := okT_str' h0
  obtain ⟨a1, b1, rfl, h1, hf⟩ := hf
  obtain ⟨v1, rfl, k1⟩ := okT_int' h1
  subst hf
  exact ⟨⟨v0, v1⟩, rfl, k0, k1⟩
def zzWant : List AV := [(.sc (.string ⟨#[]⟩)), (.sc (.int .i64 0))]
theorem toF_Want (n : Nat) (hn : 1048576 < n) (x : WantV) (h : wtWant x ≤ 1048576) : tree E0 (n + 1) 115 107 [.agg (encWant x)] = some (.agg (encWant x)) := by
  rw [tree_def, f107_eq, f107]
  simp only [PR_box, PR_new, PR_fadr, PR_load, PR_store, pNew]
  rw [box_fl _ _ _ (flWant x)]
  simp only [List.length_nil, List.nil_append, List.length_cons, List.cons_append, Nat.zero_add, Nat.reduceAdd]
  refine st_sc (T := ctyWant) (C := encWant x) (Z := zzWant) (v := .string x.fFilter) (o' := 1) rfl rfl rfl rfl rfl ?_
  refine st_sc (v := .int .i64 x.fQos) (o' := 2) rfl rfl rfl rfl rfl ?_
  exact st_end rfl rfl rfl (flWant x) tyWant (okWWant 6 x)
theorem eqF_Want (n : Nat) (hn : 1048576 < n) (tb : Nat) (x : WantV) (h : wtWant x ≤ 1048576) : tree E0 (n + 1) tb 109 [.agg (encWant x), .agg (encWant x)] = some (.sc (.bool true)) := by
  rw [tree_def, f109_eq, f109]
  simp only [PR_box, PR_fadr, PR_load, PR_bin, PR_binB, PR_un, PR_cond]
  rw [box_fl _ _ _ (flWant x), box_fl _ _ _ (flWant x)]
  simp only [List.length_nil, List.nil_append, List.length_cons, List.cons_append, Nat.zero_add, Nat.reduceAdd]
  refine eq_sc (v := .string x.fFilter) rfl rfl (fun k => ne_str _ k) ?_
  refine eq_sc (v := .int .i64 x.fQos) rfl rfl (fun k => ne_int _ k) ?_
  rfl
theorem szF_Want (n : Nat) (hn : 1048576 < n) (ty : Nat) (x : WantV) (hx : okWant x) (left : Int) (h0 : 0 ≤ left) (h1 : left ≤ 1048576) : tree E0 (n + 1) ty 105 [.agg (encWant x), .sc (.int .i64 left)] = szA (wtWant x) left := by
  obtain ⟨k0, _⟩ := hx
  unfold wtWant
  rw [tree_def, f105_eq, f105]
  simp only [PR_box, PR_fadr, PR_load, PR_lenS, PR_bin, PR_cond]
  rw [box_fl _ _ _ (flWant x)]
  simp only [List.length_nil, List.nil_append, List.length_cons, List.cons_append, Nat.zero_add, Nat.reduceAdd]
  refine sz_str (s := x.fFilter) rfl h0 h1 k0 rfl fun h0 h1 => ?_
  exact sz_end h0
theorem tyWantS : ∃ i j, ti0 48 = some i ∧ ti0 i.elem = some j ∧ j.size = 2 ∧ j.cty = ctyWant := ⟨_, _, rfl, rfl, rfl, rfl⟩
theorem toF_WantS (n : Nat) (hn : 1048576 < n) (l : List WantV) (h : wtL wtWant l ≤ 1048576) : tree E0 (n + 2) 48 78 [rowsC encWant l] = some (rowsC encWant l) := by
  have e := wtL_eq wtWant l
  exact to_slice (n := n + 1) (w := 2) (bytes := 24) (cty := ctyWant) encWant [(.sc (.string ⟨#[]⟩)), (.sc (.int .i64 0))] rfl lenWant rfl (by decide) tyWantS tyWant flWant rfl (fun k => f78_l0 (PR (n + 1) AV) (n + 1) k) (fun k m a o i H => rfl) (fun a H k => f78_eq (n + 1) a H k) (by decide) l (fun x hx => toF_Want n hn x (by have := wtS_mem (wt := wtWant) hx; omega)) (fun x _ => okWWant 6 x) (by omega) (by omega)
theorem eqF_WantS (n : Nat) (hn : 1048576 < n) (tb : Nat) (l : List WantV) (h : wtL wtWant l ≤ 1048576) : tree E0 (n + 2) tb 82 [rowsC encWant l, rowsC encWant l] = some (.sc (.bool true)) := by
  have e := wtL_eq wtWant l
  exact eq_slice (n := n + 1) encWant lenWant (by decide) flWant rfl (fun k => f82_l0 (PR (n + 1) AV) (n + 1) k) (fun k m a b i H => rfl) (fun a b H k => f82_eq (n + 1) a b H k) l (fun x hx => eqF_Want n hn _ x (by have := wtS_mem (wt := wtWant) hx; omega)) (by omega) (by omega) tb
theorem szF_WantS (n : Nat) (hn : 1048576 < n) (ty : Nat) (l : List WantV) (hmax : l.length ≤ 9223372036854775807) (hok : ∀ x ∈ l, okWant x) (left : Int) (h0 : 0 ≤ left) (h1 : left ≤ 1048576) : tree E0 (n + 2) ty 74 [rowsC encWant l, .sc (.int .i64 left)] = some (.sc (.int .i64 (szR (wtL wtWant l) left))) :=
  sz_slice (n := n + 1) encWant wtWant lenWant (by decide) flWant rfl (fun k => f74_l0 (PR (n + 1) AV) (n + 1) k) (fun k m a l i H => rfl) (fun a b H k => f74_eq (n + 1) a b H k) l (fun x hx left h0 h1 => szF_Want n hn _ x (hok x hx) left h0 h1) hmax (by omega) left h0 h1 ty

/-! Packet -/
structure PacketV where
  fType : Int
  fDup : Bool
  fQos : Int
  fRetain : Bool
  fId : Int
  fTopic : ByteArray
  fBody : ByteArray
  fClient : ByteArray
  fLevel : Int
  fClean : Bool
  fKeep : Int
  fHasWill : Bool
  fWTopic : ByteArray
  fWBody : ByteArray
  fWQos : Int
  fWRetain : Bool
  fHasUser : Bool
  fUser : ByteArray
  fHasPass : Bool
  fPass : ByteArray
  fCode : Int
  fPresent : Bool
  fWants : List WantV
  fNames : List ByteArray
  fCodes : List Int
def encPacket (x : PacketV) : List AV := .sc (.int .i64 x.fType) :: .sc (.bool x.fDup) :: .sc (.int .i64 x.fQos) :: .sc (.bool x.fRetain) :: .sc (.int .i64 x.fId) :: .sc (.string x.fTopic) :: bytesC x.fBody :: .sc (.string x.fClient) :: .sc (.int .i64 x.fLevel) :: .sc (.bool x.fClean) :: .sc (.int .i64 x.fKeep) :: .sc (.bool x.fHasWill) :: .sc (.string x.fWTopic) :: bytesC x.fWBody :: .sc (.int .i64 x.fWQos) :: .sc (.bool x.fWRetain) :: .sc (.bool x.fHasUser) :: .sc (.string x.fUser) :: .sc (.bool x.fHasPass) :: bytesC x.fPass :: .sc (.int .i64 x.fCode) :: .sc (.bool x.fPresent) :: rowsC encWant x.fWants :: strsC x.fNames :: intsC x.fCodes :: []
def wtPacket (x : PacketV) : Nat := x.fTopic.size + (x.fBody.size + (x.fClient.size + (x.fWTopic.size + (x.fWBody.size + (x.fUser.size + (x.fPass.size + (wtL wtWant x.fWants + (wtL ByteArray.size x.fNames + (x.fCodes.length + 0)))))))))
def okPacket (x : PacketV) : Prop := okI x.fType ∧ True ∧ okI x.fQos ∧ True ∧ okI x.fId ∧ okS x.fTopic ∧ okS x.fBody ∧ okS x.fClient ∧ okI x.fLevel ∧ True ∧ okI x.fKeep ∧ True ∧ okS x.fWTopic ∧ okS x.fWBody ∧ okI x.fWQos ∧ True ∧ True ∧ okS x.fUser ∧ True ∧ okS x.fPass ∧ okI x.fCode ∧ True ∧ (x.fWants.length ≤ 9223372036854775807 ∧ ∀ z ∈ x.fWants, okWant z) ∧ (x.fNames.length ≤ 9223372036854775807 ∧ ∀ z ∈ x.fNames, okS z) ∧ (x.fCodes.length ≤ 9223372036854775807 ∧ ∀ z ∈ x.fCodes, okI z)
theorem lenPacket (x : PacketV) : (encPacket x).length = 25 := rfl
theorem flPacket (x : PacketV) : (encPacket x).all isFl = true := rfl
def ctyPacket : List Nat := [3, 4, 3, 4, 3, 9, 22, 9, 3, 4, 3, 4, 9, 22, 3, 4, 4, 9, 4, 22, 3, 4, 48, 39, 40]
theorem tyPacket : ∃ i, ti0 50 = some i ∧ i.cty = ctyPacket := ⟨_, rfl, rfl⟩
theorem okWPacket (d : Nat) (x : PacketV) : okLW (okW ti0 E0.tp (d + 2)) ctyPacket (encPacket x) := ⟨trivial, ⟨trivial, ⟨trivial, ⟨trivial, ⟨trivial, ⟨trivial, ⟨okW_bytes (d := d + 0) tyByteS x.fBody, ⟨trivial, ⟨trivial, ⟨trivial, ⟨trivial, ⟨trivial, ⟨trivial, ⟨okW_bytes (d := d + 0) tyByteS x.fWBody, ⟨trivial, ⟨trivial, ⟨trivial, ⟨trivial, ⟨trivial, ⟨okW_bytes (d := d + 0) tyByteS x.fPass, ⟨trivial, ⟨trivial, ⟨okW_rows (d := d + 1) lenWant tyWantS (okWWant (d + 0)) x.fWants, ⟨okW_flat (d := d + 0) (fun s : ByteArray => .string s) tyStringS x.fNames, ⟨okW_flat (d := d + 0) (fun z : Int => .int .i64 z) tyIntS x.fCodes, trivial⟩⟩⟩⟩⟩⟩⟩⟩⟩⟩⟩⟩⟩⟩⟩⟩⟩⟩⟩⟩⟩⟩⟩⟩⟩
theorem okT_Packet {n : Nat} {cs : List AV} (h : okT ti0 n 42 cs) : ∃ x : PacketV, cs = encPacket x ∧ okPacket x := by
  obtain ⟨m, hf⟩ := okT_struct (fs := [(0, 3), (1, 4), (2, 3), (3, 4), (4, 3), (5, 9), (6, 22), (7, 9), (8, 3), (9, 4), (10, 3), (11, 4), (12, 9), (13, 22), (14, 3), (15, 4), (16, 4), (17, 9), (18, 4), (19, 22), (20, 3), (21, 4), (22, 38), (23, 39), (24, 40)]) ⟨_, rfl, rfl, rfl, rfl, rfl, rfl, rfl⟩ h
  obtain ⟨a0, b0, rfl, h0, hf⟩ := hf
  obtain ⟨v0, rfl, k0⟩ := okT_int' h0
  obtain ⟨a1, b1, rfl, h1, hf⟩ := hf
  obtain ⟨v1, rfl⟩ := okT_bool' h1
  obtain ⟨a2, b2, rfl, h2, hf⟩ := hf
  obtain ⟨v2, rfl, k2⟩ := okT_int' h2
  obtain ⟨a3, b3, rfl, h3, hf⟩ := hf
  obtain ⟨v3, rfl⟩ := okT_bool' h3
  obtain ⟨a4, b4, rfl, h4, hf⟩ := hf
  obtain ⟨v4, rfl, k4⟩ := okT_int' h4
  obtain ⟨a5, b5, rfl, h5, hf⟩ := hf
  obtain ⟨v5, rfl, k5⟩ := okT_str' h5
  obtain ⟨a6, b6, rfl, h6, hf⟩ := hf
  obtain ⟨v6, rfl, k6⟩ := okT_bytes' ⟨_, rfl, rfl, rfl, rfl, rfl, rfl⟩ h6
  obtain ⟨a7, b7, rfl, h7, hf⟩ := hf
  obtain ⟨v7, rfl, k7⟩ := okT_str' h7
  obtain ⟨a8, b8, rfl, h8, hf⟩ := hf
  obtain ⟨v8, rfl, k8⟩ := okT_int' h8
  obtain ⟨a9, b9, rfl, h9, hf⟩ := hf
  obtain ⟨v9, rfl⟩ := okT_bool' h9
  obtain ⟨a10, b10, rfl, h10, hf⟩ := hf
  obtain ⟨v10, rfl, k10⟩ := okT_int' h10
  obtain ⟨a11, b11, rfl, h11, hf⟩ := hf
  obtain ⟨v11, rfl⟩ := okT_bool' h11
  obtain ⟨a12, b12, rfl, h12, hf⟩ := hf
  obtain ⟨v12, rfl, k12⟩ := okT_str' h12
  obtain ⟨a13, b13, rfl, h13, hf⟩ := hf
  obtain ⟨v13, rfl, k13⟩ := okT_bytes' ⟨_, rfl, rfl, rfl, rfl, rfl, rfl⟩ h13
  obtain ⟨a14, b14, rfl, h14, hf⟩ := hf
  obtain ⟨v14, rfl, k14⟩ := okT_int' h14
  obtain ⟨a15, b15, rfl, h15, hf⟩ := hf
  obtain ⟨v15, rfl⟩ := okT_bool' h15
  obtain ⟨a16, b16, rfl, h16, hf⟩ := hf
  obtain ⟨v16, rfl⟩ := okT_bool' h16
  obtain ⟨a17, b17, rfl, h17, hf⟩ := hf
  obtain ⟨v17, rfl, k17⟩ := okT_str' h17
  obtain ⟨a18, b18, rfl, h18, hf⟩ := hf
  obtain ⟨v18, rfl⟩ := okT_bool' h18
  obtain ⟨a19, b19, rfl, h19, hf⟩ := hf
  obtain ⟨v19, rfl, k19⟩ := okT_bytes' ⟨_, rfl, rfl, rfl, rfl, rfl, rfl⟩ h19
  obtain ⟨a20, b20, rfl, h20, hf⟩ := hf
  obtain ⟨v20, rfl, k20⟩ := okT_int' h20
  obtain ⟨a21, b21, rfl, h21, hf⟩ := hf
  obtain ⟨v21, rfl⟩ := okT_bool' h21
  obtain ⟨a22, b22, rfl, h22, hf⟩ := hf
  obtain ⟨v22, rfl, k22⟩ := okT_rows (ok := okWant) ⟨_, rfl, rfl, rfl, rfl, rfl, rfl⟩ (fun n cs h => okT_Want h) h22
  obtain ⟨a23, b23, rfl, h23, hf⟩ := hf
  obtain ⟨v23, rfl, k23⟩ := okT_strs' ⟨_, rfl, rfl, rfl, rfl, rfl, rfl⟩ h23
  obtain ⟨a24, b24, rfl, h24, hf⟩ := hf
  obtain ⟨v24, rfl, k24⟩ := okT_ints' ⟨_, rfl, rfl, rfl, rfl, rfl, rfl⟩ h24
  subst hf
  exact ⟨⟨v0, v1, v2, v3, v4, v5, v6, v7, v8, v9, v10, v11, v12, v13, v14, v15, v16, v17, v18, v19, v20, v21, v22, v23, v24⟩, rfl, k0, trivial, k2, trivial, k4, k5, k6, k7, k8, trivial, k10, trivial, k12, k13, k14, trivial, trivial, k17, trivial, k19, k20, trivial, k22, k23, k24⟩
def zzPacket : List AV := [(.sc (.int .i64 0)), (.sc (.bool false)), (.sc (.int .i64 0)), (.sc (.bool false)), (.sc (.int .i64 0)), (.sc (.string ⟨#[]⟩)), .nl, (.sc (.string ⟨#[]⟩)), (.sc (.int .i64 0)), (.sc (.bool false)), (.sc (.int .i64 0)), (.sc (.bool false)), (.sc (.string ⟨#[]⟩)), .nl, (.sc (.int .i64 0)), (.sc (.bool false)), (.sc (.bool false)), (.sc (.string ⟨#[]⟩)), (.sc (.bool false)), .nl, (.sc (.int .i64 0)), (.sc (.bool false)), .nl, .nl, .nl]
set_option maxHeartbeats 3200000 in
theorem toF_Packet (n : Nat) (hn : 1048576 < n) (x : PacketV) (h : wtPacket x ≤ 1048576) : tree E0 (n + 3) 50 44 [.agg (encPacket x)] = some (.agg (encPacket x)) := by
  rw [tree_def, f44_eq, f44]
  simp only [PR_box, PR_new, PR_fadr, PR_load, PR_store, pNew]
  rw [box_fl _ _ _ (flPacket x)]
  simp only [List.length_nil, List.nil_append, List.length_cons, List.cons_append, Nat.zero_add, Nat.reduceAdd]
  refine st_sc (T := ctyPacket) (C := encPacket x) (Z := zzPacket) (v := .int .i64 x.fType) (o' := 1) rfl rfl rfl rfl rfl ?_
  refine st_sc (v := .bool x.fDup) (o' := 2) rfl rfl rfl rfl rfl ?_
  refine st_sc (v := .int .i64 x.fQos) (o' := 3) rfl rfl rfl rfl rfl ?_
  refine st_sc (v := .bool x.fRetain) (o' := 4) rfl rfl rfl rfl rfl ?_
  refine st_sc (v := .int .i64 x.fId) (o' := 5) rfl rfl rfl rfl rfl ?_
  refine st_sc (v := .string x.fTopic) (o' := 6) rfl rfl rfl rfl rfl ?_
  refine st_ro (o' := 7) rfl rfl rfl rfl rfl (toF_ByteS (n + 1) (by omega) x.fBody (by unfold wtPacket at h; omega)) rfl ?_
  refine st_sc (v := .string x.fClient) (o' := 8) rfl rfl rfl rfl rfl ?_
  refine st_sc (v := .int .i64 x.fLevel) (o' := 9) rfl rfl rfl rfl rfl ?_
  refine st_sc (v := .bool x.fClean) (o' := 10) rfl rfl rfl rfl rfl ?_
  refine st_sc (v := .int .i64 x.fKeep) (o' := 11) rfl rfl rfl rfl rfl ?_
  refine st_sc (v := .bool x.fHasWill) (o' := 12) rfl rfl rfl rfl rfl ?_
  refine st_sc (v := .string x.fWTopic) (o' := 13) rfl rfl rfl rfl rfl ?_
  refine st_ro (o' := 14) rfl rfl rfl rfl rfl (toF_ByteS (n + 1) (by omega) x.fWBody (by unfold wtPacket at h; omega)) rfl ?_
  refine st_sc (v := .int .i64 x.fWQos) (o' := 15) rfl rfl rfl rfl rfl ?_
  refine st_sc (v := .bool x.fWRetain) (o' := 16) rfl rfl rfl rfl rfl ?_
  refine st_sc (v := .bool x.fHasUser) (o' := 17) rfl rfl rfl rfl rfl ?_
  refine st_sc (v := .string x.fUser) (o' := 18) rfl rfl rfl rfl rfl ?_
  refine st_sc (v := .bool x.fHasPass) (o' := 19) rfl rfl rfl rfl rfl ?_
  refine st_ro (o' := 20) rfl rfl rfl rfl rfl (toF_ByteS (n + 1) (by omega) x.fPass (by unfold wtPacket at h; omega)) rfl ?_
  refine st_sc (v := .int .i64 x.fCode) (o' := 21) rfl rfl rfl rfl rfl ?_
  refine st_sc (v := .bool x.fPresent) (o' := 22) rfl rfl rfl rfl rfl ?_
  refine st_ro (o' := 23) rfl rfl rfl rfl rfl (toF_WantS (n + 0) (by omega) x.fWants (by unfold wtPacket at h; omega)) rfl ?_
  refine st_ro (o' := 24) rfl rfl rfl rfl rfl (toF_StringS (n + 1) (by omega) x.fNames (by unfold wtPacket at h; have := wtL_eq ByteArray.size x.fNames; omega)) rfl ?_
  refine st_ro (o' := 25) rfl rfl rfl rfl rfl (toF_IntS (n + 1) (by omega) x.fCodes (by unfold wtPacket at h; omega)) rfl ?_
  exact st_end rfl rfl rfl (flPacket x) tyPacket (okWPacket 5 x)
theorem eqF_Packet (n : Nat) (hn : 1048576 < n) (tb : Nat) (x : PacketV) (h : wtPacket x ≤ 1048576) : tree E0 (n + 3) tb 49 [.agg (encPacket x), .agg (encPacket x)] = some (.sc (.bool true)) := by
  rw [tree_def, f49_eq, f49]
  simp only [PR_box, PR_fadr, PR_load, PR_bin, PR_binB, PR_un, PR_cond]
  rw [box_fl _ _ _ (flPacket x), box_fl _ _ _ (flPacket x)]
  simp only [List.length_nil, List.nil_append, List.length_cons, List.cons_append, Nat.zero_add, Nat.reduceAdd]
  refine eq_sc (v := .int .i64 x.fType) rfl rfl (fun k => ne_int _ k) ?_
  refine eq_b (b := x.fDup) rfl rfl ?_
  refine eq_sc (v := .int .i64 x.fQos) rfl rfl (fun k => ne_int _ k) ?_
  refine eq_b (b := x.fRetain) rfl rfl ?_
  refine eq_sc (v := .int .i64 x.fId) rfl rfl (fun k => ne_int _ k) ?_
  refine eq_sc (v := .string x.fTopic) rfl rfl (fun k => ne_str _ k) ?_
  refine eq_ro rfl rfl rfl (eqF_ByteS (n + 1) (by omega) _ x.fBody (by unfold wtPacket at h; omega)) ?_
  refine eq_sc (v := .string x.fClient) rfl rfl (fun k => ne_str _ k) ?_
  refine eq_sc (v := .int .i64 x.fLevel) rfl rfl (fun k => ne_int _ k) ?_
  refine eq_b (b := x.fClean) rfl rfl ?_
  refine eq_sc (v := .int .i64 x.fKeep) rfl rfl (fun k => ne_int _ k) ?_
  refine eq_b (b := x.fHasWill) rfl rfl ?_
  refine eq_sc (v := .string x.fWTopic) rfl rfl (fun k => ne_str _ k) ?_
  refine eq_ro rfl rfl rfl (eqF_ByteS (n + 1) (by omega) _ x.fWBody (by unfold wtPacket at h; omega)) ?_
  refine eq_sc (v := .int .i64 x.fWQos) rfl rfl (fun k => ne_int _ k) ?_
  refine eq_b (b := x.fWRetain) rfl rfl ?_
  refine eq_b (b := x.fHasUser) rfl rfl ?_
  refine eq_sc (v := .string x.fUser) rfl rfl (fun k => ne_str _ k) ?_
  refine eq_b (b := x.fHasPass) rfl rfl ?_
  refine eq_ro rfl rfl rfl (eqF_ByteS (n + 1) (by omega) _ x.fPass (by unfold wtPacket at h; omega)) ?_
  refine eq_sc (v := .int .i64 x.fCode) rfl rfl (fun k => ne_int _ k) ?_
  refine eq_b (b := x.fPresent) rfl rfl ?_
  refine eq_ro rfl rfl rfl (eqF_WantS (n + 0) (by omega) _ x.fWants (by unfold wtPacket at h; omega)) ?_
  refine eq_ro rfl rfl rfl (eqF_StringS (n + 1) (by omega) _ x.fNames (by unfold wtPacket at h; have := wtL_eq ByteArray.size x.fNames; omega)) ?_
  refine eq_ro rfl rfl rfl (eqF_IntS (n + 1) (by omega) _ x.fCodes (by unfold wtPacket at h; omega)) ?_
  rfl
theorem szF_Packet (n : Nat) (hn : 1048576 < n) (ty : Nat) (x : PacketV) (hx : okPacket x) (left : Int) (h0 : 0 ≤ left) (h1 : left ≤ 1048576) : tree E0 (n + 3) ty 40 [.agg (encPacket x), .sc (.int .i64 left)] = szA (wtPacket x) left := by
  obtain ⟨_, _, _, _, _, k5, k6, k7, _, _, _, _, k12, k13, _, _, _, k17, _, k19, _, _, k22, k23, k24⟩ := hx
  unfold wtPacket
  rw [tree_def, f40_eq, f40]
  simp only [PR_box, PR_fadr, PR_load, PR_lenS, PR_bin, PR_cond]
  rw [box_fl _ _ _ (flPacket x)]
  simp only [List.length_nil, List.nil_append, List.length_cons, List.cons_append, Nat.zero_add, Nat.reduceAdd]
  refine sz_str (s := x.fTopic) rfl h0 h1 k5 rfl fun h0 h1 => ?_
  refine sz_ro rfl h0 h1 rfl (szF_ByteS (n + 1) _ x.fBody k6 _ h0 h1) rfl fun h0 h1 => ?_
  refine sz_str (s := x.fClient) rfl h0 h1 k7 rfl fun h0 h1 => ?_
  refine sz_str (s := x.fWTopic) rfl h0 h1 k12 rfl fun h0 h1 => ?_
  refine sz_ro rfl h0 h1 rfl (szF_ByteS (n + 1) _ x.fWBody k13 _ h0 h1) rfl fun h0 h1 => ?_
  refine sz_str (s := x.fUser) rfl h0 h1 k17 rfl fun h0 h1 => ?_
  refine sz_ro rfl h0 h1 rfl (szF_ByteS (n + 1) _ x.fPass k19 _ h0 h1) rfl fun h0 h1 => ?_
  refine sz_ro rfl h0 h1 rfl (szF_WantS (n + 0) (by omega) _ x.fWants k22.1 k22.2 _ h0 h1) rfl fun h0 h1 => ?_
  refine sz_ro rfl h0 h1 rfl (szF_StringS (n + 1) (by omega) _ x.fNames k23.1 k23.2 _ h0 h1) rfl fun h0 h1 => ?_
  refine sz_ro rfl h0 h1 rfl (szF_IntS (n + 1) _ x.fCodes k24.1 _ h0 h1) rfl fun h0 h1 => ?_
  exact sz_end h0

/-! Sub -/
structure SubV where
  fClient : ByteArray
  fQos : Int
  fBorn : Int
def encSub (x : SubV) : List AV := .sc (.string x.fClient) :: .sc (.int .i64 x.fQos) :: .sc (.int .i64 x.fBorn) :: []
def wtSub (x : SubV) : Nat := x.fClient.size + 0
def okSub (x : SubV) : Prop := okS x.fClient ∧ okI x.fQos ∧ okI x.fBorn
theorem lenSub (x : SubV) : (encSub x).length = 3 := rfl
theorem flSub (x : SubV) : (encSub x).all isFl = true := rfl
def ctySub : List Nat := [9, 3, 3]
theorem tySub : ∃ i, ti0 87 = some i ∧ i.cty = ctySub := ⟨_, rfl, rfl⟩
theorem okWSub (d : Nat) (x : SubV) : okLW (okW ti0 E0.tp (d + 1)) ctySub (encSub x) := ⟨trivial, ⟨trivial, ⟨trivial, trivial⟩⟩⟩
theorem okT_Sub {n : Nat} {cs : List AV} (h : okT ti0 n 96 cs) : ∃ x : SubV, cs = encSub x ∧ okSub x := by
  obtain ⟨m, hf⟩ := okT_struct (fs := [(0, 9), (1, 3), (2, 3)]) ⟨_, rfl, rfl, rfl, rfl, rfl, rfl, rfl⟩ h
  obtain ⟨a0, b0, rfl, h0, hf⟩ := hf
  obtain ⟨v0, rfl, k0⟩ := okT_str' h0
  obtain ⟨a1, b1, rfl, h1, hf⟩ := hf
  obtain ⟨v1, rfl, k1⟩ := okT_int' h1
  obtain ⟨a2, b2, rfl, h2, hf⟩ := hf
  obtain ⟨v2, rfl, k2⟩ := okT_int' h2
  subst hf
  exact ⟨⟨v0, v1, v2⟩, rfl, k0, k1, k2⟩
def zzSub : List AV := [(.sc (.string ⟨#[]⟩)), (.sc (.int .i64 0)), (.sc (.int .i64 0))]
theorem toF_Sub (n : Nat) (hn : 1048576 < n) (x : SubV) (h : wtSub x ≤ 1048576) : tree E0 (n + 1) 87 80 [.agg (encSub x)] = some (.agg (encSub x)) := by
  rw [tree_def, f80_eq, f80]
  simp only [PR_box, PR_new, PR_fadr, PR_load, PR_store, pNew]
  rw [box_fl _ _ _ (flSub x)]
  simp only [List.length_nil, List.nil_append, List.length_cons, List.cons_append, Nat.zero_add, Nat.reduceAdd]
  refine st_sc (T := ctySub) (C := encSub x) (Z := zzSub) (v := .string x.fClient) (o' := 1) rfl rfl rfl rfl rfl ?_
  refine st_sc (v := .int .i64 x.fQos) (o' := 2) rfl rfl rfl rfl rfl ?_
  refine st_sc (v := .int .i64 x.fBorn) (o' := 3) rfl rfl rfl rfl rfl ?_
  exact st_end rfl rfl rfl (flSub x) tySub (okWSub 6 x)
theorem eqF_Sub (n : Nat) (hn : 1048576 < n) (tb : Nat) (x : SubV) (h : wtSub x ≤ 1048576) : tree E0 (n + 1) tb 84 [.agg (encSub x), .agg (encSub x)] = some (.sc (.bool true)) := by
  rw [tree_def, f84_eq, f84]
  simp only [PR_box, PR_fadr, PR_load, PR_bin, PR_binB, PR_un, PR_cond]
  rw [box_fl _ _ _ (flSub x), box_fl _ _ _ (flSub x)]
  simp only [List.length_nil, List.nil_append, List.length_cons, List.cons_append, Nat.zero_add, Nat.reduceAdd]
  refine eq_sc (v := .string x.fClient) rfl rfl (fun k => ne_str _ k) ?_
  refine eq_sc (v := .int .i64 x.fQos) rfl rfl (fun k => ne_int _ k) ?_
  refine eq_sc (v := .int .i64 x.fBorn) rfl rfl (fun k => ne_int _ k) ?_
  rfl
theorem szF_Sub (n : Nat) (hn : 1048576 < n) (ty : Nat) (x : SubV) (hx : okSub x) (left : Int) (h0 : 0 ≤ left) (h1 : left ≤ 1048576) : tree E0 (n + 1) ty 76 [.agg (encSub x), .sc (.int .i64 left)] = szA (wtSub x) left := by
  obtain ⟨k0, _, _⟩ := hx
  unfold wtSub
  rw [tree_def, f76_eq, f76]
  simp only [PR_box, PR_fadr, PR_load, PR_lenS, PR_bin, PR_cond]
  rw [box_fl _ _ _ (flSub x)]
  simp only [List.length_nil, List.nil_append, List.length_cons, List.cons_append, Nat.zero_add, Nat.reduceAdd]
  refine sz_str (s := x.fClient) rfl h0 h1 k0 rfl fun h0 h1 => ?_
  exact sz_end h0
theorem tySubS : ∃ i j, ti0 51 = some i ∧ ti0 i.elem = some j ∧ j.size = 3 ∧ j.cty = ctySub := ⟨_, _, rfl, rfl, rfl, rfl⟩
theorem toF_SubS (n : Nat) (hn : 1048576 < n) (l : List SubV) (h : wtL wtSub l ≤ 1048576) : tree E0 (n + 2) 51 45 [rowsC encSub l] = some (rowsC encSub l) := by
  have e := wtL_eq wtSub l
  exact to_slice (n := n + 1) (w := 3) (bytes := 32) (cty := ctySub) encSub [(.sc (.string ⟨#[]⟩)), (.sc (.int .i64 0)), (.sc (.int .i64 0))] rfl lenSub rfl (by decide) tySubS tySub flSub rfl (fun k => f45_l0 (PR (n + 1) AV) (n + 1) k) (fun k m a o i H => rfl) (fun a H k => f45_eq (n + 1) a H k) (by decide) l (fun x hx => toF_Sub n hn x (by have := wtS_mem (wt := wtSub) hx; omega)) (fun x _ => okWSub 6 x) (by omega) (by omega)
theorem eqF_SubS (n : Nat) (hn : 1048576 < n) (tb : Nat) (l : List SubV) (h : wtL wtSub l ≤ 1048576) : tree E0 (n + 2) tb 50 [rowsC encSub l, rowsC encSub l] = some (.sc (.bool true)) := by
  have e := wtL_eq wtSub l
  exact eq_slice (n := n + 1) encSub lenSub (by decide) flSub rfl (fun k => f50_l0 (PR (n + 1) AV) (n + 1) k) (fun k m a b i H => rfl) (fun a b H k => f50_eq (n + 1) a b H k) l (fun x hx => eqF_Sub n hn _ x (by have := wtS_mem (wt := wtSub) hx; omega)) (by omega) (by omega) tb
theorem szF_SubS (n : Nat) (hn : 1048576 < n) (ty : Nat) (l : List SubV) (hmax : l.length ≤ 9223372036854775807) (hok : ∀ x ∈ l, okSub x) (left : Int) (h0 : 0 ≤ left) (h1 : left ≤ 1048576) : tree E0 (n + 2) ty 41 [rowsC encSub l, .sc (.int .i64 left)] = some (.sc (.int .i64 (szR (wtL wtSub l) left))) :=
  sz_slice (n := n + 1) encSub wtSub lenSub (by decide) flSub rfl (fun k => f41_l0 (PR (n + 1) AV) (n + 1) k) (fun k m a l i H => rfl) (fun a b H k => f41_eq (n + 1) a b H k) l (fun x hx left h0 h1 => szF_Sub n hn _ x (hok x hx) left h0 h1) hmax (by omega) left h0 h1 ty

/-! Msg -/
structure MsgV where
  fTopic : ByteArray
  fBody : ByteArray
  fQos : Int
  fRetain : Bool
def encMsg (x : MsgV) : List AV := .sc (.string x.fTopic) :: bytesC x.fBody :: .sc (.int .i64 x.fQos) :: .sc (.bool x.fRetain) :: []
def wtMsg (x : MsgV) : Nat := x.fTopic.size + (x.fBody.size + 0)
def okMsg (x : MsgV) : Prop := okS x.fTopic ∧ okS x.fBody ∧ okI x.fQos ∧ True
theorem lenMsg (x : MsgV) : (encMsg x).length = 4 := rfl
theorem flMsg (x : MsgV) : (encMsg x).all isFl = true := rfl
def ctyMsg : List Nat := [9, 22, 3, 4]
theorem tyMsg : ∃ i, ti0 27 = some i ∧ i.cty = ctyMsg := ⟨_, rfl, rfl⟩
theorem okWMsg (d : Nat) (x : MsgV) : okLW (okW ti0 E0.tp (d + 2)) ctyMsg (encMsg x) := ⟨trivial, ⟨okW_bytes (d := d + 0) tyByteS x.fBody, ⟨trivial, ⟨trivial, trivial⟩⟩⟩⟩
theorem okT_Msg {n : Nat} {cs : List AV} (h : okT ti0 n 24 cs) : ∃ x : MsgV, cs = encMsg x ∧ okMsg x := by
  obtain ⟨m, hf⟩ := okT_struct (fs := [(0, 9), (1, 22), (2, 3), (3, 4)]) ⟨_, rfl, rfl, rfl, rfl, rfl, rfl, rfl⟩ h
  obtain ⟨a0, b0, rfl, h0, hf⟩ := hf
  obtain ⟨v0, rfl, k0⟩ := okT_str' h0
  obtain ⟨a1, b1, rfl, h1, hf⟩ := hf
  obtain ⟨v1, rfl, k1⟩ := okT_bytes' ⟨_, rfl, rfl, rfl, rfl, rfl, rfl⟩ h1
  obtain ⟨a2, b2, rfl, h2, hf⟩ := hf
  obtain ⟨v2, rfl, k2⟩ := okT_int' h2
  obtain ⟨a3, b3, rfl, h3, hf⟩ := hf
  obtain ⟨v3, rfl⟩ := okT_bool' h3
  subst hf
  exact ⟨⟨v0, v1, v2, v3⟩, rfl, k0, k1, k2, trivial⟩
def zzMsg : List AV := [(.sc (.string ⟨#[]⟩)), .nl, (.sc (.int .i64 0)), (.sc (.bool false))]
theorem toF_Msg (n : Nat) (hn : 1048576 < n) (x : MsgV) (h : wtMsg x ≤ 1048576) : tree E0 (n + 2) 27 9 [.agg (encMsg x)] = some (.agg (encMsg x)) := by
  rw [tree_def, f9_eq, f9]
  simp only [PR_box, PR_new, PR_fadr, PR_load, PR_store, pNew]
  rw [box_fl _ _ _ (flMsg x)]
  simp only [List.length_nil, List.nil_append, List.length_cons, List.cons_append, Nat.zero_add, Nat.reduceAdd]
  refine st_sc (T := ctyMsg) (C := encMsg x) (Z := zzMsg) (v := .string x.fTopic) (o' := 1) rfl rfl rfl rfl rfl ?_
  refine st_ro (o' := 2) rfl rfl rfl rfl rfl (toF_ByteS (n + 0) (by omega) x.fBody (by unfold wtMsg at h; omega)) rfl ?_
  refine st_sc (v := .int .i64 x.fQos) (o' := 3) rfl rfl rfl rfl rfl ?_
  refine st_sc (v := .bool x.fRetain) (o' := 4) rfl rfl rfl rfl rfl ?_
  exact st_end rfl rfl rfl (flMsg x) tyMsg (okWMsg 5 x)
theorem eqF_Msg (n : Nat) (hn : 1048576 < n) (tb : Nat) (x : MsgV) (h : wtMsg x ≤ 1048576) : tree E0 (n + 2) tb 11 [.agg (encMsg x), .agg (encMsg x)] = some (.sc (.bool true)) := by
  rw [tree_def, f11_eq, f11]
  simp only [PR_box, PR_fadr, PR_load, PR_bin, PR_binB, PR_un, PR_cond]
  rw [box_fl _ _ _ (flMsg x), box_fl _ _ _ (flMsg x)]
  simp only [List.length_nil, List.nil_append, List.length_cons, List.cons_append, Nat.zero_add, Nat.reduceAdd]
  refine eq_sc (v := .string x.fTopic) rfl rfl (fun k => ne_str _ k) ?_
  refine eq_ro rfl rfl rfl (eqF_ByteS (n + 0) (by omega) _ x.fBody (by unfold wtMsg at h; omega)) ?_
  refine eq_sc (v := .int .i64 x.fQos) rfl rfl (fun k => ne_int _ k) ?_
  refine eq_b (b := x.fRetain) rfl rfl ?_
  rfl
theorem szF_Msg (n : Nat) (hn : 1048576 < n) (ty : Nat) (x : MsgV) (hx : okMsg x) (left : Int) (h0 : 0 ≤ left) (h1 : left ≤ 1048576) : tree E0 (n + 2) ty 7 [.agg (encMsg x), .sc (.int .i64 left)] = szA (wtMsg x) left := by
  obtain ⟨k0, k1, _, _⟩ := hx
  unfold wtMsg
  rw [tree_def, f7_eq, f7]
  simp only [PR_box, PR_fadr, PR_load, PR_lenS, PR_bin, PR_cond]
  rw [box_fl _ _ _ (flMsg x)]
  simp only [List.length_nil, List.nil_append, List.length_cons, List.cons_append, Nat.zero_add, Nat.reduceAdd]
  refine sz_str (s := x.fTopic) rfl h0 h1 k0 rfl fun h0 h1 => ?_
  refine sz_ro rfl h0 h1 rfl (szF_ByteS (n + 0) _ x.fBody k1 _ h0 h1) rfl fun h0 h1 => ?_
  exact sz_end h0
theorem tyMsgS : ∃ i j, ti0 34 = some i ∧ ti0 i.elem = some j ∧ j.size = 4 ∧ j.cty = ctyMsg := ⟨_, _, rfl, rfl, rfl, rfl⟩
theorem toF_MsgS (n : Nat) (hn : 1048576 < n) (l : List MsgV) (h : wtL wtMsg l ≤ 1048576) : tree E0 (n + 3) 34 14 [rowsC encMsg l] = some (rowsC encMsg l) := by
  have e := wtL_eq wtMsg l
  exact to_slice (n := n + 2) (w := 4) (bytes := 56) (cty := ctyMsg) encMsg [(.sc (.string ⟨#[]⟩)), .nl, (.sc (.int .i64 0)), (.sc (.bool false))] rfl lenMsg rfl (by decide) tyMsgS tyMsg flMsg rfl (fun k => f14_l0 (PR (n + 2) AV) (n + 2) k) (fun k m a o i H => rfl) (fun a H k => f14_eq (n + 2) a H k) (by decide) l (fun x hx => toF_Msg n hn x (by have := wtS_mem (wt := wtMsg) hx; omega)) (fun x _ => okWMsg 5 x) (by omega) (by omega)
theorem eqF_MsgS (n : Nat) (hn : 1048576 < n) (tb : Nat) (l : List MsgV) (h : wtL wtMsg l ≤ 1048576) : tree E0 (n + 3) tb 16 [rowsC encMsg l, rowsC encMsg l] = some (.sc (.bool true)) := by
  have e := wtL_eq wtMsg l
  exact eq_slice (n := n + 2) encMsg lenMsg (by decide) flMsg rfl (fun k => f16_l0 (PR (n + 2) AV) (n + 2) k) (fun k m a b i H => rfl) (fun a b H k => f16_eq (n + 2) a b H k) l (fun x hx => eqF_Msg n hn _ x (by have := wtS_mem (wt := wtMsg) hx; omega)) (by omega) (by omega) tb
theorem szF_MsgS (n : Nat) (hn : 1048576 < n) (ty : Nat) (l : List MsgV) (hmax : l.length ≤ 9223372036854775807) (hok : ∀ x ∈ l, okMsg x) (left : Int) (h0 : 0 ≤ left) (h1 : left ≤ 1048576) : tree E0 (n + 3) ty 12 [rowsC encMsg l, .sc (.int .i64 left)] = some (.sc (.int .i64 (szR (wtL wtMsg l) left))) :=
  sz_slice (n := n + 2) encMsg wtMsg lenMsg (by decide) flMsg rfl (fun k => f12_l0 (PR (n + 2) AV) (n + 2) k) (fun k m a l i H => rfl) (fun a b H k => f12_eq (n + 2) a b H k) l (fun x hx left h0 h1 => szF_Msg n hn _ x (hok x hx) left h0 h1) hmax (by omega) left h0 h1 ty

/-! Deed -/
structure DeedV where
  fOp : Int
  fConn : Int
  fGen : Int
  fClient : ByteArray
  fP : PacketV
  fInv : Int
  fLin : Int
  fRes : Int
  fVoid : Bool
  fCode : Int
  fBorn : Int
  fPresent : Bool
  fHand : Bool
  fTo : List SubV
  fCodes : List Int
  fKs : List MsgV
def encDeed (x : DeedV) : List AV := .sc (.int .i64 x.fOp) :: .sc (.int .i64 x.fConn) :: .sc (.int .i64 x.fGen) :: .sc (.string x.fClient) :: (encPacket x.fP ++ .sc (.int .i64 x.fInv) :: .sc (.int .i64 x.fLin) :: .sc (.int .i64 x.fRes) :: .sc (.bool x.fVoid) :: .sc (.int .i64 x.fCode) :: .sc (.int .i64 x.fBorn) :: .sc (.bool x.fPresent) :: .sc (.bool x.fHand) :: rowsC encSub x.fTo :: intsC x.fCodes :: rowsC encMsg x.fKs :: [])
def wtDeed (x : DeedV) : Nat := x.fClient.size + (wtPacket x.fP + (wtL wtSub x.fTo + (x.fCodes.length + (wtL wtMsg x.fKs + 0))))
def okDeed (x : DeedV) : Prop := okI x.fOp ∧ okI x.fConn ∧ okI x.fGen ∧ okS x.fClient ∧ okPacket x.fP ∧ okI x.fInv ∧ okI x.fLin ∧ okI x.fRes ∧ True ∧ okI x.fCode ∧ okI x.fBorn ∧ True ∧ True ∧ (x.fTo.length ≤ 9223372036854775807 ∧ ∀ z ∈ x.fTo, okSub z) ∧ (x.fCodes.length ≤ 9223372036854775807 ∧ ∀ z ∈ x.fCodes, okI z) ∧ (x.fKs.length ≤ 9223372036854775807 ∧ ∀ z ∈ x.fKs, okMsg z)
theorem lenDeed (x : DeedV) : (encDeed x).length = 40 := rfl
theorem flDeed (x : DeedV) : (encDeed x).all isFl = true := rfl
def ctyDeed : List Nat := [3, 3, 3, 9, 3, 4, 3, 4, 3, 9, 22, 9, 3, 4, 3, 4, 9, 22, 3, 4, 4, 9, 4, 22, 3, 4, 48, 39, 40, 3, 3, 3, 4, 3, 3, 4, 4, 51, 40, 34]
theorem tyDeed : ∃ i, ti0 53 = some i ∧ i.cty = ctyDeed := ⟨_, rfl, rfl⟩
theorem okWDeed (d : Nat) (x : DeedV) : okLW (okW ti0 E0.tp (d + 3)) ctyDeed (encDeed x) := ⟨trivial, ⟨trivial, ⟨trivial, ⟨trivial, okLW_append (ts := ctyPacket) (ts' := [3, 3, 3, 4, 3, 3, 4, 4, 51, 40, 34]) (okWPacket (d + 1) x.fP) ⟨trivial, ⟨trivial, ⟨trivial, ⟨trivial, ⟨trivial, ⟨trivial, ⟨trivial, ⟨trivial, ⟨okW_rows (d := d + 2) lenSub tySubS (okWSub (d + 1)) x.fTo, ⟨okW_flat (d := d + 1) (fun z : Int => .int .i64 z) tyIntS x.fCodes, ⟨okW_rows (d := d + 2) lenMsg tyMsgS (okWMsg (d + 0)) x.fKs, trivial⟩⟩⟩⟩⟩⟩⟩⟩⟩⟩⟩⟩⟩⟩⟩
theorem okT_Deed {n : Nat} {cs : List AV} (h : okT ti0 n 45 cs) : ∃ x : DeedV, cs = encDeed x ∧ okDeed x := by
  obtain ⟨m, hf⟩ := okT_struct (fs := [(0, 3), (1, 3), (2, 3), (3, 9), (4, 42), (29, 3), (30, 3), (31, 3), (32, 4), (33, 3), (34, 3), (35, 4), (36, 4), (37, 43), (38, 40), (39, 31)]) ⟨_, rfl, rfl, rfl, rfl, rfl, rfl, rfl⟩ h
  obtain ⟨a0, b0, rfl, h0, hf⟩ := hf
  obtain ⟨v0, rfl, k0⟩ := okT_int' h0
  obtain ⟨a1, b1, rfl, h1, hf⟩ := hf
  obtain ⟨v1, rfl, k1⟩ := okT_int' h1
  obtain ⟨a2, b2, rfl, h2, hf⟩ := hf
  obtain ⟨v2, rfl, k2⟩ := okT_int' h2
  obtain ⟨a3, b3, rfl, h3, hf⟩ := hf
  obtain ⟨v3, rfl, k3⟩ := okT_str' h3
  obtain ⟨a4, b4, rfl, h4, hf⟩ := hf
  obtain ⟨v4, rfl, k4⟩ := okT_Packet h4
  obtain ⟨a5, b5, rfl, h5, hf⟩ := hf
  obtain ⟨v5, rfl, k5⟩ := okT_int' h5
  obtain ⟨a6, b6, rfl, h6, hf⟩ := hf
  obtain ⟨v6, rfl, k6⟩ := okT_int' h6
  obtain ⟨a7, b7, rfl, h7, hf⟩ := hf
  obtain ⟨v7, rfl, k7⟩ := okT_int' h7
  obtain ⟨a8, b8, rfl, h8, hf⟩ := hf
  obtain ⟨v8, rfl⟩ := okT_bool' h8
  obtain ⟨a9, b9, rfl, h9, hf⟩ := hf
  obtain ⟨v9, rfl, k9⟩ := okT_int' h9
  obtain ⟨a10, b10, rfl, h10, hf⟩ := hf
  obtain ⟨v10, rfl, k10⟩ := okT_int' h10
  obtain ⟨a11, b11, rfl, h11, hf⟩ := hf
  obtain ⟨v11, rfl⟩ := okT_bool' h11
  obtain ⟨a12, b12, rfl, h12, hf⟩ := hf
  obtain ⟨v12, rfl⟩ := okT_bool' h12
  obtain ⟨a13, b13, rfl, h13, hf⟩ := hf
  obtain ⟨v13, rfl, k13⟩ := okT_rows (ok := okSub) ⟨_, rfl, rfl, rfl, rfl, rfl, rfl⟩ (fun n cs h => okT_Sub h) h13
  obtain ⟨a14, b14, rfl, h14, hf⟩ := hf
  obtain ⟨v14, rfl, k14⟩ := okT_ints' ⟨_, rfl, rfl, rfl, rfl, rfl, rfl⟩ h14
  obtain ⟨a15, b15, rfl, h15, hf⟩ := hf
  obtain ⟨v15, rfl, k15⟩ := okT_rows (ok := okMsg) ⟨_, rfl, rfl, rfl, rfl, rfl, rfl⟩ (fun n cs h => okT_Msg h) h15
  subst hf
  exact ⟨⟨v0, v1, v2, v3, v4, v5, v6, v7, v8, v9, v10, v11, v12, v13, v14, v15⟩, rfl, k0, k1, k2, k3, k4, k5, k6, k7, trivial, k9, k10, trivial, trivial, k13, k14, k15⟩
def zzDeed : List AV := [(.sc (.int .i64 0)), (.sc (.int .i64 0)), (.sc (.int .i64 0)), (.sc (.string ⟨#[]⟩)), (.sc (.int .i64 0)), (.sc (.bool false)), (.sc (.int .i64 0)), (.sc (.bool false)), (.sc (.int .i64 0)), (.sc (.string ⟨#[]⟩)), .nl, (.sc (.string ⟨#[]⟩)), (.sc (.int .i64 0)), (.sc (.bool false)), (.sc (.int .i64 0)), (.sc (.bool false)), (.sc (.string ⟨#[]⟩)), .nl, (.sc (.int .i64 0)), (.sc (.bool false)), (.sc (.bool false)), (.sc (.string ⟨#[]⟩)), (.sc (.bool false)), .nl, (.sc (.int .i64 0)), (.sc (.bool false)), .nl, .nl, .nl, (.sc (.int .i64 0)), (.sc (.int .i64 0)), (.sc (.int .i64 0)), (.sc (.bool false)), (.sc (.int .i64 0)), (.sc (.int .i64 0)), (.sc (.bool false)), (.sc (.bool false)), .nl, .nl, .nl]
set_option maxHeartbeats 3200000 in
theorem toF_Deed (n : Nat) (hn : 1048576 < n) (x : DeedV) (h : wtDeed x ≤ 1048576) : tree E0 (n + 4) 53 19 [.agg (encDeed x)] = some (.agg (encDeed x)) := by
  rw [tree_def, f19_eq, f19]
  simp only [PR_box, PR_new, PR_fadr, PR_load, PR_store, pNew]
  rw [box_fl _ _ _ (flDeed x)]
  simp only [List.length_nil, List.nil_append, List.length_cons, List.cons_append, Nat.zero_add, Nat.reduceAdd]
  refine st_sc (T := ctyDeed) (C := encDeed x) (Z := zzDeed) (v := .int .i64 x.fOp) (o' := 1) rfl rfl rfl rfl rfl ?_
  refine st_sc (v := .int .i64 x.fConn) (o' := 2) rfl rfl rfl rfl rfl ?_
  refine st_sc (v := .int .i64 x.fGen) (o' := 3) rfl rfl rfl rfl rfl ?_
  refine st_sc (v := .string x.fClient) (o' := 4) rfl rfl rfl rfl rfl ?_
  refine st_agg (cty := ctyPacket) (cells := encPacket x.fP) (o' := 29) rfl rfl rfl rfl rfl (flPacket _) (toF_Packet (n + 0) (by omega) x.fP (by unfold wtDeed at h; omega)) tyPacket rfl (by decide) rfl ?_
  refine st_sc (v := .int .i64 x.fInv) (o' := 30) rfl rfl rfl rfl rfl ?_
  refine st_sc (v := .int .i64 x.fLin) (o' := 31) rfl rfl rfl rfl rfl ?_
  refine st_sc (v := .int .i64 x.fRes) (o' := 32) rfl rfl rfl rfl rfl ?_
  refine st_sc (v := .bool x.fVoid) (o' := 33) rfl rfl rfl rfl rfl ?_
  refine st_sc (v := .int .i64 x.fCode) (o' := 34) rfl rfl rfl rfl rfl ?_
  refine st_sc (v := .int .i64 x.fBorn) (o' := 35) rfl rfl rfl rfl rfl ?_
  refine st_sc (v := .bool x.fPresent) (o' := 36) rfl rfl rfl rfl rfl ?_
  refine st_sc (v := .bool x.fHand) (o' := 37) rfl rfl rfl rfl rfl ?_
  refine st_ro (o' := 38) rfl rfl rfl rfl rfl (toF_SubS (n + 1) (by omega) x.fTo (by unfold wtDeed at h; omega)) rfl ?_
  refine st_ro (o' := 39) rfl rfl rfl rfl rfl (toF_IntS (n + 2) (by omega) x.fCodes (by unfold wtDeed at h; omega)) rfl ?_
  refine st_ro (o' := 40) rfl rfl rfl rfl rfl (toF_MsgS (n + 0) (by omega) x.fKs (by unfold wtDeed at h; omega)) rfl ?_
  exact st_end rfl rfl rfl (flDeed x) tyDeed (okWDeed 4 x)
theorem eqF_Deed (n : Nat) (hn : 1048576 < n) (tb : Nat) (x : DeedV) (h : wtDeed x ≤ 1048576) : tree E0 (n + 4) tb 21 [.agg (encDeed x), .agg (encDeed x)] = some (.sc (.bool true)) := by
  rw [tree_def, f21_eq, f21]
  simp only [PR_box, PR_fadr, PR_load, PR_bin, PR_binB, PR_un, PR_cond]
  rw [box_fl _ _ _ (flDeed x), box_fl _ _ _ (flDeed x)]
  simp only [List.length_nil, List.nil_append, List.length_cons, List.cons_append, Nat.zero_add, Nat.reduceAdd]
  refine eq_sc (v := .int .i64 x.fOp) rfl rfl (fun k => ne_int _ k) ?_
  refine eq_sc (v := .int .i64 x.fConn) rfl rfl (fun k => ne_int _ k) ?_
  refine eq_sc (v := .int .i64 x.fGen) rfl rfl (fun k => ne_int _ k) ?_
  refine eq_sc (v := .string x.fClient) rfl rfl (fun k => ne_str _ k) ?_
  refine eq_agg (cells := encPacket x.fP) rfl rfl rfl (flPacket _) (eqF_Packet (n + 0) (by omega) _ x.fP (by unfold wtDeed at h; omega)) ?_
  refine eq_sc (v := .int .i64 x.fInv) rfl rfl (fun k => ne_int _ k) ?_
  refine eq_sc (v := .int .i64 x.fLin) rfl rfl (fun k => ne_int _ k) ?_
  refine eq_sc (v := .int .i64 x.fRes) rfl rfl (fun k => ne_int _ k) ?_
  refine eq_b (b := x.fVoid) rfl rfl ?_
  refine eq_sc (v := .int .i64 x.fCode) rfl rfl (fun k => ne_int _ k) ?_
  refine eq_sc (v := .int .i64 x.fBorn) rfl rfl (fun k => ne_int _ k) ?_
  refine eq_b (b := x.fPresent) rfl rfl ?_
  refine eq_b (b := x.fHand) rfl rfl ?_
  refine eq_ro rfl rfl rfl (eqF_SubS (n + 1) (by omega) _ x.fTo (by unfold wtDeed at h; omega)) ?_
  refine eq_ro rfl rfl rfl (eqF_IntS (n + 2) (by omega) _ x.fCodes (by unfold wtDeed at h; omega)) ?_
  refine eq_ro rfl rfl rfl (eqF_MsgS (n + 0) (by omega) _ x.fKs (by unfold wtDeed at h; omega)) ?_
  rfl
theorem szF_Deed (n : Nat) (hn : 1048576 < n) (ty : Nat) (x : DeedV) (hx : okDeed x) (left : Int) (h0 : 0 ≤ left) (h1 : left ≤ 1048576) : tree E0 (n + 4) ty 17 [.agg (encDeed x), .sc (.int .i64 left)] = szA (wtDeed x) left := by
  obtain ⟨_, _, _, k3, k4, _, _, _, _, _, _, _, _, k13, k14, k15⟩ := hx
  unfold wtDeed
  rw [tree_def, f17_eq, f17]
  simp only [PR_box, PR_fadr, PR_load, PR_lenS, PR_bin, PR_cond]
  rw [box_fl _ _ _ (flDeed x)]
  simp only [List.length_nil, List.nil_append, List.length_cons, List.cons_append, Nat.zero_add, Nat.reduceAdd]
  refine sz_str (s := x.fClient) rfl h0 h1 k3 rfl fun h0 h1 => ?_
  refine sz_agg (cells := encPacket x.fP) rfl h0 h1 rfl (flPacket _) (szF_Packet (n + 0) (by omega) _ x.fP k4 _ h0 h1) rfl fun h0 h1 => ?_
  refine sz_ro rfl h0 h1 rfl (szF_SubS (n + 1) (by omega) _ x.fTo k13.1 k13.2 _ h0 h1) rfl fun h0 h1 => ?_
  refine sz_ro rfl h0 h1 rfl (szF_IntS (n + 2) _ x.fCodes k14.1 _ h0 h1) rfl fun h0 h1 => ?_
  refine sz_ro rfl h0 h1 rfl (szF_MsgS (n + 0) (by omega) _ x.fKs k15.1 k15.2 _ h0 h1) rfl fun h0 h1 => ?_
  exact sz_end h0

end Go.Proofs.YtnkelipioodhjaaDoor.Abs
