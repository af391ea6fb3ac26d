/- What the laws' mark and held functions do (written by marks.py). -/
import Derived.Test.YtpcgppelelfmiaaDoorTypes
import Derived.Test.YtpcgppelelfmiaaDoorAt
set_option linter.unusedVariables false
set_option linter.unusedSimpArgs false
set_option maxRecDepth 100000
namespace Go.Proofs.YtpcgppelelfmiaaDoor.Abs
open Go
variable {α : Type}
theorem wfv_fl : ∀ (cs : List AV) (fs : List MF), wfL fs cs → fs.all isV = true → cs.all isFl = true
  | [], fs, _, _ => rfl
  | c :: cs, [], hw, _ => absurd rfl hw.1
  | c :: cs, f :: fs, hw, hv => by
    obtain ⟨h1, h2⟩ := wfL_cons.1 hw
    rw [List.all_cons, Bool.and_eq_true] at hv
    rw [List.all_cons, wfv_fl cs fs h2 hv.2, Bool.and_true]
    cases c with
    | sc v => cases f <;> first | exact h1 | (exfalso; simpa [isV] using hv.1) | exact h1.elim
    | ro m cells => cases f <;> first | rfl | exact h1.elim
    | _ => exact h1.elim
theorem mk_txt (n : Nat) (hn : 1048576 < n) : TxtOk (n + 1) 9 85 := txt_ok (n := n) rfl hn (fun kk => f85_l0 (PR n AV) n kk) (fun kk m k s H => rfl) (fun a H kk => f85_eq n a H kk)
def fdByteS : List FD := [⟨.byt, [], 0⟩]
def mfByteS : List MF := fdByteS.map FD.f
theorem mk_ByteS (n : Nat) (hn : 1048576 < n) : MarkOk (n + 2) 86 22 mfByteS :=
  mark_ok (n := n + 1) (tI := 3) (w := 1) (cty := [5]) (fds := fdByteS) rfl rfl (mk_txt n hn) ⟨rfl, trivial, trivial⟩ rfl ⟨_, _, rfl, rfl, rfl, rfl⟩ (by omega) (fun β kk => f86_l0 (PR (n + 1) β) (n + 1) kk) (fun β kk m a k i H => rfl) (fun β a b H kk => f86_eq (n + 1) a b H kk)
theorem hd_ByteS (n : Nat) (hn : 1048576 < n) : HeldOk (n + 2) 87 mfByteS :=
  held_ok (n := n + 1) (tI := 3) (w := 1) (fds := fdByteS) rfl (mk_txt n hn) ⟨rfl, trivial, trivial⟩ rfl (by decide) (by omega) (fun kk => f87_l0 (PR (n + 1) AV) (n + 1) kk) (fun kk m a k i H => rfl) (fun a b H kk => f87_eq (n + 1) a b H kk)
def fdIntS : List FD := [⟨.int, [], 0⟩]
def mfIntS : List MF := fdIntS.map FD.f
theorem mk_IntS (n : Nat) (hn : 1048576 < n) : MarkOk (n + 2) 92 49 mfIntS :=
  mark_ok (n := n + 1) (tI := 3) (w := 1) (cty := [3]) (fds := fdIntS) rfl rfl (mk_txt n hn) ⟨rfl, trivial, trivial⟩ rfl ⟨_, _, rfl, rfl, rfl, rfl⟩ (by omega) (fun β kk => f92_l0 (PR (n + 1) β) (n + 1) kk) (fun β kk m a k i H => rfl) (fun β a b H kk => f92_eq (n + 1) a b H kk)
theorem hd_IntS (n : Nat) (hn : 1048576 < n) : HeldOk (n + 2) 93 mfIntS :=
  held_ok (n := n + 1) (tI := 3) (w := 1) (fds := fdIntS) rfl (mk_txt n hn) ⟨rfl, trivial, trivial⟩ rfl (by decide) (by omega) (fun kk => f93_l0 (PR (n + 1) AV) (n + 1) kk) (fun kk m a k i H => rfl) (fun a b H kk => f93_eq (n + 1) a b H kk)
def fdStringS : List FD := [⟨.str, [], 0⟩]
def mfStringS : List MF := fdStringS.map FD.f
theorem wf_bytes (s : ByteArray) (h : s.size ≤ 1048576) : wfF (.sub mfByteS) (bytesC s) := by
  refine ⟨h, by rw [bytesAV_len]; show _ = s.size * 1; omega, ?_⟩
  have key : ∀ l : List UInt8, wfL (repF l.length mfByteS) (l.map fun b => .sc (.int .u8 b.toNat)) := by
    intro l
    induction l with
    | nil => rfl
    | cons b l ih =>
      rw [List.length_cons, repF_succ, List.map_cons]
      exact wfL_cons.2 ⟨trivial, ih⟩
  have := key s.data.toList
  rwa [show s.data.toList.length = s.size by simp] at this
theorem cnt_flat (f : MF) (e : α → Value) (h : ∀ x, cntF f (.sc (e x)) = 1) : ∀ l : List α, cntL (repF l.length [f]) (l.map fun x => .sc (e x)) = l.length
  | [] => rfl
  | x :: l => by
    rw [List.length_cons, repF_succ, List.map_cons]
    show cntF f (.sc (e x)) + cntL (repF l.length [f]) _ = _
    rw [h, cnt_flat f e h l]
    omega
theorem cnt_bytes (s : ByteArray) : cntF (.sub mfByteS) (bytesC s) = s.size := by
  have := cnt_flat .byt (fun b : UInt8 => .int .u8 b.toNat) (fun _ => rfl) s.data.toList
  rw [show s.data.toList.length = s.size by simp] at this
  exact this
theorem wf_ints (l : List Int) (h : l.length ≤ 1048576) : wfF (.sub mfIntS) (intsC l) := by
  refine ⟨h, by simp [mfIntS, fdIntS], ?_⟩
  clear h
  induction l with
  | nil => rfl
  | cons b l ih =>
    rw [List.length_cons, repF_succ, List.map_cons]
    exact wfL_cons.2 ⟨trivial, ih⟩
theorem cnt_ints (l : List Int) : cntF (.sub mfIntS) (intsC l) = l.length := cnt_flat .int (fun z : Int => .int .i64 z) (fun _ => rfl) l
theorem wf_strs (l : List ByteArray) (h : l.length ≤ 1048576) : wfF (.sub mfStringS) (strsC l) := by
  refine ⟨h, by simp [mfStringS, fdStringS], ?_⟩
  clear h
  induction l with
  | nil => rfl
  | cons b l ih =>
    rw [List.length_cons, repF_succ, List.map_cons]
    exact wfL_cons.2 ⟨trivial, ih⟩
theorem cnt_strs (l : List ByteArray) : cntF (.sub mfStringS) (strsC l) = l.length := cnt_flat .str (fun z : ByteArray => .string z) (fun _ => rfl) l
theorem smwS {wt : α → Nat} (sm : α → Prop) (hs : ∀ x, wt x ≤ 1048576 → sm x) (l : List α) (h : wtL wt l ≤ 1048576) : l.length ≤ 1048576 ∧ ∀ y ∈ l, sm y := by
  have h1 := wtL_eq wt l
  refine ⟨by omega, fun y hy => hs y ?_⟩
  have h2 := wtS_mem (wt := wt) hy
  omega
theorem wf_rows {enc : α → List AV} {fs : List MF} (l : List α) (h : l.length ≤ 1048576) (hw : ∀ x ∈ l, wfL fs (enc x)) : wfF (.sub fs) (rowsC enc l) := by
  have key : ∀ l : List α, (∀ x ∈ l, wfL fs (enc x)) → (l.map enc).flatten.length = l.length * fs.length ∧ wfL (repF l.length fs) (l.map enc).flatten := by
    intro l
    induction l with
    | nil => intro _; exact ⟨by simp, rfl⟩
    | cons x l ih =>
      intro hw
      obtain ⟨h1, h2⟩ := ih fun y hy => hw y (List.mem_cons_of_mem _ hy)
      have hx := hw x List.mem_cons_self
      have hl := wfL_len hx
      rw [List.map_cons, List.flatten_cons, List.length_cons, repF_succ]
      exact ⟨by rw [List.length_append, h1, ← hl, Nat.succ_mul]; omega, (wfL_append hl).2 ⟨hx, h2⟩⟩
  obtain ⟨h1, h2⟩ := key l hw
  exact ⟨h, h1, h2⟩
theorem cnt_rows {enc : α → List AV} {fs : List MF} {wt : α → Nat} : ∀ (l : List α), (∀ x ∈ l, fs.length = (enc x).length) → (∀ x ∈ l, cntL fs (enc x) ≤ 64 * (1 + wt x)) → cntF (.sub fs) (rowsC enc l) ≤ 64 * wtL wt l
  | [], _, _ => Nat.zero_le _
  | x :: l, hl, h => by
    have ih := cnt_rows l (fun y hy => hl y (List.mem_cons_of_mem _ hy)) (fun y hy => h y (List.mem_cons_of_mem _ hy))
    have hx := h x List.mem_cons_self
    show cntL (repF (l.length + 1) fs) (enc x ++ (l.map enc).flatten) ≤ _
    rw [repF_succ, cntL_append _ _ _ _ (hl x List.mem_cons_self), wtL]
    have ih : cntL (repF l.length fs) (l.map enc).flatten ≤ 64 * wtL wt l := ih
    omega

/-! Msg -/
def fdMsgS : List FD := [⟨.str, [0], 0⟩, ⟨.sub mfByteS, [1], 86⟩, ⟨.int, [2], 0⟩, ⟨.bool, [3], 0⟩]
def fhMsgS : List FD := [⟨.str, [0], 0⟩, ⟨.sub mfByteS, [1], 87⟩, ⟨.int, [2], 0⟩, ⟨.bool, [3], 0⟩]
def mfMsgS : List MF := fdMsgS.map FD.f
def smMsg (x : MsgV) : Prop := x.fBody.size ≤ 1048576 ∧ True
theorem mk_MsgS (n : Nat) (hn : 1048576 < n) : MarkOk (n + 3) 41 34 mfMsgS :=
  mark_ok (n := n + 2) (tI := 3) (w := 4) (cty := ctyMsg) (fds := fdMsgS) rfl rfl (mk_txt (n + 1) (by omega)) ⟨rfl, trivial, ⟨rfl, mk_ByteS (n + 0) (by omega), ⟨rfl, trivial, ⟨rfl, trivial, trivial⟩⟩⟩⟩ rfl ⟨_, _, rfl, rfl, rfl, rfl⟩ (by omega) (fun β kk => f41_l0 (PR (n + 2) β) (n + 2) kk) (fun β kk m a k i H => rfl) (fun β a b H kk => f41_eq (n + 2) a b H kk)
theorem hd_MsgS (n : Nat) (hn : 1048576 < n) : HeldOk (n + 3) 43 mfMsgS :=
  held_ok (n := n + 2) (tI := 3) (w := 4) (fds := fhMsgS) rfl (mk_txt (n + 1) (by omega)) ⟨rfl, trivial, ⟨rfl, hd_ByteS (n + 0) (by omega), ⟨rfl, trivial, ⟨rfl, trivial, trivial⟩⟩⟩⟩ rfl (by decide) (by omega) (fun kk => f43_l0 (PR (n + 2) AV) (n + 2) kk) (fun kk m a k i H => rfl) (fun a b H kk => f43_eq (n + 2) a b H kk)
theorem smwMsg (x : MsgV) (h : wtMsg x ≤ 1048576) : smMsg x := by
  have h0 := h
  unfold wtMsg at h0
  exact ⟨by omega, trivial⟩
theorem wfMsg (x : MsgV) (h : smMsg x) : wfL mfMsgS (encMsg x) := by
  obtain ⟨h0, _⟩ := h
  exact wfL_cons.2 ⟨trivial, wfL_cons.2 ⟨wf_bytes _ h0, wfL_cons.2 ⟨trivial, wfL_cons.2 ⟨trivial, rfl⟩⟩⟩⟩
theorem cntMsg (x : MsgV) : cntL mfMsgS (encMsg x) ≤ 64 * (1 + wtMsg x) := by
  have c0 := cnt_bytes x.fBody
  show 1 + (cntF (.sub mfByteS) (bytesC x.fBody) + (1 + (1 + 0))) ≤ _
  unfold wtMsg
  omega
def fvMsg : List FV := [.skip, .sub mfByteS [1] 86, .skip, .skip]
def fwMsg : List FV := [.skip, .sub mfByteS [1] 87, .skip, .skip]
def mvMsg : List MF := flatV fvMsg
theorem wfvMsg (x : MsgV) (h : smMsg x) : wfL mvMsg (encMsg x) := by
  obtain ⟨h0, _⟩ := h
  exact wfL_cons.2 ⟨rfl, wfL_cons.2 ⟨wf_bytes _ h0, wfL_cons.2 ⟨rfl, wfL_cons.2 ⟨rfl, rfl⟩⟩⟩⟩
theorem cntvMsg (x : MsgV) : cntL mvMsg (encMsg x) ≤ 64 * wtMsg x := by
  have c0 := cnt_bytes x.fBody
  show 0 + (cntF (.sub mfByteS) (bytesC x.fBody) + (0 + (0 + 0))) ≤ _
  unfold wtMsg
  omega
theorem lf_Msg : ∀ (cs : List AV) (N : Nat), wfL mvMsg cs → (instL ti0 E0.tp N ctyMsg cs).1.all isLeaf = true := fun cs N h => instL_leaf _ _ _ (wfv_fl cs mvMsg h rfl)
theorem mk_MsgV (n : Nat) (hn : 1048576 < n) : MarkV (n + 3) 42 ctyMsg mvMsg :=
  markv_ok (n := n + 2) (tI := 3) (fvs := fvMsg) rfl rfl ⟨rfl, mk_ByteS (n + 0) (by omega), trivial⟩ rfl lf_Msg (fun β a b H kk => f42_eq (n + 2) a b H kk)

/-! Flight -/
def fdFlightS : List FD := [⟨.int, [0], 0⟩, ⟨.str, [1, 0], 0⟩, ⟨.sub mfByteS, [1, 1], 86⟩, ⟨.int, [1, 2], 0⟩, ⟨.bool, [1, 3], 0⟩, ⟨.int, [5], 0⟩]
def fhFlightS : List FD := [⟨.int, [0], 0⟩, ⟨.str, [1, 0], 0⟩, ⟨.sub mfByteS, [1, 1], 87⟩, ⟨.int, [1, 2], 0⟩, ⟨.bool, [1, 3], 0⟩, ⟨.int, [5], 0⟩]
def mfFlightS : List MF := fdFlightS.map FD.f
def smFlight (x : FlightV) : Prop := x.fM.fBody.size ≤ 1048576 ∧ True
theorem mk_FlightS (n : Nat) (hn : 1048576 < n) : MarkOk (n + 3) 90 43 mfFlightS :=
  mark_ok (n := n + 2) (tI := 3) (w := 6) (cty := ctyFlight) (fds := fdFlightS) rfl rfl (mk_txt (n + 1) (by omega)) ⟨rfl, trivial, ⟨rfl, trivial, ⟨rfl, mk_ByteS (n + 0) (by omega), ⟨rfl, trivial, ⟨rfl, trivial, ⟨rfl, trivial, trivial⟩⟩⟩⟩⟩⟩ rfl ⟨_, _, rfl, rfl, rfl, rfl⟩ (by omega) (fun β kk => f90_l0 (PR (n + 2) β) (n + 2) kk) (fun β kk m a k i H => rfl) (fun β a b H kk => f90_eq (n + 2) a b H kk)
theorem hd_FlightS (n : Nat) (hn : 1048576 < n) : HeldOk (n + 3) 91 mfFlightS :=
  held_ok (n := n + 2) (tI := 3) (w := 6) (fds := fhFlightS) rfl (mk_txt (n + 1) (by omega)) ⟨rfl, trivial, ⟨rfl, trivial, ⟨rfl, hd_ByteS (n + 0) (by omega), ⟨rfl, trivial, ⟨rfl, trivial, ⟨rfl, trivial, trivial⟩⟩⟩⟩⟩⟩ rfl (by decide) (by omega) (fun kk => f91_l0 (PR (n + 2) AV) (n + 2) kk) (fun kk m a k i H => rfl) (fun a b H kk => f91_eq (n + 2) a b H kk)
theorem smwFlight (x : FlightV) (h : wtFlight x ≤ 1048576) : smFlight x := by
  have h0 := h
  unfold wtFlight wtMsg at h0
  exact ⟨by omega, trivial⟩
theorem wfFlight (x : FlightV) (h : smFlight x) : wfL mfFlightS (encFlight x) := by
  obtain ⟨h0, _⟩ := h
  exact wfL_cons.2 ⟨trivial, wfL_cons.2 ⟨trivial, wfL_cons.2 ⟨wf_bytes _ h0, wfL_cons.2 ⟨trivial, wfL_cons.2 ⟨trivial, wfL_cons.2 ⟨trivial, rfl⟩⟩⟩⟩⟩⟩
theorem cntFlight (x : FlightV) : cntL mfFlightS (encFlight x) ≤ 64 * (1 + wtFlight x) := by
  have c0 := cnt_bytes x.fM.fBody
  show 1 + (1 + (cntF (.sub mfByteS) (bytesC x.fM.fBody) + (1 + (1 + (1 + 0))))) ≤ _
  unfold wtFlight wtMsg
  omega

/-! Out -/
def fdOutS : List FD := [⟨.int, [0], 0⟩, ⟨.sub mfFlightS, [1], 90⟩, ⟨.sub mfMsgS, [2], 41⟩]
def fhOutS : List FD := [⟨.int, [0], 0⟩, ⟨.sub mfFlightS, [1], 91⟩, ⟨.sub mfMsgS, [2], 43⟩]
def mfOutS : List MF := fdOutS.map FD.f
def smOut (x : OutV) : Prop := (x.fFl.length ≤ 1048576 ∧ ∀ y ∈ x.fFl, smFlight y) ∧ (x.fQ.length ≤ 1048576 ∧ ∀ y ∈ x.fQ, smMsg y) ∧ True
theorem smwOut (x : OutV) (h : wtOut x ≤ 1048576) : smOut x := by
  have e0 := wtL_eq wtFlight x.fFl
  have e1 := wtL_eq wtMsg x.fQ
  have h0 := h
  unfold wtOut at h0
  exact ⟨smwS smFlight smwFlight _ (by omega), smwS smMsg smwMsg _ (by omega), trivial⟩
theorem wfOut (x : OutV) (h : smOut x) : wfL mfOutS (encOut x) := by
  obtain ⟨h0, h1, _⟩ := h
  exact wfL_cons.2 ⟨trivial, wfL_cons.2 ⟨wf_rows _ h0.1 fun y hy => wfFlight y (h0.2 y hy), wfL_cons.2 ⟨wf_rows _ h1.1 fun y hy => wfMsg y (h1.2 y hy), rfl⟩⟩⟩
theorem cntOut (x : OutV) : cntL mfOutS (encOut x) ≤ 64 * (1 + wtOut x) := by
  have c0 := cnt_rows (fs := mfFlightS) (wt := wtFlight) x.fFl (fun y _ => rfl) (fun y _ => cntFlight y)
  have c1 := cnt_rows (fs := mfMsgS) (wt := wtMsg) x.fQ (fun y _ => rfl) (fun y _ => cntMsg y)
  show 1 + (cntF (.sub mfFlightS) (rowsC encFlight x.fFl) + (cntF (.sub mfMsgS) (rowsC encMsg x.fQ) + 0)) ≤ _
  unfold wtOut
  omega
def fvOut : List FV := [.skip, .sub mfFlightS [1] 90, .sub mfMsgS [2] 41]
def fwOut : List FV := [.skip, .sub mfFlightS [1] 91, .sub mfMsgS [2] 43]
def mvOut : List MF := flatV fvOut
theorem wfvOut (x : OutV) (h : smOut x) : wfL mvOut (encOut x) := by
  obtain ⟨h0, h1, _⟩ := h
  exact wfL_cons.2 ⟨rfl, wfL_cons.2 ⟨wf_rows _ h0.1 fun y hy => wfFlight y (h0.2 y hy), wfL_cons.2 ⟨wf_rows _ h1.1 fun y hy => wfMsg y (h1.2 y hy), rfl⟩⟩⟩
theorem cntvOut (x : OutV) : cntL mvOut (encOut x) ≤ 64 * wtOut x := by
  have c0 := cnt_rows (fs := mfFlightS) (wt := wtFlight) x.fFl (fun y _ => rfl) (fun y _ => cntFlight y)
  have c1 := cnt_rows (fs := mfMsgS) (wt := wtMsg) x.fQ (fun y _ => rfl) (fun y _ => cntMsg y)
  show 0 + (cntF (.sub mfFlightS) (rowsC encFlight x.fFl) + (cntF (.sub mfMsgS) (rowsC encMsg x.fQ) + 0)) ≤ _
  unfold wtOut
  omega
theorem lf_Out : ∀ (cs : List AV) (N : Nat), wfL mvOut cs → (instL ti0 E0.tp N ctyOut cs).1.all isLeaf = true := fun cs N h => instL_leaf _ _ _ (wfv_fl cs mvOut h rfl)
theorem mk_OutV (n : Nat) (hn : 1048576 < n) : MarkV (n + 4) 46 ctyOut mvOut :=
  markv_ok (n := n + 3) (tI := 3) (fvs := fvOut) rfl rfl ⟨rfl, mk_FlightS (n + 0) (by omega), ⟨rfl, mk_MsgS (n + 0) (by omega), trivial⟩⟩ rfl lf_Out (fun β a b H kk => f46_eq (n + 3) a b H kk)
theorem hd_OutV (n : Nat) (hn : 1048576 < n) : HeldV (n + 4) 47 mvOut :=
  heldv_ok (n := n + 3) (tI := 3) (fvs := fwOut) rfl ⟨rfl, hd_FlightS (n + 0) (by omega), ⟨rfl, hd_MsgS (n + 0) (by omega), trivial⟩⟩ rfl (fun a b H kk => f47_eq (n + 3) a b H kk)

/-! Sess -/
def fdSessS : List FD := [⟨.str, [0], 0⟩, ⟨.int, [1], 0⟩, ⟨.bool, [2], 0⟩, ⟨.int, [3], 0⟩, ⟨.int, [4], 0⟩, ⟨.int, [5, 0], 0⟩, ⟨.sub mfFlightS, [5, 1], 90⟩, ⟨.sub mfMsgS, [5, 2], 41⟩, ⟨.sub mfIntS, [8], 92⟩]
def fhSessS : List FD := [⟨.str, [0], 0⟩, ⟨.int, [1], 0⟩, ⟨.bool, [2], 0⟩, ⟨.int, [3], 0⟩, ⟨.int, [4], 0⟩, ⟨.int, [5, 0], 0⟩, ⟨.sub mfFlightS, [5, 1], 91⟩, ⟨.sub mfMsgS, [5, 2], 43⟩, ⟨.sub mfIntS, [8], 93⟩]
def mfSessS : List MF := fdSessS.map FD.f
def smSess (x : SessV) : Prop := (x.fO.fFl.length ≤ 1048576 ∧ ∀ y ∈ x.fO.fFl, smFlight y) ∧ (x.fO.fQ.length ≤ 1048576 ∧ ∀ y ∈ x.fO.fQ, smMsg y) ∧ x.fIn.length ≤ 1048576 ∧ True
theorem smwSess (x : SessV) (h : wtSess x ≤ 1048576) : smSess x := by
  have e0 := wtL_eq wtFlight x.fO.fFl
  have e1 := wtL_eq wtMsg x.fO.fQ
  have h0 := h
  unfold wtSess wtOut at h0
  exact ⟨smwS smFlight smwFlight _ (by omega), smwS smMsg smwMsg _ (by omega), by omega, trivial⟩
theorem wfSess (x : SessV) (h : smSess x) : wfL mfSessS (encSess x) := by
  obtain ⟨h0, h1, h2, _⟩ := h
  exact wfL_cons.2 ⟨trivial, wfL_cons.2 ⟨trivial, wfL_cons.2 ⟨trivial, wfL_cons.2 ⟨trivial, wfL_cons.2 ⟨trivial, wfL_cons.2 ⟨trivial, wfL_cons.2 ⟨wf_rows _ h0.1 fun y hy => wfFlight y (h0.2 y hy), wfL_cons.2 ⟨wf_rows _ h1.1 fun y hy => wfMsg y (h1.2 y hy), wfL_cons.2 ⟨wf_ints _ h2, rfl⟩⟩⟩⟩⟩⟩⟩⟩⟩
theorem cntSess (x : SessV) : cntL mfSessS (encSess x) ≤ 64 * (1 + wtSess x) := by
  have c0 := cnt_rows (fs := mfFlightS) (wt := wtFlight) x.fO.fFl (fun y _ => rfl) (fun y _ => cntFlight y)
  have c1 := cnt_rows (fs := mfMsgS) (wt := wtMsg) x.fO.fQ (fun y _ => rfl) (fun y _ => cntMsg y)
  have c2 := cnt_ints x.fIn
  show 1 + (1 + (1 + (1 + (1 + (1 + (cntF (.sub mfFlightS) (rowsC encFlight x.fO.fFl) + (cntF (.sub mfMsgS) (rowsC encMsg x.fO.fQ) + (cntF (.sub mfIntS) (intsC x.fIn) + 0)))))))) ≤ _
  unfold wtSess wtOut
  omega
def fvSess : List FV := [.skip, .skip, .skip, .skip, .skip, .agg (flatV fvOut) [5] 3 46, .sub mfIntS [8] 92]
def fwSess : List FV := [.skip, .skip, .skip, .skip, .skip, .agg (flatV fvOut) [5] 3 47, .sub mfIntS [8] 93]
def mvSess : List MF := flatV fvSess
theorem wfvSess (x : SessV) (h : smSess x) : wfL mvSess (encSess x) := by
  obtain ⟨h0, h1, h2, _⟩ := h
  exact wfL_cons.2 ⟨rfl, wfL_cons.2 ⟨rfl, wfL_cons.2 ⟨rfl, wfL_cons.2 ⟨rfl, wfL_cons.2 ⟨rfl, wfL_cons.2 ⟨rfl, wfL_cons.2 ⟨wf_rows _ h0.1 fun y hy => wfFlight y (h0.2 y hy), wfL_cons.2 ⟨wf_rows _ h1.1 fun y hy => wfMsg y (h1.2 y hy), wfL_cons.2 ⟨wf_ints _ h2, rfl⟩⟩⟩⟩⟩⟩⟩⟩⟩
theorem cntvSess (x : SessV) : cntL mvSess (encSess x) ≤ 64 * wtSess x := by
  have c0 := cnt_rows (fs := mfFlightS) (wt := wtFlight) x.fO.fFl (fun y _ => rfl) (fun y _ => cntFlight y)
  have c1 := cnt_rows (fs := mfMsgS) (wt := wtMsg) x.fO.fQ (fun y _ => rfl) (fun y _ => cntMsg y)
  have c2 := cnt_ints x.fIn
  show 0 + (0 + (0 + (0 + (0 + (0 + (cntF (.sub mfFlightS) (rowsC encFlight x.fO.fFl) + (cntF (.sub mfMsgS) (rowsC encMsg x.fO.fQ) + (cntF (.sub mfIntS) (intsC x.fIn) + 0)))))))) ≤ _
  unfold wtSess wtOut
  omega
theorem lf_Sess : ∀ (cs : List AV) (N : Nat), wfL mvSess cs → (instL ti0 E0.tp N ctySess cs).1.all isLeaf = true := fun cs N h => instL_leaf _ _ _ (wfv_fl cs mvSess h rfl)
theorem mk_SessV (n : Nat) (hn : 1048576 < n) : MarkV (n + 5) 50 ctySess mvSess :=
  markv_ok (n := n + 4) (tI := 3) (fvs := fvSess) rfl rfl ⟨rfl, rfl, by decide, rfl, mk_OutV (n + 0) (by omega), by decide, ⟨rfl, mk_IntS (n + 2) (by omega), trivial⟩⟩ rfl lf_Sess (fun β a b H kk => f50_eq (n + 4) a b H kk)
theorem hd_SessV (n : Nat) (hn : 1048576 < n) : HeldV (n + 5) 51 mvSess :=
  heldv_ok (n := n + 4) (tI := 3) (fvs := fwSess) rfl ⟨rfl, rfl, by decide, hd_OutV (n + 0) (by omega), ⟨rfl, hd_IntS (n + 2) (by omega), trivial⟩⟩ rfl (fun a b H kk => f51_eq (n + 4) a b H kk)

end Go.Proofs.YtpcgppelelfmiaaDoor.Abs
