/- What the laws' mark and held functions do (written by marks.py). -/
import Derived.Test.YtfpmccedangjoaaTypes
import Derived.Test.YtfpmccedangjoaaAt
set_option linter.unusedVariables false
set_option linter.unusedSimpArgs false
set_option maxRecDepth 100000
namespace Go.Proofs.Ytfpmccedangjoaa.Abs
open Go
variable {α : Type}
theorem wfv_fl : ∀ (cs : List AV) (fs : List MF), wfL fs cs → fs.all isV = true → cs.all isFl = true
  | [], fs, _, _ => rfl
  | c :: cs, [], hw, _ => absurd rfl hw.1
  | c :: cs, f :: fs, hw, hv => by
    obtain ⟨h1, h2⟩ := wfL_cons.1 hw
    rw [List.all_cons, Bool.and_eq_true] at hv
    rw [List.all_cons, wfv_fl cs fs h2 hv.2, Bool.and_true]
    cases c with
    | sc v => cases f <;> first | exact h1 | (exfalso; simpa [isV] using hv.1) | exact h1.elim
    | ro m cells => cases f <;> first | rfl | exact h1.elim
    | _ => exact h1.elim
theorem mk_txt (n : Nat) (hn : 1048576 < n) : TxtOk (n + 1) 9 33 := txt_ok (n := n) rfl hn (fun kk => f33_l0 (PR n AV) n kk) (fun kk m k s H => rfl) (fun a H kk => f33_eq n a H kk)
def fdByteS : List FD := [⟨.byt, [], 0⟩]
def mfByteS : List MF := fdByteS.map FD.f
theorem mk_ByteS (n : Nat) (hn : 1048576 < n) : MarkOk (n + 2) 50 73 mfByteS :=
  mark_ok (n := n + 1) (tI := 3) (w := 1) (cty := [5]) (fds := fdByteS) rfl rfl (mk_txt n hn) ⟨rfl, trivial, trivial⟩ rfl ⟨_, _, rfl, rfl, rfl, rfl⟩ (by omega) (fun β kk => f50_l0 (PR (n + 1) β) (n + 1) kk) (fun β kk m a k i H => rfl) (fun β a b H kk => f50_eq (n + 1) a b H kk)
theorem hd_ByteS (n : Nat) (hn : 1048576 < n) : HeldOk (n + 2) 51 mfByteS :=
  held_ok (n := n + 1) (tI := 3) (w := 1) (fds := fdByteS) rfl (mk_txt n hn) ⟨rfl, trivial, trivial⟩ rfl (by decide) (by omega) (fun kk => f51_l0 (PR (n + 1) AV) (n + 1) kk) (fun kk m a k i H => rfl) (fun a b H kk => f51_eq (n + 1) a b H kk)
def fdIntS : List FD := [⟨.int, [], 0⟩]
def mfIntS : List MF := fdIntS.map FD.f
theorem mk_IntS (n : Nat) (hn : 1048576 < n) : MarkOk (n + 2) 36 47 mfIntS :=
  mark_ok (n := n + 1) (tI := 3) (w := 1) (cty := [3]) (fds := fdIntS) rfl rfl (mk_txt n hn) ⟨rfl, trivial, trivial⟩ rfl ⟨_, _, rfl, rfl, rfl, rfl⟩ (by omega) (fun β kk => f36_l0 (PR (n + 1) β) (n + 1) kk) (fun β kk m a k i H => rfl) (fun β a b H kk => f36_eq (n + 1) a b H kk)
theorem hd_IntS (n : Nat) (hn : 1048576 < n) : HeldOk (n + 2) 39 mfIntS :=
  held_ok (n := n + 1) (tI := 3) (w := 1) (fds := fdIntS) rfl (mk_txt n hn) ⟨rfl, trivial, trivial⟩ rfl (by decide) (by omega) (fun kk => f39_l0 (PR (n + 1) AV) (n + 1) kk) (fun kk m a k i H => rfl) (fun a b H kk => f39_eq (n + 1) a b H kk)
def fdStringS : List FD := [⟨.str, [], 0⟩]
def mfStringS : List MF := fdStringS.map FD.f
theorem wf_bytes (s : ByteArray) (h : s.size ≤ 1048576) : wfF (.sub mfByteS) (bytesC s) := by
  refine ⟨h, by rw [bytesAV_len]; show _ = s.size * 1; omega, ?_⟩
  have key : ∀ l : List UInt8, wfL (repF l.length mfByteS) (l.map fun b => .sc (.int .u8 b.toNat)) := by
    intro l
    induction l with
    | nil => rfl
    | cons b l ih =>
      rw [List.length_cons, repF_succ, List.map_cons]
      exact wfL_cons.2 ⟨trivial, ih⟩
  have := key s.data.toList
  rwa [show s.data.toList.length = s.size by simp] at this
theorem cnt_flat (f : MF) (e : α → Value) (h : ∀ x, cntF f (.sc (e x)) = 1) : ∀ l : List α, cntL (repF l.length [f]) (l.map fun x => .sc (e x)) = l.length
  | [] => rfl
  | x :: l => by
    rw [List.length_cons, repF_succ, List.map_cons]
    show cntF f (.sc (e x)) + cntL (repF l.length [f]) _ = _
    rw [h, cnt_flat f e h l]
    omega
theorem cnt_bytes (s : ByteArray) : cntF (.sub mfByteS) (bytesC s) = s.size := by
  have := cnt_flat .byt (fun b : UInt8 => .int .u8 b.toNat) (fun _ => rfl) s.data.toList
  rw [show s.data.toList.length = s.size by simp] at this
  exact this
theorem wf_ints (l : List Int) (h : l.length ≤ 1048576) : wfF (.sub mfIntS) (intsC l) := by
  refine ⟨h, by simp [mfIntS, fdIntS], ?_⟩
  clear h
  induction l with
  | nil => rfl
  | cons b l ih =>
    rw [List.length_cons, repF_succ, List.map_cons]
    exact wfL_cons.2 ⟨trivial, ih⟩
theorem cnt_ints (l : List Int) : cntF (.sub mfIntS) (intsC l) = l.length := cnt_flat .int (fun z : Int => .int .i64 z) (fun _ => rfl) l
theorem wf_strs (l : List ByteArray) (h : l.length ≤ 1048576) : wfF (.sub mfStringS) (strsC l) := by
  refine ⟨h, by simp [mfStringS, fdStringS], ?_⟩
  clear h
  induction l with
  | nil => rfl
  | cons b l ih =>
    rw [List.length_cons, repF_succ, List.map_cons]
    exact wfL_cons.2 ⟨trivial, ih⟩
theorem cnt_strs (l : List ByteArray) : cntF (.sub mfStringS) (strsC l) = l.length := cnt_flat .str (fun z : ByteArray => .string z) (fun _ => rfl) l
theorem smwS {wt : α → Nat} (sm : α → Prop) (hs : ∀ x, wt x ≤ 1048576 → sm x) (l : List α) (h : wtL wt l ≤ 1048576) : l.length ≤ 1048576 ∧ ∀ y ∈ l, sm y := by
  have h1 := wtL_eq wt l
  refine ⟨by omega, fun y hy => hs y ?_⟩
  have h2 := wtS_mem (wt := wt) hy
  omega
theorem wf_rows {enc : α → List AV} {fs : List MF} (l : List α) (h : l.length ≤ 1048576) (hw : ∀ x ∈ l, wfL fs (enc x)) : wfF (.sub fs) (rowsC enc l) := by
  have key : ∀ l : List α, (∀ x ∈ l, wfL fs (enc x)) → (l.map enc).flatten.length = l.length * fs.length ∧ wfL (repF l.length fs) (l.map enc).flatten := by
    intro l
    induction l with
    | nil => intro _; exact ⟨by simp, rfl⟩
    | cons x l ih =>
      intro hw
      obtain ⟨h1, h2⟩ := ih fun y hy => hw y (List.mem_cons_of_mem _ hy)
      have hx := hw x List.mem_cons_self
      have hl := wfL_len hx
      rw [List.map_cons, List.flatten_cons, List.length_cons, repF_succ]
      exact ⟨by rw [List.length_append, h1, ← hl, Nat.succ_mul]; omega, (wfL_append hl).2 ⟨hx, h2⟩⟩
  obtain ⟨h1, h2⟩ := key l hw
  exact ⟨h, h1, h2⟩
theorem cnt_rows {enc : α → List AV} {fs : List MF} {wt : α → Nat} : ∀ (l : List α), (∀ x ∈ l, fs.length = (enc x).length) → (∀ x ∈ l, cntL fs (enc x) ≤ 64 * (1 + wt x)) → cntF (.sub fs) (rowsC enc l) ≤ 64 * wtL wt l
  | [], _, _ => Nat.zero_le _
  | x :: l, hl, h => by
    have ih := cnt_rows l (fun y hy => hl y (List.mem_cons_of_mem _ hy)) (fun y hy => h y (List.mem_cons_of_mem _ hy))
    have hx := h x List.mem_cons_self
    show cntL (repF (l.length + 1) fs) (enc x ++ (l.map enc).flatten) ≤ _
    rw [repF_succ, cntL_append _ _ _ _ (hl x List.mem_cons_self), wtL]
    have ih : cntL (repF l.length fs) (l.map enc).flatten ≤ 64 * wtL wt l := ih
    omega

/-! Msg -/
def fdMsgS : List FD := [⟨.str, [0], 0⟩, ⟨.sub mfByteS, [1], 50⟩, ⟨.int, [2], 0⟩, ⟨.bool, [3], 0⟩]
def fhMsgS : List FD := [⟨.str, [0], 0⟩, ⟨.sub mfByteS, [1], 51⟩, ⟨.int, [2], 0⟩, ⟨.bool, [3], 0⟩]
def mfMsgS : List MF := fdMsgS.map FD.f
def smMsg (x : MsgV) : Prop := x.fBody.size ≤ 1048576 ∧ True
theorem mk_MsgS (n : Nat) (hn : 1048576 < n) : MarkOk (n + 3) 35 44 mfMsgS :=
  mark_ok (n := n + 2) (tI := 3) (w := 4) (cty := ctyMsg) (fds := fdMsgS) rfl rfl (mk_txt (n + 1) (by omega)) ⟨rfl, trivial, ⟨rfl, mk_ByteS (n + 0) (by omega), ⟨rfl, trivial, ⟨rfl, trivial, trivial⟩⟩⟩⟩ rfl ⟨_, _, rfl, rfl, rfl, rfl⟩ (by omega) (fun β kk => f35_l0 (PR (n + 2) β) (n + 2) kk) (fun β kk m a k i H => rfl) (fun β a b H kk => f35_eq (n + 2) a b H kk)
theorem hd_MsgS (n : Nat) (hn : 1048576 < n) : HeldOk (n + 3) 38 mfMsgS :=
  held_ok (n := n + 2) (tI := 3) (w := 4) (fds := fhMsgS) rfl (mk_txt (n + 1) (by omega)) ⟨rfl, trivial, ⟨rfl, hd_ByteS (n + 0) (by omega), ⟨rfl, trivial, ⟨rfl, trivial, trivial⟩⟩⟩⟩ rfl (by decide) (by omega) (fun kk => f38_l0 (PR (n + 2) AV) (n + 2) kk) (fun kk m a k i H => rfl) (fun a b H kk => f38_eq (n + 2) a b H kk)
theorem smwMsg (x : MsgV) (h : wtMsg x ≤ 1048576) : smMsg x := by
  have h0 := h
  unfold wtMsg at h0
  exact ⟨by omega, trivial⟩
theorem wfMsg (x : MsgV) (h : smMsg x) : wfL mfMsgS (encMsg x) := by
  obtain ⟨h0, _⟩ := h
  exact wfL_cons.2 ⟨trivial, wfL_cons.2 ⟨wf_bytes _ h0, wfL_cons.2 ⟨trivial, wfL_cons.2 ⟨trivial, rfl⟩⟩⟩⟩
theorem cntMsg (x : MsgV) : cntL mfMsgS (encMsg x) ≤ 64 * (1 + wtMsg x) := by
  have c0 := cnt_bytes x.fBody
  show 1 + (cntF (.sub mfByteS) (bytesC x.fBody) + (1 + (1 + 0))) ≤ _
  unfold wtMsg
  omega

/-! Flight -/
def fdFlightS : List FD := [⟨.int, [0], 0⟩, ⟨.str, [1, 0], 0⟩, ⟨.sub mfByteS, [1, 1], 50⟩, ⟨.int, [1, 2], 0⟩, ⟨.bool, [1, 3], 0⟩, ⟨.int, [5], 0⟩]
def fhFlightS : List FD := [⟨.int, [0], 0⟩, ⟨.str, [1, 0], 0⟩, ⟨.sub mfByteS, [1, 1], 51⟩, ⟨.int, [1, 2], 0⟩, ⟨.bool, [1, 3], 0⟩, ⟨.int, [5], 0⟩]
def mfFlightS : List MF := fdFlightS.map FD.f
def smFlight (x : FlightV) : Prop := x.fM.fBody.size ≤ 1048576 ∧ True
theorem mk_FlightS (n : Nat) (hn : 1048576 < n) : MarkOk (n + 3) 34 43 mfFlightS :=
  mark_ok (n := n + 2) (tI := 3) (w := 6) (cty := ctyFlight) (fds := fdFlightS) rfl rfl (mk_txt (n + 1) (by omega)) ⟨rfl, trivial, ⟨rfl, trivial, ⟨rfl, mk_ByteS (n + 0) (by omega), ⟨rfl, trivial, ⟨rfl, trivial, ⟨rfl, trivial, trivial⟩⟩⟩⟩⟩⟩ rfl ⟨_, _, rfl, rfl, rfl, rfl⟩ (by omega) (fun β kk => f34_l0 (PR (n + 2) β) (n + 2) kk) (fun β kk m a k i H => rfl) (fun β a b H kk => f34_eq (n + 2) a b H kk)
theorem hd_FlightS (n : Nat) (hn : 1048576 < n) : HeldOk (n + 3) 37 mfFlightS :=
  held_ok (n := n + 2) (tI := 3) (w := 6) (fds := fhFlightS) rfl (mk_txt (n + 1) (by omega)) ⟨rfl, trivial, ⟨rfl, trivial, ⟨rfl, hd_ByteS (n + 0) (by omega), ⟨rfl, trivial, ⟨rfl, trivial, ⟨rfl, trivial, trivial⟩⟩⟩⟩⟩⟩ rfl (by decide) (by omega) (fun kk => f37_l0 (PR (n + 2) AV) (n + 2) kk) (fun kk m a k i H => rfl) (fun a b H kk => f37_eq (n + 2) a b H kk)
theorem smwFlight (x : FlightV) (h : wtFlight x ≤ 1048576) : smFlight x := by
  have h0 := h
  unfold wtFlight wtMsg at h0
  exact ⟨by omega, trivial⟩
theorem wfFlight (x : FlightV) (h : smFlight x) : wfL mfFlightS (encFlight x) := by
  obtain ⟨h0, _⟩ := h
  exact wfL_cons.2 ⟨trivial, wfL_cons.2 ⟨trivial, wfL_cons.2 ⟨wf_bytes _ h0, wfL_cons.2 ⟨trivial, wfL_cons.2 ⟨trivial, wfL_cons.2 ⟨trivial, rfl⟩⟩⟩⟩⟩⟩
theorem cntFlight (x : FlightV) : cntL mfFlightS (encFlight x) ≤ 64 * (1 + wtFlight x) := by
  have c0 := cnt_bytes x.fM.fBody
  show 1 + (1 + (cntF (.sub mfByteS) (bytesC x.fM.fBody) + (1 + (1 + (1 + 0))))) ≤ _
  unfold wtFlight wtMsg
  omega

/-! Sess -/
def fdSessS : List FD := [⟨.str, [0], 0⟩, ⟨.int, [1], 0⟩, ⟨.bool, [2], 0⟩, ⟨.int, [3], 0⟩, ⟨.int, [4], 0⟩, ⟨.int, [5, 0], 0⟩, ⟨.sub mfFlightS, [5, 1], 34⟩, ⟨.sub mfMsgS, [5, 2], 35⟩, ⟨.sub mfIntS, [8], 36⟩]
def fhSessS : List FD := [⟨.str, [0], 0⟩, ⟨.int, [1], 0⟩, ⟨.bool, [2], 0⟩, ⟨.int, [3], 0⟩, ⟨.int, [4], 0⟩, ⟨.int, [5, 0], 0⟩, ⟨.sub mfFlightS, [5, 1], 37⟩, ⟨.sub mfMsgS, [5, 2], 38⟩, ⟨.sub mfIntS, [8], 39⟩]
def mfSessS : List MF := fdSessS.map FD.f
def smSess (x : SessV) : Prop := (x.fO.fFl.length ≤ 1048576 ∧ ∀ y ∈ x.fO.fFl, smFlight y) ∧ (x.fO.fQ.length ≤ 1048576 ∧ ∀ y ∈ x.fO.fQ, smMsg y) ∧ x.fIn.length ≤ 1048576 ∧ True
theorem mk_SessS (n : Nat) (hn : 1048576 < n) : MarkOk (n + 4) 24 26 mfSessS :=
  mark_ok (n := n + 3) (tI := 3) (w := 9) (cty := ctySess) (fds := fdSessS) rfl rfl (mk_txt (n + 2) (by omega)) ⟨rfl, trivial, ⟨rfl, trivial, ⟨rfl, trivial, ⟨rfl, trivial, ⟨rfl, trivial, ⟨rfl, trivial, ⟨rfl, mk_FlightS (n + 0) (by omega), ⟨rfl, mk_MsgS (n + 0) (by omega), ⟨rfl, mk_IntS (n + 1) (by omega), trivial⟩⟩⟩⟩⟩⟩⟩⟩⟩ rfl ⟨_, _, rfl, rfl, rfl, rfl⟩ (by omega) (fun β kk => f24_l0 (PR (n + 3) β) (n + 3) kk) (fun β kk m a k i H => rfl) (fun β a b H kk => f24_eq (n + 3) a b H kk)
theorem hd_SessS (n : Nat) (hn : 1048576 < n) : HeldOk (n + 4) 25 mfSessS :=
  held_ok (n := n + 3) (tI := 3) (w := 9) (fds := fhSessS) rfl (mk_txt (n + 2) (by omega)) ⟨rfl, trivial, ⟨rfl, trivial, ⟨rfl, trivial, ⟨rfl, trivial, ⟨rfl, trivial, ⟨rfl, trivial, ⟨rfl, hd_FlightS (n + 0) (by omega), ⟨rfl, hd_MsgS (n + 0) (by omega), ⟨rfl, hd_IntS (n + 1) (by omega), trivial⟩⟩⟩⟩⟩⟩⟩⟩⟩ rfl (by decide) (by omega) (fun kk => f25_l0 (PR (n + 3) AV) (n + 3) kk) (fun kk m a k i H => rfl) (fun a b H kk => f25_eq (n + 3) a b H kk)
theorem smwSess (x : SessV) (h : wtSess x ≤ 1048576) : smSess x := by
  have e0 := wtL_eq wtFlight x.fO.fFl
  have e1 := wtL_eq wtMsg x.fO.fQ
  have h0 := h
  unfold wtSess wtOut at h0
  exact ⟨smwS smFlight smwFlight _ (by omega), smwS smMsg smwMsg _ (by omega), by omega, trivial⟩
theorem wfSess (x : SessV) (h : smSess x) : wfL mfSessS (encSess x) := by
  obtain ⟨h0, h1, h2, _⟩ := h
  exact wfL_cons.2 ⟨trivial, wfL_cons.2 ⟨trivial, wfL_cons.2 ⟨trivial, wfL_cons.2 ⟨trivial, wfL_cons.2 ⟨trivial, wfL_cons.2 ⟨trivial, wfL_cons.2 ⟨wf_rows _ h0.1 fun y hy => wfFlight y (h0.2 y hy), wfL_cons.2 ⟨wf_rows _ h1.1 fun y hy => wfMsg y (h1.2 y hy), wfL_cons.2 ⟨wf_ints _ h2, rfl⟩⟩⟩⟩⟩⟩⟩⟩⟩
theorem cntSess (x : SessV) : cntL mfSessS (encSess x) ≤ 64 * (1 + wtSess x) := by
  have c0 := cnt_rows (fs := mfFlightS) (wt := wtFlight) x.fO.fFl (fun y _ => rfl) (fun y _ => cntFlight y)
  have c1 := cnt_rows (fs := mfMsgS) (wt := wtMsg) x.fO.fQ (fun y _ => rfl) (fun y _ => cntMsg y)
  have c2 := cnt_ints x.fIn
  show 1 + (1 + (1 + (1 + (1 + (1 + (cntF (.sub mfFlightS) (rowsC encFlight x.fO.fFl) + (cntF (.sub mfMsgS) (rowsC encMsg x.fO.fQ) + (cntF (.sub mfIntS) (intsC x.fIn) + 0)))))))) ≤ _
  unfold wtSess wtOut
  omega

/-! Stripe -/
def fdStripeS : List FD := [⟨.int, [0], 0⟩, ⟨.sub mfSessS, [1], 24⟩]
def fhStripeS : List FD := [⟨.int, [0], 0⟩, ⟨.sub mfSessS, [1], 25⟩]
def mfStripeS : List MF := fdStripeS.map FD.f
def smStripe (x : StripeV) : Prop := (x.fL.length ≤ 1048576 ∧ ∀ y ∈ x.fL, smSess y) ∧ True
theorem smwStripe (x : StripeV) (h : wtStripe x ≤ 1048576) : smStripe x := by
  have e0 := wtL_eq wtSess x.fL
  have h0 := h
  unfold wtStripe at h0
  exact ⟨smwS smSess smwSess _ (by omega), trivial⟩
theorem wfStripe (x : StripeV) (h : smStripe x) : wfL mfStripeS (encStripe x) := by
  obtain ⟨h0, _⟩ := h
  exact wfL_cons.2 ⟨trivial, wfL_cons.2 ⟨wf_rows _ h0.1 fun y hy => wfSess y (h0.2 y hy), rfl⟩⟩
theorem cntStripe (x : StripeV) : cntL mfStripeS (encStripe x) ≤ 64 * (1 + wtStripe x) := by
  have c0 := cnt_rows (fs := mfSessS) (wt := wtSess) x.fL (fun y _ => rfl) (fun y _ => cntSess y)
  show 1 + (cntF (.sub mfSessS) (rowsC encSess x.fL) + 0) ≤ _
  unfold wtStripe
  omega
def fvStripe : List FV := [.skip, .sub mfSessS [1] 24]
def fwStripe : List FV := [.skip, .sub mfSessS [1] 25]
def mvStripe : List MF := flatV fvStripe
theorem wfvStripe (x : StripeV) (h : smStripe x) : wfL mvStripe (encStripe x) := by
  obtain ⟨h0, _⟩ := h
  exact wfL_cons.2 ⟨rfl, wfL_cons.2 ⟨wf_rows _ h0.1 fun y hy => wfSess y (h0.2 y hy), rfl⟩⟩
theorem cntvStripe (x : StripeV) : cntL mvStripe (encStripe x) ≤ 64 * wtStripe x := by
  have c0 := cnt_rows (fs := mfSessS) (wt := wtSess) x.fL (fun y _ => rfl) (fun y _ => cntSess y)
  show 0 + (cntF (.sub mfSessS) (rowsC encSess x.fL) + 0) ≤ _
  unfold wtStripe
  omega
theorem lf_Stripe : ∀ (cs : List AV) (N : Nat), wfL mvStripe cs → (instL ti0 E0.tp N ctyStripe cs).1.all isLeaf = true := fun cs N h => instL_leaf _ _ _ (wfv_fl cs mvStripe h rfl)
theorem mk_StripeV (n : Nat) (hn : 1048576 < n) : MarkV (n + 5) 11 ctyStripe mvStripe :=
  markv_ok (n := n + 4) (tI := 3) (fvs := fvStripe) rfl rfl ⟨rfl, mk_SessS (n + 0) (by omega), trivial⟩ rfl lf_Stripe (fun β a b H kk => f11_eq (n + 4) a b H kk)
theorem hd_StripeV (n : Nat) (hn : 1048576 < n) : HeldV (n + 5) 12 mvStripe :=
  heldv_ok (n := n + 4) (tI := 3) (fvs := fwStripe) rfl ⟨rfl, hd_SessS (n + 0) (by omega), trivial⟩ rfl (fun a b H kk => f12_eq (n + 4) a b H kk)

end Go.Proofs.Ytfpmccedangjoaa.Abs
