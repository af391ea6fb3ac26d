/- What the proof needs, part 6: a sound evaluator over trees, the program's functions on it, and what they come to. -/
import Derived.Test.YtjiahcekpohehaaGreatDoorMte
import Derived.Test.YtjiahcekpohehaaGreatDoorRows
import Derived.Test.YtjiahcekpohehaaGreatDoorTie
import Derived.Test.YtjiahcekpohehaaGreatDoorCards
import Derived.Lib.LaidIn
import Derived.Lib.LaidU8T
import Derived.PinnedBridge
import Derived.SevenTiedAt
import Derived.Deep.DeepHandedRow
import Derived.Deep.DeepWitnessRowRef
import Derived.WalkKit
import Derived.ProofKit
import Derived.OpenShut
import Derived.ShutString
import Derived.ChangeOld
import Derived.Below
import Derived.SizedLaws
set_option linter.unusedVariables false
set_option linter.unusedSimpArgs false
set_option maxRecDepth 100000
set_option maxHeartbeats 3200000
namespace Go.Proofs.YtjiahcekpohehaaGreatDoor.Abs
section
open Go
def C3 (m : Fl) : Bool := (m.fTopic.toList == (⟨#[]⟩ : ByteArray).toList) && (decide (((m.fBody.size : Nat) : Int) = 0) && (decide (m.fQos = 0) && !m.fRetain))
def Jj (s : ByteArray) : Bool := Bi s && !(s.toList == (⟨#[]⟩ : ByteArray).toList)
def Cu (s : Jm) : Bool := Jj s.fClient && (A5 s.fQos 0 2 && decide (0 ≤ s.fBorn))
def Dv (k : Int) : Int := if k = 1 then 1 else if k = 3 then 2 else if k = 8 then 3 else if k = 10 then 4 else if k = 4 ∨ k = 5 ∨ k = 6 ∨ k = 7 then 5 else 0
def Cm (op pc : Int) : Bool := if op = 1 ∨ op = 2 then A5 pc 0 5 else if op = 3 then A5 pc 0 4 else if op = 4 then A5 pc 0 3 else if op = 5 then A5 pc 0 1 else if op = 6 then A5 pc 0 3 || A5 pc 6 10 else if op = 7 then decide (pc = 1) else decide (op = 0) && decide (pc = 0)
def Ch (t : D3) : Bool := decide (t.fOp = 0) && (decide (t.fPc = 0) && ((t.fClient.toList == (⟨#[]⟩ : ByteArray).toList) && (A3 t.fP Kk && (decide (((t.fTo.length : Nat) : Int) = 0) && (C3 t.fM && (decide (((t.fKs.length : Nat) : Int) = 0) && decide (t.fH = 0)))))))
def Qx (t : D3) : Bool := ((!(Cm t.fOp t.fPc) || !(Bi t.fClient)) || ((t.fClient.toList == (⟨#[]⟩ : ByteArray).toList) && !(decide (t.fOp = 6) && decide (t.fPc = 0)))) || decide (t.fH < 0)
def Hh (t : D3) : Bool := (decide (t.fOp = 2) && decide (t.fPc = 5)) || (decide (t.fOp = 6) && decide (t.fPc = 10))
def Ga (t : D3) : Bool := if (decide (t.fOp = 7) && !(decide (t.fH = 0))) = true then false else
 if A5 t.fOp 1 5 = true then (((Ai t.fP && decide (Dv t.fP.fType = t.fOp)) && (Ce t.fM || C3 t.fM)) && t.fKs.all Ce) && (decide (0 < ((t.fTo.length : Nat) : Int)) || !Hh t)
 else ((A3 t.fP Kk && (Ce t.fM || C3 t.fM)) && t.fKs.all Ce) && (decide (0 < ((t.fTo.length : Nat) : Int)) || !Hh t)
def F1 (t : D3) : Bool := if decide (t.fOp = 0) = true then Ch t else if Qx t = true then false else t.fTo.all Cu && Ga t
structure Nx (t : D3) : Prop where
 hp : Hi t.fP
 c1 : t.fClient.size ≤ 1048576
 m1 : t.fM.fTopic.size ≤ 1048576
 l1 : t.fTo.length ≤ 1048576
 l2 : t.fKs.length ≤ 1048576
 s1 : ∀ y ∈ t.fTo, y.fClient.size ≤ 1048576
 k1 : ∀ y ∈ t.fKs, y.fTopic.size ≤ 1048576
theorem Acd (t : D3) (b : Fs t ≤ 1048576) : Nx t := by
 have e0 : Fs t = t.fClient.size + (C6 t.fP + (Om Hd t.fTo + (Fd t.fM + (Om Fd t.fKs + 0)))) := rfl
 have e1 := Fc Hd t.fTo
 have e3 : Fd t.fM = t.fM.fTopic.size + (t.fM.fBody.size + 0) := rfl
 have q := Aah t.fKs (by omega)
 refine ⟨Agd _ (by omega), by omega, by omega, by omega, q.1, fun y hy => ?_, q.2⟩
 have := Gu (wt := Hd) hy
 have h3 : Hd y = y.fClient.size + 0 := rfl
 omega
def AfS : Fl := ⟨⟨#[]⟩, ⟨#[]⟩, 0, false⟩
def Ia (a b : Fl) : Bool := (a.fTopic.toList == b.fTopic.toList) && ((a.fBody.toList == b.fBody.toList) && (decide (a.fQos = b.fQos) && (a.fRetain == b.fRetain)))
theorem AgF (m : Fl) : Ia m AfS = C3 m := by
 have e : (m.fBody.toList == (⟨#[]⟩ : ByteArray).toList) = decide (((m.fBody.size : Nat) : Int) = 0) := by
  rw [ByteArray.toList_eq, ByteArray.toList_eq, Bool.eq_iff_iff, beq_iff_eq, decide_eq_true_eq]
  have e1 : m.fBody.data.toList.length = m.fBody.size := Array.length_toList
  constructor
  ·intro h
   have := congrArg List.length h
   rw [e1] at this
   simpa using this
  ·intro h
   exact List.eq_nil_of_length_eq_zero (by omega)
 show ((m.fTopic.toList == (⟨#[]⟩ : ByteArray).toList) && ((m.fBody.toList == (⟨#[]⟩ : ByteArray).toList) && (decide (m.fQos = 0) && (m.fRetain == false)))) = _
 rw [e]
 unfold C3
 cases m.fRetain <;> rfl
theorem AdS (n : Nat) (hn : 1048576 < n) (s : ByteArray) (hc : s.size ≤ 1048576) : Bv E0 (n + 2) 4 172 [.sc (.string s)] = some (.sc (.bool (Jj s))) := by
 rw [Av, Adb, f172]
 refine De (G := (· = some (.sc (.bool (Jj s))))) ?_
 try simp only [A2, A1, Be]
 have s0 : Sep [] [] := Dd
 refine Iq rfl rfl (E2 _ s (Gr hc)) ?_
 refine Ac ((Bi s)) (fun h1 => ?_) (fun h1 => ?_)
 ·refine Ae h1 ?_
  refine Ae h1 ?_
  refine Lz ?_
  refine Bj h1 ?_
  refine Aj rfl ?_
  have e : Jj s = (!(s.toList == (⟨#[]⟩ : ByteArray).toList)) := by
   clear s0
   try simp only [decide_eq_true_eq, decide_eq_false_iff_not] at h1
   unfold Jj
   first | (simp [h1]; done) | (simp_all; done) | (simp_all; omega)
  rw [e]
  first | done | rfl
 ·refine Aa h1 ?_
  refine Aa h1 ?_
  refine An h1 ?_
  refine Aj rfl ?_
  have e : Jj s = false := by
   clear s0
   try simp only [decide_eq_true_eq, decide_eq_false_iff_not] at h1
   unfold Jj
   first | (simp [h1]; done) | (simp_all; done) | (simp_all; omega)
  rw [e]
  first | done | rfl
theorem Abz (n : Nat) (hn : 1048576 < n) (s : Jm) (hc : s.fClient.size ≤ 1048576) : Bv E0 (n + 5) 4 148 [.agg (C0 s)] = some (.sc (.bool (Cu s))) := by
 rw [Av, AcU, f148]
 refine De (G := (· = some (.sc (.bool (Cu s))))) ?_
 try simp only [Cl, A8, Az, A2, A1, Be]
 have s0 : Sep [] [] := Dd
 refine Hz s0 (Dr (I4 _)) fun i1 H s2 => ?_
 refine Ad (o' := 0) rfl ?_
 refine Al (c := .sc (.string s.fClient)) s2 (.here) rfl ?_
 refine Ah (v := (.bool (Jj s.fClient))) s2 rfl (.cons .sc .nil) (AdS (n + 2) (by omega) s.fClient hc) ?_
 refine Ac ((Jj s.fClient)) (fun h3 => ?_) (fun h3 => ?_)
 ·refine Ae h3 ?_
  refine Ad (o' := 1) rfl ?_
  refine Ae h3 ?_
  refine Al (c := .sc (.int .i64 s.fQos)) s2 (.here) rfl ?_
  refine Ae h3 ?_
  refine Ah (v := (.bool (A5 s.fQos 0 2))) s2 rfl (.cons .sc .nil) (Ld (n + 2) s.fQos) ?_
  refine Bj h3 ?_
  refine Ac ((A5 s.fQos 0 2)) (fun h4 => ?_) (fun h4 => ?_)
  ·refine Ae h4 ?_
   refine Ad (o' := 2) rfl ?_
   refine Ae h4 ?_
   refine Al (c := .sc (.int .i64 s.fBorn)) s2 (.here) rfl ?_
   refine Ae h4 ?_
   refine AeW ?_
   refine Bj h4 ?_
   refine Aj rfl ?_
   have e : Cu s = (decide (0 ≤ s.fBorn)) := by
    clear s0 s2
    try simp only [decide_eq_true_eq, decide_eq_false_iff_not] at h3 h4
    unfold Cu
    first | (simp [h3, h4]; done) | (simp_all; done) | (simp_all; omega)
   rw [e]
   first | done | rfl
  ·refine Aa h4 ?_
   refine Aa h4 ?_
   refine Aa h4 ?_
   refine An h4 ?_
   refine Aj rfl ?_
   have e : Cu s = false := by
    clear s0 s2
    try simp only [decide_eq_true_eq, decide_eq_false_iff_not] at h3 h4
    unfold Cu
    first | (simp [h3, h4]; done) | (simp_all; done) | (simp_all; omega)
   rw [e]
   first | done | rfl
 ·refine Aa h3 ?_
  refine Aa h3 ?_
  refine Aa h3 ?_
  refine An h3 ?_
  refine Aa rfl ?_
  refine Aa rfl ?_
  refine Aa rfl ?_
  refine An rfl ?_
  refine Aj rfl ?_
  have e : Cu s = false := by
   clear s0 s2
   try simp only [decide_eq_true_eq, decide_eq_false_iff_not] at h3
   unfold Cu
   first | (simp [h3]; done) | (simp_all; done) | (simp_all; omega)
  rw [e]
  first | done | rfl
theorem AbS (n : Nat) (hn : 1048576 < n) (s : Jm) (hc : s.fClient.size ≤ 1048576) : Bv E0 (n + 5) 4 138 [.agg (C0 s)] = some (.sc (.bool (Cu s))) := by
 rw [Av, AcL, f138]
 refine De (G := (· = some (.sc (.bool (Cu s))))) ?_
 try simp only [Cl, A8, Az, A2, A1, Be]
 have s0 : Sep [] [] := Dd
 refine Hz s0 (Dr (I4 _)) fun i1 H s2 => ?_
 refine Ad (o' := 0) rfl ?_
 refine Al (c := .sc (.string s.fClient)) s2 (.here) rfl ?_
 refine Ah (v := (.bool (Bi s.fClient))) s2 rfl (.cons .sc .nil) (Ef n (by omega) _ s.fClient) ?_
 refine Ac ((Bi s.fClient)) (fun h3 => ?_) (fun h3 => ?_)
 ·refine Ae h3 ?_
  refine Ad (o' := 0) rfl ?_
  refine Ae h3 ?_
  refine Al (c := .sc (.string s.fClient)) s2 (.here) rfl ?_
  refine Ae h3 ?_
  refine Lz ?_
  refine Bj h3 ?_
  refine Ac ((s.fClient.toList == (⟨#[]⟩ : ByteArray).toList)) (fun h4 => ?_) (fun h4 => ?_)
  ·refine Aa (nF h4) ?_
   refine Aa (nF h4) ?_
   refine Aa (nF h4) ?_
   refine An (nF h4) ?_
   refine Aa rfl ?_
   refine Aa rfl ?_
   refine Aa rfl ?_
   refine An rfl ?_
   refine Aj rfl ?_
   have e : Cu s = false := by
    clear s0 s2
    try simp only [decide_eq_true_eq, decide_eq_false_iff_not] at h3 h4
    unfold Cu Jj
    first | (simp [h3, h4]; done) | (simp_all; done) | (simp_all; omega)
   rw [e]
   first | done | rfl
  ·refine Ae (nT h4) ?_
   refine Ad (o' := 1) rfl ?_
   refine Ae (nT h4) ?_
   refine Al (c := .sc (.int .i64 s.fQos)) s2 (.here) rfl ?_
   refine Ae (nT h4) ?_
   refine Ah (v := (.bool (A5 s.fQos 0 2))) s2 rfl (.cons .sc (.cons .sc (.cons .sc .nil))) (Dh (n + 3) _ s.fQos 0 2) ?_
   refine Bj (nT h4) ?_
   refine Ac ((A5 s.fQos 0 2)) (fun h5 => ?_) (fun h5 => ?_)
   ·refine Ae h5 ?_
    refine Ad (o' := 2) rfl ?_
    refine Ae h5 ?_
    refine Al (c := .sc (.int .i64 s.fBorn)) s2 (.here) rfl ?_
    refine Ae h5 ?_
    refine AeW ?_
    refine Bj h5 ?_
    refine Aj rfl ?_
    have e : Cu s = (decide (0 ≤ s.fBorn)) := by
     clear s0 s2
     try simp only [decide_eq_true_eq, decide_eq_false_iff_not] at h3 h4 h5
     unfold Cu Jj
     first | (simp [h3, h4, h5]; done) | (simp_all; done) | (simp_all; omega)
    rw [e]
    first | done | rfl
   ·refine Aa h5 ?_
    refine Aa h5 ?_
    refine Aa h5 ?_
    refine An h5 ?_
    refine Aj rfl ?_
    have e : Cu s = false := by
     clear s0 s2
     try simp only [decide_eq_true_eq, decide_eq_false_iff_not] at h3 h4 h5
     unfold Cu Jj
     first | (simp [h3, h4, h5]; done) | (simp_all; done) | (simp_all; omega)
    rw [e]
    first | done | rfl
 ·refine Aa h3 ?_
  refine Aa h3 ?_
  refine Aa h3 ?_
  refine An h3 ?_
  refine Aa rfl ?_
  refine Aa rfl ?_
  refine Aa rfl ?_
  refine An rfl ?_
  refine Aa rfl ?_
  refine Aa rfl ?_
  refine Aa rfl ?_
  refine An rfl ?_
  refine Aj rfl ?_
  have e : Cu s = false := by
   clear s0 s2
   try simp only [decide_eq_true_eq, decide_eq_false_iff_not] at h3
   unfold Cu Jj
   first | (simp [h3]; done) | (simp_all; done) | (simp_all; omega)
  rw [e]
  first | done | rfl
theorem AdL (n : Nat) (hn : 1048576 < n) (op : Int) (pc : Int) : Bv E0 (n + 2) 4 146 [.sc (.int .i64 op), .sc (.int .i64 pc)] = some (.sc (.bool (Cm op pc))) := by
 rw [Av, AcT, f146]
 refine De (G := (· = some (.sc (.bool (Cm op pc))))) ?_
 try simp only [A2, Ay, A1, Be]
 have s0 : Sep [] [] := Dd
 refine Au ?_
 refine Fm ?_
 refine Ac ((decide (op = 1))) (fun h1 => ?_) (fun h1 => ?_)
 ·refine A0 h1 ?_
  refine A0 h1 ?_
  refine Ah (v := (.bool (A5 pc 0 5))) s0 rfl (.cons .sc (.cons .sc (.cons .sc .nil))) (Dx n _ pc 0 5) ?_
  refine Aj rfl ?_
  have e : Cm op pc = (A5 pc 0 5) := by
   clear s0
   try simp only [decide_eq_true_eq, decide_eq_false_iff_not] at h1
   unfold Cm
   first | (simp [h1]; done) | (simp_all; done) | (simp_all; omega)
  rw [e]
  first | done | rfl
 ·refine Bf h1 ?_
  refine Au ?_
  refine Ac ((decide (op = 2))) (fun h2 => ?_) (fun h2 => ?_)
  ·refine A0 h2 ?_
   refine Ah (v := (.bool (A5 pc 0 5))) s0 rfl (.cons .sc (.cons .sc (.cons .sc .nil))) (Dx n _ pc 0 5) ?_
   refine Aj rfl ?_
   have e : Cm op pc = (A5 pc 0 5) := by
    clear s0
    try simp only [decide_eq_true_eq, decide_eq_false_iff_not] at h1 h2
    unfold Cm
    first | (simp [h1, h2]; done) | (simp_all; done) | (simp_all; omega)
   rw [e]
   first | done | rfl
  ·refine Bf h2 ?_
   refine Au ?_
   refine Ac ((decide (op = 3))) (fun h3 => ?_) (fun h3 => ?_)
   ·refine A0 h3 ?_
    refine Ah (v := (.bool (A5 pc 0 4))) s0 rfl (.cons .sc (.cons .sc (.cons .sc .nil))) (Dx n _ pc 0 4) ?_
    refine Aj rfl ?_
    have e : Cm op pc = (A5 pc 0 4) := by
     clear s0
     try simp only [decide_eq_true_eq, decide_eq_false_iff_not] at h1 h2 h3
     unfold Cm
     first | (simp [h1, h2, h3]; done) | (simp_all; done) | (simp_all; omega)
    rw [e]
    first | done | rfl
   ·refine Bf h3 ?_
    refine Au ?_
    refine Ac ((decide (op = 4))) (fun h4 => ?_) (fun h4 => ?_)
    ·refine A0 h4 ?_
     refine Ah (v := (.bool (A5 pc 0 3))) s0 rfl (.cons .sc (.cons .sc (.cons .sc .nil))) (Dx n _ pc 0 3) ?_
     refine Aj rfl ?_
     have e : Cm op pc = (A5 pc 0 3) := by
      clear s0
      try simp only [decide_eq_true_eq, decide_eq_false_iff_not] at h1 h2 h3 h4
      unfold Cm
      first | (simp [h1, h2, h3, h4]; done) | (simp_all; done) | (simp_all; omega)
     rw [e]
     first | done | rfl
    ·refine Bf h4 ?_
     refine Au ?_
     refine Ac ((decide (op = 5))) (fun h5 => ?_) (fun h5 => ?_)
     ·refine A0 h5 ?_
      refine Ah (v := (.bool (A5 pc 0 1))) s0 rfl (.cons .sc (.cons .sc (.cons .sc .nil))) (Dx n _ pc 0 1) ?_
      refine Aj rfl ?_
      have e : Cm op pc = (A5 pc 0 1) := by
       clear s0
       try simp only [decide_eq_true_eq, decide_eq_false_iff_not] at h1 h2 h3 h4 h5
       unfold Cm
       first | (simp [h1, h2, h3, h4, h5]; done) | (simp_all; done) | (simp_all; omega)
      rw [e]
      first | done | rfl
     ·refine Bf h5 ?_
      refine Au ?_
      refine Ac ((decide (op = 6))) (fun h6 => ?_) (fun h6 => ?_)
      ·refine A0 h6 ?_
       refine Ah (v := (.bool (A5 pc 0 3))) s0 rfl (.cons .sc (.cons .sc (.cons .sc .nil))) (Dx n _ pc 0 3) ?_
       refine Ac ((A5 pc 0 3)) (fun h7 => ?_) (fun h7 => ?_)
       ·refine Aa h7 ?_
        refine Aa h7 ?_
        refine Bj h7 ?_
        refine Aj rfl ?_
        have e : Cm op pc = true := by
         clear s0
         try simp only [decide_eq_true_eq, decide_eq_false_iff_not] at h1 h2 h3 h4 h5 h6 h7
         unfold Cm
         first | (simp [h1, h2, h3, h4, h5, h6, h7]; done) | (simp_all; done) | (simp_all; omega)
        rw [e]
        first | done | rfl
       ·refine Ae h7 ?_
        refine Ae h7 ?_
        refine Ah (v := (.bool (A5 pc 6 10))) s0 rfl (.cons .sc (.cons .sc (.cons .sc .nil))) (Dx n _ pc 6 10) ?_
        refine An h7 ?_
        refine Aj rfl ?_
        have e : Cm op pc = (A5 pc 6 10) := by
         clear s0
         try simp only [decide_eq_true_eq, decide_eq_false_iff_not] at h1 h2 h3 h4 h5 h6 h7
         unfold Cm
         first | (simp [h1, h2, h3, h4, h5, h6, h7]; done) | (simp_all; done) | (simp_all; omega)
        rw [e]
        first | done | rfl
      ·refine Bf h6 ?_
       refine Au ?_
       refine Ac ((decide (op = 7))) (fun h8 => ?_) (fun h8 => ?_)
       ·refine A0 h8 ?_
        refine Au ?_
        refine Aj rfl ?_
        have e : Cm op pc = (decide (pc = 1)) := by
         clear s0
         try simp only [decide_eq_true_eq, decide_eq_false_iff_not] at h1 h2 h3 h4 h5 h6 h8
         unfold Cm
         first | (simp [h1, h2, h3, h4, h5, h6, h8]; done) | (simp_all; done) | (simp_all; omega)
        rw [e]
        first | done | rfl
       ·refine Bf h8 ?_
        refine Au ?_
        refine Ac ((decide (op = 0))) (fun h9 => ?_) (fun h9 => ?_)
        ·refine Ae h9 ?_
         refine Ae h9 ?_
         refine Au ?_
         refine Bj h9 ?_
         refine Aj rfl ?_
         have e : Cm op pc = (decide (pc = 0)) := by
          clear s0
          try simp only [decide_eq_true_eq, decide_eq_false_iff_not] at h1 h2 h3 h4 h5 h6 h8 h9
          unfold Cm
          first | (simp [h1, h2, h3, h4, h5, h6, h8, h9]; done) | (simp_all; done) | (simp_all; omega)
         rw [e]
         first | done | rfl
        ·refine Aa h9 ?_
         refine Aa h9 ?_
         refine An h9 ?_
         refine Aj rfl ?_
         have e : Cm op pc = false := by
          clear s0
          try simp only [decide_eq_true_eq, decide_eq_false_iff_not] at h1 h2 h3 h4 h5 h6 h8 h9
          unfold Cm
          first | (simp [h1, h2, h3, h4, h5, h6, h8, h9]; done) | (simp_all; done) | (simp_all; omega)
         rw [e]
         first | done | rfl
theorem Aek (n : Nat) (hn : 1048576 < n) (op : Int) (pc : Int) : Bv E0 (n + 2) 4 136 [.sc (.int .i64 op), .sc (.int .i64 pc)] = some (.sc (.bool (Cm op pc))) := by
 rw [Av, AcJ, f136]
 refine De (G := (· = some (.sc (.bool (Cm op pc))))) ?_
 try simp only [A2, Ay, A1, Be]
 have s0 : Sep [] [] := Dd
 refine Au ?_
 refine Fm ?_
 refine Ac ((decide (op = 1))) (fun h1 => ?_) (fun h1 => ?_)
 ·refine A0 h1 ?_
  refine A0 h1 ?_
  refine Ah (v := (.bool (A5 pc 0 5))) s0 rfl (.cons .sc (.cons .sc (.cons .sc .nil))) (Dh n _ pc 0 5) ?_
  refine Aj rfl ?_
  have e : Cm op pc = (A5 pc 0 5) := by
   clear s0
   try simp only [decide_eq_true_eq, decide_eq_false_iff_not] at h1
   unfold Cm
   first | (simp [h1]; done) | (simp_all; done) | (simp_all; omega)
  rw [e]
  first | done | rfl
 ·refine Bf h1 ?_
  refine Au ?_
  refine Ac ((decide (op = 2))) (fun h2 => ?_) (fun h2 => ?_)
  ·refine A0 h2 ?_
   refine Ah (v := (.bool (A5 pc 0 5))) s0 rfl (.cons .sc (.cons .sc (.cons .sc .nil))) (Dh n _ pc 0 5) ?_
   refine Aj rfl ?_
   have e : Cm op pc = (A5 pc 0 5) := by
    clear s0
    try simp only [decide_eq_true_eq, decide_eq_false_iff_not] at h1 h2
    unfold Cm
    first | (simp [h1, h2]; done) | (simp_all; done) | (simp_all; omega)
   rw [e]
   first | done | rfl
  ·refine Bf h2 ?_
   refine Au ?_
   refine Ac ((decide (op = 3))) (fun h3 => ?_) (fun h3 => ?_)
   ·refine A0 h3 ?_
    refine Ah (v := (.bool (A5 pc 0 4))) s0 rfl (.cons .sc (.cons .sc (.cons .sc .nil))) (Dh n _ pc 0 4) ?_
    refine Aj rfl ?_
    have e : Cm op pc = (A5 pc 0 4) := by
     clear s0
     try simp only [decide_eq_true_eq, decide_eq_false_iff_not] at h1 h2 h3
     unfold Cm
     first | (simp [h1, h2, h3]; done) | (simp_all; done) | (simp_all; omega)
    rw [e]
    first | done | rfl
   ·refine Bf h3 ?_
    refine Au ?_
    refine Ac ((decide (op = 4))) (fun h4 => ?_) (fun h4 => ?_)
    ·refine A0 h4 ?_
     refine Ah (v := (.bool (A5 pc 0 3))) s0 rfl (.cons .sc (.cons .sc (.cons .sc .nil))) (Dh n _ pc 0 3) ?_
     refine Aj rfl ?_
     have e : Cm op pc = (A5 pc 0 3) := by
      clear s0
      try simp only [decide_eq_true_eq, decide_eq_false_iff_not] at h1 h2 h3 h4
      unfold Cm
      first | (simp [h1, h2, h3, h4]; done) | (simp_all; done) | (simp_all; omega)
     rw [e]
     first | done | rfl
    ·refine Bf h4 ?_
     refine Au ?_
     refine Ac ((decide (op = 5))) (fun h5 => ?_) (fun h5 => ?_)
     ·refine A0 h5 ?_
      refine Ah (v := (.bool (A5 pc 0 1))) s0 rfl (.cons .sc (.cons .sc (.cons .sc .nil))) (Dh n _ pc 0 1) ?_
      refine Aj rfl ?_
      have e : Cm op pc = (A5 pc 0 1) := by
       clear s0
       try simp only [decide_eq_true_eq, decide_eq_false_iff_not] at h1 h2 h3 h4 h5
       unfold Cm
       first | (simp [h1, h2, h3, h4, h5]; done) | (simp_all; done) | (simp_all; omega)
      rw [e]
      first | done | rfl
     ·refine Bf h5 ?_
      refine Au ?_
      refine Ac ((decide (op = 6))) (fun h6 => ?_) (fun h6 => ?_)
      ·refine A0 h6 ?_
       refine Ah (v := (.bool (A5 pc 0 3))) s0 rfl (.cons .sc (.cons .sc (.cons .sc .nil))) (Dh n _ pc 0 3) ?_
       refine Ac ((A5 pc 0 3)) (fun h7 => ?_) (fun h7 => ?_)
       ·refine Aa h7 ?_
        refine Aa h7 ?_
        refine Bj h7 ?_
        refine Aj rfl ?_
        have e : Cm op pc = true := by
         clear s0
         try simp only [decide_eq_true_eq, decide_eq_false_iff_not] at h1 h2 h3 h4 h5 h6 h7
         unfold Cm
         first | (simp [h1, h2, h3, h4, h5, h6, h7]; done) | (simp_all; done) | (simp_all; omega)
        rw [e]
        first | done | rfl
       ·refine Ae h7 ?_
        refine Ae h7 ?_
        refine Ah (v := (.bool (A5 pc 6 10))) s0 rfl (.cons .sc (.cons .sc (.cons .sc .nil))) (Dh n _ pc 6 10) ?_
        refine An h7 ?_
        refine Aj rfl ?_
        have e : Cm op pc = (A5 pc 6 10) := by
         clear s0
         try simp only [decide_eq_true_eq, decide_eq_false_iff_not] at h1 h2 h3 h4 h5 h6 h7
         unfold Cm
         first | (simp [h1, h2, h3, h4, h5, h6, h7]; done) | (simp_all; done) | (simp_all; omega)
        rw [e]
        first | done | rfl
      ·refine Bf h6 ?_
       refine Au ?_
       refine Ac ((decide (op = 7))) (fun h8 => ?_) (fun h8 => ?_)
       ·refine A0 h8 ?_
        refine Au ?_
        refine Aj rfl ?_
        have e : Cm op pc = (decide (pc = 1)) := by
         clear s0
         try simp only [decide_eq_true_eq, decide_eq_false_iff_not] at h1 h2 h3 h4 h5 h6 h8
         unfold Cm
         first | (simp [h1, h2, h3, h4, h5, h6, h8]; done) | (simp_all; done) | (simp_all; omega)
        rw [e]
        first | done | rfl
       ·refine Bf h8 ?_
        refine Au ?_
        refine Ac ((decide (op = 0))) (fun h9 => ?_) (fun h9 => ?_)
        ·refine Ae h9 ?_
         refine Ae h9 ?_
         refine Au ?_
         refine Bj h9 ?_
         refine Aj rfl ?_
         have e : Cm op pc = (decide (pc = 0)) := by
          clear s0
          try simp only [decide_eq_true_eq, decide_eq_false_iff_not] at h1 h2 h3 h4 h5 h6 h8 h9
          unfold Cm
          first | (simp [h1, h2, h3, h4, h5, h6, h8, h9]; done) | (simp_all; done) | (simp_all; omega)
         rw [e]
         first | done | rfl
        ·refine Aa h9 ?_
         refine Aa h9 ?_
         refine An h9 ?_
         refine Aj rfl ?_
         have e : Cm op pc = false := by
          clear s0
          try simp only [decide_eq_true_eq, decide_eq_false_iff_not] at h1 h2 h3 h4 h5 h6 h8 h9
          unfold Cm
          first | (simp [h1, h2, h3, h4, h5, h6, h8, h9]; done) | (simp_all; done) | (simp_all; omega)
         rw [e]
         first | done | rfl
theorem Aga (n : Nat) (hn : 1048576 < n) (k : Int) : Bv E0 (n + 1) 3 150 [.sc (.int .i64 k)] = some (.sc (.int .i64 (Dv k))) := by
 rw [Av, AcW, f150]
 refine De (G := (· = some (.sc (.int .i64 (Dv k))))) ?_
 try simp only [A2, Ay]
 have s0 : Sep [] [] := Dd
 refine Au ?_
 refine Ac ((decide (k = 1))) (fun h1 => ?_) (fun h1 => ?_)
 ·refine A0 h1 ?_
  refine Aj rfl ?_
  have e : Dv k = 1 := by
   clear s0
   try simp only [decide_eq_true_eq, decide_eq_false_iff_not] at h1
   unfold Dv
   first | (simp [h1]; done) | (simp_all; done) | (simp_all; omega)
  rw [e]
  first | done | rfl
 ·refine Bf h1 ?_
  refine Au ?_
  refine Ac ((decide (k = 3))) (fun h2 => ?_) (fun h2 => ?_)
  ·refine A0 h2 ?_
   refine Aj rfl ?_
   have e : Dv k = 2 := by
    clear s0
    try simp only [decide_eq_true_eq, decide_eq_false_iff_not] at h1 h2
    unfold Dv
    first | (simp [h1, h2]; done) | (simp_all; done) | (simp_all; omega)
   rw [e]
   first | done | rfl
  ·refine Bf h2 ?_
   refine Au ?_
   refine Ac ((decide (k = 8))) (fun h3 => ?_) (fun h3 => ?_)
   ·refine A0 h3 ?_
    refine Aj rfl ?_
    have e : Dv k = 3 := by
     clear s0
     try simp only [decide_eq_true_eq, decide_eq_false_iff_not] at h1 h2 h3
     unfold Dv
     first | (simp [h1, h2, h3]; done) | (simp_all; done) | (simp_all; omega)
    rw [e]
    first | done | rfl
   ·refine Bf h3 ?_
    refine Au ?_
    refine Ac ((decide (k = 10))) (fun h4 => ?_) (fun h4 => ?_)
    ·refine A0 h4 ?_
     refine Aj rfl ?_
     have e : Dv k = 4 := by
      clear s0
      try simp only [decide_eq_true_eq, decide_eq_false_iff_not] at h1 h2 h3 h4
      unfold Dv
      first | (simp [h1, h2, h3, h4]; done) | (simp_all; done) | (simp_all; omega)
     rw [e]
     first | done | rfl
    ·refine Bf h4 ?_
     refine Au ?_
     refine Fm ?_
     refine Ac ((decide (k = 4))) (fun h5 => ?_) (fun h5 => ?_)
     ·refine A0 h5 ?_
      refine A0 h5 ?_
      refine Aj rfl ?_
      have e : Dv k = 5 := by
       clear s0
       try simp only [decide_eq_true_eq, decide_eq_false_iff_not] at h1 h2 h3 h4 h5
       unfold Dv
       first | (simp [h1, h2, h3, h4, h5]; done) | (simp_all; done) | (simp_all; omega)
      rw [e]
      first | done | rfl
     ·refine Bf h5 ?_
      refine Au ?_
      refine Ac ((decide (k = 5))) (fun h6 => ?_) (fun h6 => ?_)
      ·refine A0 h6 ?_
       refine A0 h6 ?_
       refine Aj rfl ?_
       have e : Dv k = 5 := by
        clear s0
        try simp only [decide_eq_true_eq, decide_eq_false_iff_not] at h1 h2 h3 h4 h5 h6
        unfold Dv
        first | (simp [h1, h2, h3, h4, h5, h6]; done) | (simp_all; done) | (simp_all; omega)
       rw [e]
       first | done | rfl
      ·refine Bf h6 ?_
       refine Au ?_
       refine Ac ((decide (k = 6))) (fun h7 => ?_) (fun h7 => ?_)
       ·refine A0 h7 ?_
        refine A0 h7 ?_
        refine Aj rfl ?_
        have e : Dv k = 5 := by
         clear s0
         try simp only [decide_eq_true_eq, decide_eq_false_iff_not] at h1 h2 h3 h4 h5 h6 h7
         unfold Dv
         first | (simp [h1, h2, h3, h4, h5, h6, h7]; done) | (simp_all; done) | (simp_all; omega)
        rw [e]
        first | done | rfl
       ·refine Bf h7 ?_
        refine Au ?_
        refine Ac ((decide (k = 7))) (fun h8 => ?_) (fun h8 => ?_)
        ·refine A0 h8 ?_
         refine Aj rfl ?_
         have e : Dv k = 5 := by
          clear s0
          try simp only [decide_eq_true_eq, decide_eq_false_iff_not] at h1 h2 h3 h4 h5 h6 h7 h8
          unfold Dv
          first | (simp [h1, h2, h3, h4, h5, h6, h7, h8]; done) | (simp_all; done) | (simp_all; omega)
         rw [e]
         first | done | rfl
        ·refine Bf h8 ?_
         refine Aj rfl ?_
         have e : Dv k = 0 := by
          clear s0
          try simp only [decide_eq_true_eq, decide_eq_false_iff_not] at h1 h2 h3 h4 h5 h6 h7 h8
          unfold Dv
          first | (simp [h1, h2, h3, h4, h5, h6, h7, h8]; done) | (simp_all; done) | (simp_all; omega)
         rw [e]
         first | done | rfl
def Ge (op k : Int) : Bool := if op = 1 then decide (k = 1) else if op = 2 then decide (k = 3) else if op = 3 then decide (k = 8) else if op = 4 then decide (k = 10) else decide (op = 5) && A5 k 4 7
theorem AdF (op k : Int) (h : A5 op 1 5 = true) : Ge op k = decide (Dv k = op) := by
 have h5 : 1 ≤ op ∧ op ≤ 5 := by simpa [A5] using h
 unfold Ge Dv A5
 rcases (by omega : op = 1 ∨ op = 2 ∨ op = 3 ∨ op = 4 ∨ op = 5) with rfl | rfl | rfl | rfl | rfl <;> simp <;> (repeat' split) <;> simp_all <;> omega
theorem Ag0 (n : Nat) (hn : 1048576 < n) (op : Int) (k : Int) : Bv E0 (n + 2) 4 140 [.sc (.int .i64 op), .sc (.int .i64 k)] = some (.sc (.bool (Ge op k))) := by
 rw [Av, AcN, f140]
 refine De (G := (· = some (.sc (.bool (Ge op k))))) ?_
 try simp only [A2, Ay, A1, Be]
 have s0 : Sep [] [] := Dd
 refine Au ?_
 refine Ac ((decide (op = 1))) (fun h1 => ?_) (fun h1 => ?_)
 ·refine A0 h1 ?_
  refine Au ?_
  refine Aj rfl ?_
  have e : Ge op k = (decide (k = 1)) := by
   clear s0
   try simp only [decide_eq_true_eq, decide_eq_false_iff_not] at h1
   unfold Ge
   first | (simp [h1]; done) | (simp_all; done) | (simp_all; omega)
  rw [e]
  first | done | rfl
 ·refine Bf h1 ?_
  refine Au ?_
  refine Ac ((decide (op = 2))) (fun h2 => ?_) (fun h2 => ?_)
  ·refine A0 h2 ?_
   refine Au ?_
   refine Aj rfl ?_
   have e : Ge op k = (decide (k = 3)) := by
    clear s0
    try simp only [decide_eq_true_eq, decide_eq_false_iff_not] at h1 h2
    unfold Ge
    first | (simp [h1, h2]; done) | (simp_all; done) | (simp_all; omega)
   rw [e]
   first | done | rfl
  ·refine Bf h2 ?_
   refine Au ?_
   refine Ac ((decide (op = 3))) (fun h3 => ?_) (fun h3 => ?_)
   ·refine A0 h3 ?_
    refine Au ?_
    refine Aj rfl ?_
    have e : Ge op k = (decide (k = 8)) := by
     clear s0
     try simp only [decide_eq_true_eq, decide_eq_false_iff_not] at h1 h2 h3
     unfold Ge
     first | (simp [h1, h2, h3]; done) | (simp_all; done) | (simp_all; omega)
    rw [e]
    first | done | rfl
   ·refine Bf h3 ?_
    refine Au ?_
    refine Ac ((decide (op = 4))) (fun h4 => ?_) (fun h4 => ?_)
    ·refine A0 h4 ?_
     refine Au ?_
     refine Aj rfl ?_
     have e : Ge op k = (decide (k = 10)) := by
      clear s0
      try simp only [decide_eq_true_eq, decide_eq_false_iff_not] at h1 h2 h3 h4
      unfold Ge
      first | (simp [h1, h2, h3, h4]; done) | (simp_all; done) | (simp_all; omega)
     rw [e]
     first | done | rfl
    ·refine Bf h4 ?_
     refine Au ?_
     refine Ac ((decide (op = 5))) (fun h5 => ?_) (fun h5 => ?_)
     ·refine Ae h5 ?_
      refine Ae h5 ?_
      refine Ah (v := (.bool (A5 k 4 7))) s0 rfl (.cons .sc (.cons .sc (.cons .sc .nil))) (Dh n _ k 4 7) ?_
      refine Bj h5 ?_
      refine Aj rfl ?_
      have e : Ge op k = (A5 k 4 7) := by
       clear s0
       try simp only [decide_eq_true_eq, decide_eq_false_iff_not] at h1 h2 h3 h4 h5
       unfold Ge
       first | (simp [h1, h2, h3, h4, h5]; done) | (simp_all; done) | (simp_all; omega)
      rw [e]
      first | done | rfl
     ·refine Aa h5 ?_
      refine Aa h5 ?_
      refine An h5 ?_
      refine Aj rfl ?_
      have e : Ge op k = false := by
       clear s0
       try simp only [decide_eq_true_eq, decide_eq_false_iff_not] at h1 h2 h3 h4 h5
       unfold Ge
       first | (simp [h1, h2, h3, h4, h5]; done) | (simp_all; done) | (simp_all; omega)
      rw [e]
      first | done | rfl
theorem AbC (n : Nat) (hn : 1048576 < n) (m : Fl) : Bv E0 (n + 1) 4 142 [.agg (B8 m)] = some (.sc (.bool (C3 m))) := by
 rw [Av, AcP, f142]
 refine De (G := (· = some (.sc (.bool (C3 m))))) ?_
 try simp only [Cl, A8, Az, A2, Cr, A1, Be, Bu]
 have s0 : Sep [] [] := Dd
 refine Hz s0 (Dr (Eo _)) fun i1 H s2 => ?_
 refine Ad (o' := 0) rfl ?_
 refine Al (c := .sc (.string m.fTopic)) s2 (.here) rfl ?_
 refine Ks ?_
 refine Ac ((m.fTopic.toList == (⟨#[]⟩ : ByteArray).toList)) (fun h3 => ?_) (fun h3 => ?_)
 ·refine Ae h3 ?_
  refine Ad (o' := 1) rfl ?_
  refine Ae h3 ?_
  refine Al (c := Ax m.fBody) s2 (.here) rfl ?_
  refine Ae h3 ?_
  refine Cq ?_
  refine Ae h3 ?_
  refine Au ?_
  refine Bj h3 ?_
  refine Ac ((decide (((m.fBody.size : Nat) : Int) = 0))) (fun h4 => ?_) (fun h4 => ?_)
  ·refine Ae h4 ?_
   refine Ad (o' := 2) rfl ?_
   refine Ae h4 ?_
   refine Al (c := .sc (.int .i64 m.fQos)) s2 (.here) rfl ?_
   refine Ae h4 ?_
   refine Au ?_
   refine Bj h4 ?_
   refine Ac ((decide (m.fQos = 0))) (fun h5 => ?_) (fun h5 => ?_)
   ·refine Ae h5 ?_
    refine Ad (o' := 3) rfl ?_
    refine Ae h5 ?_
    refine Al (c := .sc (.bool m.fRetain)) s2 (.here) rfl ?_
    refine Ae h5 ?_
    refine C5 ?_
    refine Bj h5 ?_
    refine Aj rfl ?_
    have e : C3 m = (!m.fRetain) := by
     clear s0 s2
     try simp only [decide_eq_true_eq, decide_eq_false_iff_not] at h3 h4 h5
     unfold C3
     first | (simp [h3, h4, h5]; done) | (simp_all; done) | (simp_all; omega)
    rw [e]
    first | done | rfl
   ·refine Aa h5 ?_
    refine Aa h5 ?_
    refine Aa h5 ?_
    refine An h5 ?_
    refine Aj rfl ?_
    have e : C3 m = false := by
     clear s0 s2
     try simp only [decide_eq_true_eq, decide_eq_false_iff_not] at h3 h4 h5
     unfold C3
     first | (simp [h3, h4, h5]; done) | (simp_all; done) | (simp_all; omega)
    rw [e]
    first | done | rfl
  ·refine Aa h4 ?_
   refine Aa h4 ?_
   refine Aa h4 ?_
   refine An h4 ?_
   refine Aa rfl ?_
   refine Aa rfl ?_
   refine Aa rfl ?_
   refine An rfl ?_
   refine Aj rfl ?_
   have e : C3 m = false := by
    clear s0 s2
    try simp only [decide_eq_true_eq, decide_eq_false_iff_not] at h3 h4
    unfold C3
    first | (simp [h3, h4]; done) | (simp_all; done) | (simp_all; omega)
   rw [e]
   first | done | rfl
 ·refine Aa h3 ?_
  refine Aa h3 ?_
  refine Aa h3 ?_
  refine Aa h3 ?_
  refine An h3 ?_
  refine Aa rfl ?_
  refine Aa rfl ?_
  refine Aa rfl ?_
  refine An rfl ?_
  refine Aa rfl ?_
  refine Aa rfl ?_
  refine Aa rfl ?_
  refine An rfl ?_
  refine Aj rfl ?_
  have e : C3 m = false := by
   clear s0 s2
   try simp only [decide_eq_true_eq, decide_eq_false_iff_not] at h3
   unfold C3
   first | (simp [h3]; done) | (simp_all; done) | (simp_all; omega)
  rw [e]
  first | done | rfl
theorem AbP (n : Nat) (hn : 1048576 < n) (a : Fl) (b : Fl) : Bv E0 (n + 2) 4 62 [.agg (B8 a), .agg (B8 b)] = some (.sc (.bool (Ia a b))) := by
 rw [Av, AfC, f62]
 refine De (G := (· = some (.sc (.bool (Ia a b))))) ?_
 try simp only [Cl, A8, Az, A2, Do, A1, Be]
 have s0 : Sep [] [] := Dd
 refine Hz s0 (Dr (Eo _)) fun i1 H s2 => ?_
 refine Hz s2 (Dr (Eo _)) fun i3 H s4 => ?_
 refine Ad (o' := 0) rfl ?_
 refine Al (c := .sc (.string a.fTopic)) s4 Id rfl ?_
 refine Ad (o' := 0) rfl ?_
 refine Al (c := .sc (.string b.fTopic)) s4 (.here) rfl ?_
 refine Ks ?_
 refine Ac ((a.fTopic.toList == b.fTopic.toList)) (fun h5 => ?_) (fun h5 => ?_)
 ·refine Ae h5 ?_
  refine Ad (o' := 1) rfl ?_
  refine Ae h5 ?_
  refine Al (c := Ax a.fBody) s4 Id rfl ?_
  refine Ae h5 ?_
  refine Ad (o' := 1) rfl ?_
  refine Ae h5 ?_
  refine Al (c := Ax b.fBody) s4 (.here) rfl ?_
  refine Ae h5 ?_
  refine Ah (v := (.bool (a.fBody.toList == b.fBody.toList))) s4 rfl (.cons .ro (.cons .ro .nil)) (Ig n _ a.fBody b.fBody) ?_
  refine Bj h5 ?_
  refine Ac ((a.fBody.toList == b.fBody.toList)) (fun h6 => ?_) (fun h6 => ?_)
  ·refine Ae h6 ?_
   refine Ad (o' := 2) rfl ?_
   refine Ae h6 ?_
   refine Al (c := .sc (.int .i64 a.fQos)) s4 Id rfl ?_
   refine Ae h6 ?_
   refine Ad (o' := 2) rfl ?_
   refine Ae h6 ?_
   refine Al (c := .sc (.int .i64 b.fQos)) s4 (.here) rfl ?_
   refine Ae h6 ?_
   refine Au ?_
   refine Bj h6 ?_
   refine Ac ((decide (a.fQos = b.fQos))) (fun h7 => ?_) (fun h7 => ?_)
   ·refine Ae h7 ?_
    refine Ad (o' := 3) rfl ?_
    refine Ae h7 ?_
    refine Al (c := .sc (.bool a.fRetain)) s4 Id rfl ?_
    refine Ae h7 ?_
    refine Ad (o' := 3) rfl ?_
    refine Ae h7 ?_
    refine Al (c := .sc (.bool b.fRetain)) s4 (.here) rfl ?_
    refine Ae h7 ?_
    refine AfL (v := .sc (.bool (a.fRetain == b.fRetain))) (fun k => rfl) ?_
    refine Bj h7 ?_
    refine Aj rfl ?_
    have e : Ia a b = (a.fRetain == b.fRetain) := by
     clear s0 s2 s4
     try simp only [decide_eq_true_eq, decide_eq_false_iff_not] at h5 h6 h7
     unfold Ia
     first | (simp [h5, h6, h7]; done) | (simp_all; done) | (simp_all; omega)
    rw [e]
    first | done | rfl
   ·refine Aa h7 ?_
    refine Aa h7 ?_
    refine Aa h7 ?_
    refine Aa h7 ?_
    refine Aa h7 ?_
    refine An h7 ?_
    refine Aj rfl ?_
    have e : Ia a b = false := by
     clear s0 s2 s4
     try simp only [decide_eq_true_eq, decide_eq_false_iff_not] at h5 h6 h7
     unfold Ia
     first | (simp [h5, h6, h7]; done) | (simp_all; done) | (simp_all; omega)
    rw [e]
    first | done | rfl
  ·refine Aa h6 ?_
   refine Aa h6 ?_
   refine Aa h6 ?_
   refine Aa h6 ?_
   refine Aa h6 ?_
   refine An h6 ?_
   refine Aa rfl ?_
   refine Aa rfl ?_
   refine Aa rfl ?_
   refine Aa rfl ?_
   refine Aa rfl ?_
   refine An rfl ?_
   refine Aj rfl ?_
   have e : Ia a b = false := by
    clear s0 s2 s4
    try simp only [decide_eq_true_eq, decide_eq_false_iff_not] at h5 h6
    unfold Ia
    first | (simp [h5, h6]; done) | (simp_all; done) | (simp_all; omega)
   rw [e]
   first | done | rfl
 ·refine Aa h5 ?_
  refine Aa h5 ?_
  refine Aa h5 ?_
  refine Aa h5 ?_
  refine Aa h5 ?_
  refine An h5 ?_
  refine Aa rfl ?_
  refine Aa rfl ?_
  refine Aa rfl ?_
  refine Aa rfl ?_
  refine Aa rfl ?_
  refine An rfl ?_
  refine Aa rfl ?_
  refine Aa rfl ?_
  refine Aa rfl ?_
  refine Aa rfl ?_
  refine Aa rfl ?_
  refine An rfl ?_
  refine Aj rfl ?_
  have e : Ia a b = false := by
   clear s0 s2 s4
   try simp only [decide_eq_true_eq, decide_eq_false_iff_not] at h5
   unfold Ia
   first | (simp [h5]; done) | (simp_all; done) | (simp_all; omega)
  rw [e]
  first | done | rfl
theorem V1 (n : Nat) (hn : 1048576 < n) (m : Fl) : Bv E0 (n + 2) 4 62 [.agg (B8 m), .agg (B8 AfS)] = some (.sc (.bool (C3 m))) := by
 rw [← AgF]
 exact AbP n hn m AfS
theorem Aff (n : Nat) (hn : 1048576 < n) (tk : D3) (ht : Nx tk) : Bv E0 (n + 4) 4 145 [.agg (Dw tk)] = some (.sc (.bool (Ch tk))) := by
 rw [Av, AcS, f145]
 refine De (G := (· = some (.sc (.bool (Ch tk))))) ?_
 have hl1 := ht.l1
 have hl2 := ht.l2
 try simp only [Cl, A8, Az, A2, A1, Be, Bu, Dp]
 have s0 : Sep [] [] := Dd
 refine Hz s0 (Dr (Ev _)) fun i1 H s2 => ?_
 refine Ad (o' := 0) rfl ?_
 refine Al (c := .sc (.int .i64 tk.fOp)) s2 (.here) rfl ?_
 refine Au ?_
 refine Ac ((decide (tk.fOp = 0))) (fun h3 => ?_) (fun h3 => ?_)
 ·refine Ae h3 ?_
  refine Ad (o' := 1) rfl ?_
  refine Ae h3 ?_
  refine Al (c := .sc (.int .i64 tk.fPc)) s2 (.here) rfl ?_
  refine Ae h3 ?_
  refine Au ?_
  refine Bj h3 ?_
  refine Ac ((decide (tk.fPc = 0))) (fun h4 => ?_) (fun h4 => ?_)
  ·refine Ae h4 ?_
   refine Ad (o' := 2) rfl ?_
   refine Ae h4 ?_
   refine Al (c := .sc (.string tk.fClient)) s2 (.here) rfl ?_
   refine Ae h4 ?_
   refine Ks ?_
   refine Bj h4 ?_
   refine Ac ((tk.fClient.toList == (⟨#[]⟩ : ByteArray).toList)) (fun h5 => ?_) (fun h5 => ?_)
   ·refine Ae h5 ?_
    refine Ad (o' := 3) rfl ?_
    refine Ae h5 ?_
    refine H0 (ds := A6 tk.fP) s2 (.here) (Bs rfl) rfl ?_
    refine Ae h5 ?_
    refine Jx (cs := [.sc (.int .i64 0), .sc (.bool false), .sc (.int .i64 0), .sc (.bool false), .sc (.int .i64 0), .sc (.string (⟨#[]⟩)), .nl, .sc (.string (⟨#[]⟩)), .sc (.int .i64 0), .sc (.bool false), .sc (.int .i64 0), .sc (.bool false), .sc (.string (⟨#[]⟩)), .nl, .sc (.int .i64 0), .sc (.bool false), .sc (.bool false), .sc (.string (⟨#[]⟩)), .sc (.bool false), .nl, .sc (.int .i64 0), .sc (.bool false), .nl, .nl, .nl]) rfl ?_
    refine Ae h5 ?_
    refine Ah (v := (.bool (A3 tk.fP Kk))) s2 rfl (.aggF (B4 _) (.agg (.cons .sc (.cons .sc (.cons .sc (.cons .sc (.cons .sc (.cons .sc (.cons .nl (.cons .sc (.cons .sc (.cons .sc (.cons .sc (.cons .sc (.cons .sc (.cons .nl (.cons .sc (.cons .sc (.cons .sc (.cons .sc (.cons .sc (.cons .nl (.cons .sc (.cons .sc (.cons .nl (.cons .nl (.cons .nl .nil))))))))))))))))))))))))) .nil)) (Fx (n + 1) (by omega) _ tk.fP Kk ht.hp.l1 ht.hp.l2 ht.hp.l3) ?_
    refine Bj h5 ?_
    refine Ac ((A3 tk.fP Kk)) (fun h6 => ?_) (fun h6 => ?_)
    ·refine Ae h6 ?_
     refine Ad (o' := 28) rfl ?_
     refine Ae h6 ?_
     refine Al (c := Bq C0 tk.fTo) s2 (.here) rfl ?_
     refine Ae h6 ?_
     refine Cq ?_
     refine Ae h6 ?_
     refine Au ?_
     refine Bj h6 ?_
     refine Ac ((decide (((tk.fTo.length : Nat) : Int) = 0))) (fun h7 => ?_) (fun h7 => ?_)
     ·refine Ae h7 ?_
      refine Ad (o' := 29) rfl ?_
      refine Ae h7 ?_
      refine H0 (ds := B8 tk.fM) s2 (.here) (Bs rfl) rfl ?_
      refine Ae h7 ?_
      refine Jx (cs := [.sc (.string (⟨#[]⟩)), .nl, .sc (.int .i64 0), .sc (.bool false)]) rfl ?_
      refine Ae h7 ?_
      refine Ah (v := (.bool (C3 tk.fM))) s2 rfl (.aggF (Eo _) (.agg (.cons .sc (.cons .nl (.cons .sc (.cons .sc .nil)))) .nil)) (V1 (n + 1) (by omega) tk.fM) ?_
      refine Bj h7 ?_
      refine Ac ((C3 tk.fM)) (fun h8 => ?_) (fun h8 => ?_)
      ·refine Ae h8 ?_
       refine Ad (o' := 33) rfl ?_
       refine Ae h8 ?_
       refine Al (c := Bq B8 tk.fKs) s2 (.here) rfl ?_
       refine Ae h8 ?_
       refine Cq ?_
       refine Ae h8 ?_
       refine Au ?_
       refine Bj h8 ?_
       refine Ac ((decide (((tk.fKs.length : Nat) : Int) = 0))) (fun h9 => ?_) (fun h9 => ?_)
       ·refine Ae h9 ?_
        refine Ad (o' := 34) rfl ?_
        refine Ae h9 ?_
        refine Al (c := .sc (.int .i64 tk.fH)) s2 (.here) rfl ?_
        refine Ae h9 ?_
        refine Au ?_
        refine Bj h9 ?_
        refine Aj rfl ?_
        have e : Ch tk = (decide (tk.fH = 0)) := by
         clear s0 s2
         try simp only [decide_eq_true_eq, decide_eq_false_iff_not] at h3 h4 h5 h6 h7 h8 h9
         unfold Ch
         first | (simp [h3, h4, h5, h6, h7, h8, h9]; done) | (simp_all; done) | (simp_all; omega)
        rw [e]
        first | done | rfl
       ·refine Aa h9 ?_
        refine Aa h9 ?_
        refine Aa h9 ?_
        refine An h9 ?_
        refine Aj rfl ?_
        have e : Ch tk = false := by
         clear s0 s2
         try simp only [decide_eq_true_eq, decide_eq_false_iff_not] at h3 h4 h5 h6 h7 h8 h9
         unfold Ch
         first | (simp [h3, h4, h5, h6, h7, h8, h9]; done) | (simp_all; done) | (simp_all; omega)
        rw [e]
        first | done | rfl
      ·refine Aa h8 ?_
       refine Aa h8 ?_
       refine Aa h8 ?_
       refine Aa h8 ?_
       refine An h8 ?_
       refine Aa rfl ?_
       refine Aa rfl ?_
       refine Aa rfl ?_
       refine An rfl ?_
       refine Aj rfl ?_
       have e : Ch tk = false := by
        clear s0 s2
        try simp only [decide_eq_true_eq, decide_eq_false_iff_not] at h3 h4 h5 h6 h7 h8
        unfold Ch
        first | (simp [h3, h4, h5, h6, h7, h8]; done) | (simp_all; done) | (simp_all; omega)
       rw [e]
       first | done | rfl
     ·refine Aa h7 ?_
      refine Aa h7 ?_
      refine Aa h7 ?_
      refine Aa h7 ?_
      refine An h7 ?_
      refine Aa rfl ?_
      refine Aa rfl ?_
      refine Aa rfl ?_
      refine Aa rfl ?_
      refine An rfl ?_
      refine Aa rfl ?_
      refine Aa rfl ?_
      refine Aa rfl ?_
      refine An rfl ?_
      refine Aj rfl ?_
      have e : Ch tk = false := by
       clear s0 s2
       try simp only [decide_eq_true_eq, decide_eq_false_iff_not] at h3 h4 h5 h6 h7
       unfold Ch
       first | (simp [h3, h4, h5, h6, h7]; done) | (simp_all; done) | (simp_all; omega)
      rw [e]
      first | done | rfl
    ·refine Aa h6 ?_
     refine Aa h6 ?_
     refine Aa h6 ?_
     refine Aa h6 ?_
     refine An h6 ?_
     refine Aa rfl ?_
     refine Aa rfl ?_
     refine Aa rfl ?_
     refine Aa rfl ?_
     refine An rfl ?_
     refine Aa rfl ?_
     refine Aa rfl ?_
     refine Aa rfl ?_
     refine Aa rfl ?_
     refine An rfl ?_
     refine Aa rfl ?_
     refine Aa rfl ?_
     refine Aa rfl ?_
     refine An rfl ?_
     refine Aj rfl ?_
     have e : Ch tk = false := by
      clear s0 s2
      try simp only [decide_eq_true_eq, decide_eq_false_iff_not] at h3 h4 h5 h6
      unfold Ch
      first | (simp [h3, h4, h5, h6]; done) | (simp_all; done) | (simp_all; omega)
     rw [e]
     first | done | rfl
   ·refine Aa h5 ?_
    refine Aa h5 ?_
    refine Aa h5 ?_
    refine Aa h5 ?_
    refine An h5 ?_
    refine Aa rfl ?_
    refine Aa rfl ?_
    refine Aa rfl ?_
    refine Aa rfl ?_
    refine An rfl ?_
    refine Aa rfl ?_
    refine Aa rfl ?_
    refine Aa rfl ?_
    refine Aa rfl ?_
    refine An rfl ?_
    refine Aa rfl ?_
    refine Aa rfl ?_
    refine Aa rfl ?_
    refine Aa rfl ?_
    refine An rfl ?_
    refine Aa rfl ?_
    refine Aa rfl ?_
    refine Aa rfl ?_
    refine An rfl ?_
    refine Aj rfl ?_
    have e : Ch tk = false := by
     clear s0 s2
     try simp only [decide_eq_true_eq, decide_eq_false_iff_not] at h3 h4 h5
     unfold Ch
     first | (simp [h3, h4, h5]; done) | (simp_all; done) | (simp_all; omega)
    rw [e]
    first | done | rfl
  ·refine Aa h4 ?_
   refine Aa h4 ?_
   refine Aa h4 ?_
   refine An h4 ?_
   refine Aa rfl ?_
   refine Aa rfl ?_
   refine Aa rfl ?_
   refine Aa rfl ?_
   refine An rfl ?_
   refine Aa rfl ?_
   refine Aa rfl ?_
   refine Aa rfl ?_
   refine Aa rfl ?_
   refine An rfl ?_
   refine Aa rfl ?_
   refine Aa rfl ?_
   refine Aa rfl ?_
   refine Aa rfl ?_
   refine An rfl ?_
   refine Aa rfl ?_
   refine Aa rfl ?_
   refine Aa rfl ?_
   refine Aa rfl ?_
   refine An rfl ?_
   refine Aa rfl ?_
   refine Aa rfl ?_
   refine Aa rfl ?_
   refine An rfl ?_
   refine Aj rfl ?_
   have e : Ch tk = false := by
    clear s0 s2
    try simp only [decide_eq_true_eq, decide_eq_false_iff_not] at h3 h4
    unfold Ch
    first | (simp [h3, h4]; done) | (simp_all; done) | (simp_all; omega)
   rw [e]
   first | done | rfl
 ·refine Aa h3 ?_
  refine Aa h3 ?_
  refine Aa h3 ?_
  refine An h3 ?_
  refine Aa rfl ?_
  refine Aa rfl ?_
  refine Aa rfl ?_
  refine An rfl ?_
  refine Aa rfl ?_
  refine Aa rfl ?_
  refine Aa rfl ?_
  refine Aa rfl ?_
  refine An rfl ?_
  refine Aa rfl ?_
  refine Aa rfl ?_
  refine Aa rfl ?_
  refine Aa rfl ?_
  refine An rfl ?_
  refine Aa rfl ?_
  refine Aa rfl ?_
  refine Aa rfl ?_
  refine Aa rfl ?_
  refine An rfl ?_
  refine Aa rfl ?_
  refine Aa rfl ?_
  refine Aa rfl ?_
  refine Aa rfl ?_
  refine An rfl ?_
  refine Aa rfl ?_
  refine Aa rfl ?_
  refine Aa rfl ?_
  refine An rfl ?_
  refine Aj rfl ?_
  have e : Ch tk = false := by
   clear s0 s2
   try simp only [decide_eq_true_eq, decide_eq_false_iff_not] at h3
   unfold Ch
   first | (simp [h3]; done) | (simp_all; done) | (simp_all; omega)
  rw [e]
  first | done | rfl
theorem Afg (n : Nat) (hn : 1048576 < n) (tk : D3) (ht : Nx tk) : Bv E0 (n + 4) 4 135 [.agg (Dw tk)] = some (.sc (.bool (Ch tk))) := by
 rw [Av, AcI, f135]
 refine De (G := (· = some (.sc (.bool (Ch tk))))) ?_
 have hl1 := ht.l1
 have hl2 := ht.l2
 try simp only [Cl, A8, Az, A2, A1, Be, Bu, Dp]
 have s0 : Sep [] [] := Dd
 refine Hz s0 (Dr (Ev _)) fun i1 H s2 => ?_
 refine Ad (o' := 0) rfl ?_
 refine Al (c := .sc (.int .i64 tk.fOp)) s2 (.here) rfl ?_
 refine Au ?_
 refine Ac ((decide (tk.fOp = 0))) (fun h3 => ?_) (fun h3 => ?_)
 ·refine Ae h3 ?_
  refine Ad (o' := 1) rfl ?_
  refine Ae h3 ?_
  refine Al (c := .sc (.int .i64 tk.fPc)) s2 (.here) rfl ?_
  refine Ae h3 ?_
  refine Au ?_
  refine Bj h3 ?_
  refine Ac ((decide (tk.fPc = 0))) (fun h4 => ?_) (fun h4 => ?_)
  ·refine Ae h4 ?_
   refine Ad (o' := 2) rfl ?_
   refine Ae h4 ?_
   refine Al (c := .sc (.string tk.fClient)) s2 (.here) rfl ?_
   refine Ae h4 ?_
   refine Ks ?_
   refine Bj h4 ?_
   refine Ac ((tk.fClient.toList == (⟨#[]⟩ : ByteArray).toList)) (fun h5 => ?_) (fun h5 => ?_)
   ·refine Ae h5 ?_
    refine Ad (o' := 3) rfl ?_
    refine Ae h5 ?_
    refine H0 (ds := A6 tk.fP) s2 (.here) (Bs rfl) rfl ?_
    refine Ae h5 ?_
    refine Jx (cs := [.sc (.int .i64 0), .sc (.bool false), .sc (.int .i64 0), .sc (.bool false), .sc (.int .i64 0), .sc (.string (⟨#[]⟩)), .nl, .sc (.string (⟨#[]⟩)), .sc (.int .i64 0), .sc (.bool false), .sc (.int .i64 0), .sc (.bool false), .sc (.string (⟨#[]⟩)), .nl, .sc (.int .i64 0), .sc (.bool false), .sc (.bool false), .sc (.string (⟨#[]⟩)), .sc (.bool false), .nl, .sc (.int .i64 0), .sc (.bool false), .nl, .nl, .nl]) rfl ?_
    refine Ae h5 ?_
    refine Ah (v := (.bool (A3 tk.fP Kk))) s2 rfl (.aggF (B4 _) (.agg (.cons .sc (.cons .sc (.cons .sc (.cons .sc (.cons .sc (.cons .sc (.cons .nl (.cons .sc (.cons .sc (.cons .sc (.cons .sc (.cons .sc (.cons .sc (.cons .nl (.cons .sc (.cons .sc (.cons .sc (.cons .sc (.cons .sc (.cons .nl (.cons .sc (.cons .sc (.cons .nl (.cons .nl (.cons .nl .nil))))))))))))))))))))))))) .nil)) (Fy (n + 1) (by omega) _ tk.fP Kk ht.hp.l1 ht.hp.l2 ht.hp.l3) ?_
    refine Bj h5 ?_
    refine Ac ((A3 tk.fP Kk)) (fun h6 => ?_) (fun h6 => ?_)
    ·refine Ae h6 ?_
     refine Ad (o' := 28) rfl ?_
     refine Ae h6 ?_
     refine Al (c := Bq C0 tk.fTo) s2 (.here) rfl ?_
     refine Ae h6 ?_
     refine Cq ?_
     refine Ae h6 ?_
     refine Au ?_
     refine Bj h6 ?_
     refine Ac ((decide (((tk.fTo.length : Nat) : Int) = 0))) (fun h7 => ?_) (fun h7 => ?_)
     ·refine Ae h7 ?_
      refine Ad (o' := 29) rfl ?_
      refine Ae h7 ?_
      refine H0 (ds := B8 tk.fM) s2 (.here) (Bs rfl) rfl ?_
      refine Ae h7 ?_
      refine Ah (v := (.bool (C3 tk.fM))) s2 rfl (.aggF (Eo _) .nil) (AbC (n + 2) (by omega) tk.fM) ?_
      refine Bj h7 ?_
      refine Ac ((C3 tk.fM)) (fun h8 => ?_) (fun h8 => ?_)
      ·refine Ae h8 ?_
       refine Ad (o' := 33) rfl ?_
       refine Ae h8 ?_
       refine Al (c := Bq B8 tk.fKs) s2 (.here) rfl ?_
       refine Ae h8 ?_
       refine Cq ?_
       refine Ae h8 ?_
       refine Au ?_
       refine Bj h8 ?_
       refine Ac ((decide (((tk.fKs.length : Nat) : Int) = 0))) (fun h9 => ?_) (fun h9 => ?_)
       ·refine Ae h9 ?_
        refine Ad (o' := 34) rfl ?_
        refine Ae h9 ?_
        refine Al (c := .sc (.int .i64 tk.fH)) s2 (.here) rfl ?_
        refine Ae h9 ?_
        refine Au ?_
        refine Bj h9 ?_
        refine Aj rfl ?_
        have e : Ch tk = (decide (tk.fH = 0)) := by
         clear s0 s2
         try simp only [decide_eq_true_eq, decide_eq_false_iff_not] at h3 h4 h5 h6 h7 h8 h9
         unfold Ch
         first | (simp [h3, h4, h5, h6, h7, h8, h9]; done) | (simp_all; done) | (simp_all; omega)
        rw [e]
        first | done | rfl
       ·refine Aa h9 ?_
        refine Aa h9 ?_
        refine Aa h9 ?_
        refine An h9 ?_
        refine Aj rfl ?_
        have e : Ch tk = false := by
         clear s0 s2
         try simp only [decide_eq_true_eq, decide_eq_false_iff_not] at h3 h4 h5 h6 h7 h8 h9
         unfold Ch
         first | (simp [h3, h4, h5, h6, h7, h8, h9]; done) | (simp_all; done) | (simp_all; omega)
        rw [e]
        first | done | rfl
      ·refine Aa h8 ?_
       refine Aa h8 ?_
       refine Aa h8 ?_
       refine Aa h8 ?_
       refine An h8 ?_
       refine Aa rfl ?_
       refine Aa rfl ?_
       refine Aa rfl ?_
       refine An rfl ?_
       refine Aj rfl ?_
       have e : Ch tk = false := by
        clear s0 s2
        try simp only [decide_eq_true_eq, decide_eq_false_iff_not] at h3 h4 h5 h6 h7 h8
        unfold Ch
        first | (simp [h3, h4, h5, h6, h7, h8]; done) | (simp_all; done) | (simp_all; omega)
       rw [e]
       first | done | rfl
     ·refine Aa h7 ?_
      refine Aa h7 ?_
      refine Aa h7 ?_
      refine An h7 ?_
      refine Aa rfl ?_
      refine Aa rfl ?_
      refine Aa rfl ?_
      refine Aa rfl ?_
      refine An rfl ?_
      refine Aa rfl ?_
      refine Aa rfl ?_
      refine Aa rfl ?_
      refine An rfl ?_
      refine Aj rfl ?_
      have e : Ch tk = false := by
       clear s0 s2
       try simp only [decide_eq_true_eq, decide_eq_false_iff_not] at h3 h4 h5 h6 h7
       unfold Ch
       first | (simp [h3, h4, h5, h6, h7]; done) | (simp_all; done) | (simp_all; omega)
      rw [e]
      first | done | rfl
    ·refine Aa h6 ?_
     refine Aa h6 ?_
     refine Aa h6 ?_
     refine Aa h6 ?_
     refine An h6 ?_
     refine Aa rfl ?_
     refine Aa rfl ?_
     refine Aa rfl ?_
     refine An rfl ?_
     refine Aa rfl ?_
     refine Aa rfl ?_
     refine Aa rfl ?_
     refine Aa rfl ?_
     refine An rfl ?_
     refine Aa rfl ?_
     refine Aa rfl ?_
     refine Aa rfl ?_
     refine An rfl ?_
     refine Aj rfl ?_
     have e : Ch tk = false := by
      clear s0 s2
      try simp only [decide_eq_true_eq, decide_eq_false_iff_not] at h3 h4 h5 h6
      unfold Ch
      first | (simp [h3, h4, h5, h6]; done) | (simp_all; done) | (simp_all; omega)
     rw [e]
     first | done | rfl
   ·refine Aa h5 ?_
    refine Aa h5 ?_
    refine Aa h5 ?_
    refine Aa h5 ?_
    refine An h5 ?_
    refine Aa rfl ?_
    refine Aa rfl ?_
    refine Aa rfl ?_
    refine Aa rfl ?_
    refine An rfl ?_
    refine Aa rfl ?_
    refine Aa rfl ?_
    refine Aa rfl ?_
    refine An rfl ?_
    refine Aa rfl ?_
    refine Aa rfl ?_
    refine Aa rfl ?_
    refine Aa rfl ?_
    refine An rfl ?_
    refine Aa rfl ?_
    refine Aa rfl ?_
    refine Aa rfl ?_
    refine An rfl ?_
    refine Aj rfl ?_
    have e : Ch tk = false := by
     clear s0 s2
     try simp only [decide_eq_true_eq, decide_eq_false_iff_not] at h3 h4 h5
     unfold Ch
     first | (simp [h3, h4, h5]; done) | (simp_all; done) | (simp_all; omega)
    rw [e]
    first | done | rfl
  ·refine Aa h4 ?_
   refine Aa h4 ?_
   refine Aa h4 ?_
   refine An h4 ?_
   refine Aa rfl ?_
   refine Aa rfl ?_
   refine Aa rfl ?_
   refine Aa rfl ?_
   refine An rfl ?_
   refine Aa rfl ?_
   refine Aa rfl ?_
   refine Aa rfl ?_
   refine Aa rfl ?_
   refine An rfl ?_
   refine Aa rfl ?_
   refine Aa rfl ?_
   refine Aa rfl ?_
   refine An rfl ?_
   refine Aa rfl ?_
   refine Aa rfl ?_
   refine Aa rfl ?_
   refine Aa rfl ?_
   refine An rfl ?_
   refine Aa rfl ?_
   refine Aa rfl ?_
   refine Aa rfl ?_
   refine An rfl ?_
   refine Aj rfl ?_
   have e : Ch tk = false := by
    clear s0 s2
    try simp only [decide_eq_true_eq, decide_eq_false_iff_not] at h3 h4
    unfold Ch
    first | (simp [h3, h4]; done) | (simp_all; done) | (simp_all; omega)
   rw [e]
   first | done | rfl
 ·refine Aa h3 ?_
  refine Aa h3 ?_
  refine Aa h3 ?_
  refine An h3 ?_
  refine Aa rfl ?_
  refine Aa rfl ?_
  refine Aa rfl ?_
  refine An rfl ?_
  refine Aa rfl ?_
  refine Aa rfl ?_
  refine Aa rfl ?_
  refine Aa rfl ?_
  refine An rfl ?_
  refine Aa rfl ?_
  refine Aa rfl ?_
  refine Aa rfl ?_
  refine Aa rfl ?_
  refine An rfl ?_
  refine Aa rfl ?_
  refine Aa rfl ?_
  refine Aa rfl ?_
  refine An rfl ?_
  refine Aa rfl ?_
  refine Aa rfl ?_
  refine Aa rfl ?_
  refine Aa rfl ?_
  refine An rfl ?_
  refine Aa rfl ?_
  refine Aa rfl ?_
  refine Aa rfl ?_
  refine An rfl ?_
  refine Aj rfl ?_
  have e : Ch tk = false := by
   clear s0 s2
   try simp only [decide_eq_true_eq, decide_eq_false_iff_not] at h3
   unfold Ch
   first | (simp [h3]; done) | (simp_all; done) | (simp_all; omega)
  rw [e]
  first | done | rfl
theorem I6 (n : Nat) (hn : 1048576 < n) (tk : D3) (ht : Nx tk) (h3 : (decide (tk.fOp = 0)) = false)  : ∀ (t pre : List Jm) (m : Nat) (i : Int) (i1 : Nat) (H : Af), tk.fTo = pre ++ t → i = ((pre.length : Nat) : Int) → t.length < m → Sep H [.blk i1 (Dw tk) true] → Gd (· = some (.sc (.bool (t.all Cu && Ga tk)))) (Lv (PR (n + 13) AV) (n + 13) (fun x H => A7 As E0.tp 4 H x) m (.ptr i1 0) (Bq C0 tk.fTo) (.sc (.int .i64 ((tk.fTo.length : Nat) : Int))) (.sc (.int .i64 i)) H)
 | [], pre, m + 1, i, i1, H, he, hi, hm, s0 => by
  obtain rfl : pre = tk.fTo := by simpa using he.symm
  have hl1 := ht.l1
  have hl2 := ht.l2
  have hlen := ht.l1
  rw [Lv]
  try simp only [Dm, A8, Az, Cw, A2, Cr, Ay, A1, Be, Bu, Bw, Dp]
  refine D4 ?_
  refine Bf (by simp [hi]) ?_
  refine Ad (o' := 3) rfl ?_
  refine H0 (ds := A6 tk.fP) s0 (.here) (Bs rfl) rfl ?_
  refine Jx (cs := [.sc (.int .i64 0), .sc (.bool false), .sc (.int .i64 0), .sc (.bool false), .sc (.int .i64 0), .sc (.string (⟨#[]⟩)), .nl, .sc (.string (⟨#[]⟩)), .sc (.int .i64 0), .sc (.bool false), .sc (.int .i64 0), .sc (.bool false), .sc (.string (⟨#[]⟩)), .nl, .sc (.int .i64 0), .sc (.bool false), .sc (.bool false), .sc (.string (⟨#[]⟩)), .sc (.bool false), .nl, .sc (.int .i64 0), .sc (.bool false), .nl, .nl, .nl]) rfl ?_
  refine Ah (v := (.bool (A3 tk.fP Kk))) s0 rfl (.aggF (B4 _) (.agg (.cons .sc (.cons .sc (.cons .sc (.cons .sc (.cons .sc (.cons .sc (.cons .nl (.cons .sc (.cons .sc (.cons .sc (.cons .sc (.cons .sc (.cons .sc (.cons .nl (.cons .sc (.cons .sc (.cons .sc (.cons .sc (.cons .sc (.cons .nl (.cons .sc (.cons .sc (.cons .nl (.cons .nl (.cons .nl .nil))))))))))))))))))))))))) .nil)) (Fx (n + 11) (by omega) _ tk.fP Kk ht.hp.l1 ht.hp.l2 ht.hp.l3) ?_
  refine Ad (o' := 0) rfl ?_
  refine Al (c := .sc (.int .i64 tk.fOp)) s0 (.here) rfl ?_
  refine Ah (v := (.bool (A5 tk.fOp 1 5))) s0 rfl (.cons .sc (.cons .sc (.cons .sc .nil))) (Dx (n + 12) _ tk.fOp 1 5) ?_
  refine Fm ?_
  refine Ac ((A5 tk.fOp 1 5)) (fun h201 => ?_) (fun h201 => ?_)
  ·refine A0 h201 ?_
   refine Ad (o' := 3) rfl ?_
   refine H0 (ds := A6 tk.fP) s0 (.here) (Bs rfl) rfl ?_
   refine Ah (v := (.bool (Ai tk.fP))) s0 rfl (.aggF (B4 _) .nil) (Z9 (n + 3) (by omega) tk.fP ht.hp) ?_
   apply B7 ((Ai tk.fP) && (decide ((Dv tk.fP.fType) = tk.fOp)))
   ·intro b202 q202
    refine Ac ((Ai tk.fP)) (fun h202 => ?_) (fun h202 => ?_)
    ·refine Ae h202 ?_
     refine Ad (o' := 3) rfl ?_
     refine Ae h202 ?_
     refine Ad (o' := 3) rfl ?_
     refine Ae h202 ?_
     refine Al (c := .sc (.int .i64 tk.fP.fType)) s0 (.here) rfl ?_
     refine Ae h202 ?_
     refine Ad (o' := 0) rfl ?_
     refine Ae h202 ?_
     refine Al (c := .sc (.int .i64 tk.fOp)) s0 (.here) rfl ?_
     refine Ae h202 ?_
     refine Ah (v := (.int .i64 (Dv tk.fP.fType))) s0 rfl (.cons .sc .nil) (Aga (n + 12) (by omega) tk.fP.fType) ?_
     refine Ae h202 ?_
     refine Au ?_
     refine Da h202 (Er q202 h202) ?_
     exact Ba
    ·refine Aa h202 ?_
     refine Aa h202 ?_
     refine Aa h202 ?_
     refine Aa h202 ?_
     refine Aa h202 ?_
     refine Aa h202 ?_
     refine Aa h202 ?_
     refine C9 h202 (Ep q202 h202) ?_
     exact Ba
   intro b202 q202
   refine Ad (o' := 0) rfl ?_
   refine Al (c := .sc (.int .i64 tk.fOp)) s0 (.here) rfl ?_
   refine Au ?_
   apply B7 ((decide (tk.fOp = 2)) && (decide (tk.fPc = 5)))
   ·intro b203 q203
    refine Ac ((decide (tk.fOp = 2))) (fun h203 => ?_) (fun h203 => ?_)
    ·refine Ae h203 ?_
     refine Ad (o' := 1) rfl ?_
     refine Ae h203 ?_
     refine Al (c := .sc (.int .i64 tk.fPc)) s0 (.here) rfl ?_
     refine Ae h203 ?_
     refine Au ?_
     refine Da h203 (Er q203 h203) ?_
     exact Ba
    ·refine Aa h203 ?_
     refine Aa h203 ?_
     refine Aa h203 ?_
     refine C9 h203 (Ep q203 h203) ?_
     exact Ba
   intro b203 q203
   apply B7 (b203 || ((decide (tk.fOp = 6)) && (decide (tk.fPc = 10))))
   ·intro b204 q204
    refine Ac (b203) (fun h204 => ?_) (fun h204 => ?_)
    ·refine Aa h204 ?_
     refine Aa h204 ?_
     refine Aa h204 ?_
     refine Aa h204 ?_
     refine Bt ?_
     refine Bt ?_
     refine Bt ?_
     refine Aa h204 ?_
     refine Da h204 (Rn q204 h204) ?_
     exact Ba
    ·refine Ae h204 ?_
     refine Ad (o' := 0) rfl ?_
     refine Ae h204 ?_
     refine Al (c := .sc (.int .i64 tk.fOp)) s0 (.here) rfl ?_
     refine Ae h204 ?_
     refine Au ?_
     refine Ae h204 ?_
     apply B7 ((decide (tk.fOp = 6)) && (decide (tk.fPc = 10)))
     ·intro b205 q205
      refine Ac ((decide (tk.fOp = 6))) (fun h205 => ?_) (fun h205 => ?_)
      ·refine Ae h205 ?_
       refine Ad (o' := 1) rfl ?_
       refine Ae h205 ?_
       refine Al (c := .sc (.int .i64 tk.fPc)) s0 (.here) rfl ?_
       refine Ae h205 ?_
       refine Au ?_
       refine Ae h204 ?_
       refine Da h205 (Er q205 h205) ?_
       exact Ba
      ·refine Aa h205 ?_
       refine Aa h205 ?_
       refine Aa h205 ?_
       refine Ae h204 ?_
       refine C9 h205 (Ep q205 h205) ?_
       exact Ba
     intro b205 q205
     refine C9 h204 (by subst q205; exact Rm q204 h204) ?_
     exact Ba
   intro b204 q204
   refine Ad (o' := 0) rfl ?_
   refine Al (c := .sc (.int .i64 tk.fOp)) s0 (.here) rfl ?_
   refine Au ?_
   apply B7 ((decide (tk.fOp = 7)) && (!(decide (tk.fH = 0))))
   ·intro b206 q206
    refine Ac ((decide (tk.fOp = 7))) (fun h206 => ?_) (fun h206 => ?_)
    ·refine Ae h206 ?_
     refine Ad (o' := 34) rfl ?_
     refine Ae h206 ?_
     refine Al (c := .sc (.int .i64 tk.fH)) s0 (.here) rfl ?_
     refine Ae h206 ?_
     refine N1 ?_
     refine Da h206 (Er q206 h206) ?_
     exact Ba
    ·refine Aa h206 ?_
     refine Aa h206 ?_
     refine Aa h206 ?_
     refine C9 h206 (Ep q206 h206) ?_
     exact Ba
   intro b206 q206
   refine Ac (b206) (fun h207 => ?_) (fun h207 => ?_)
   ·refine A0 h207 ?_
    refine Aj rfl ?_
    have e : ([].all Cu && Ga tk) = false := by
     clear s0
     subst q206 q204 q203 q202
     unfold Ga Hh
     simp only [h3, h201, h207, List.all_nil, Bool.true_and, if_true, if_false, Bool.false_eq_true]
     try rfl
    rw [e]
    first | done | rfl
   ·refine Bf h207 ?_
    apply B7 (b202 && ((Ce tk.fM) || (C3 tk.fM)))
    ·intro b208 q208
     refine Ac (b202) (fun h208 => ?_) (fun h208 => ?_)
     ·refine Ae h208 ?_
      refine Ad (o' := 29) rfl ?_
      refine Ae h208 ?_
      refine H0 (ds := B8 tk.fM) s0 (.here) (Bs rfl) rfl ?_
      refine Ae h208 ?_
      refine Ah (v := (.bool (Ce tk.fM))) s0 rfl (.aggF (Eo _) .nil) (Pv (n + 7) (by omega) _ tk.fM ht.m1) ?_
      refine Ae h208 ?_
      apply B7 ((Ce tk.fM) || (C3 tk.fM))
      ·intro b209 q209
       refine Ac ((Ce tk.fM)) (fun h209 => ?_) (fun h209 => ?_)
       ·refine Aa h209 ?_
        refine Aa h209 ?_
        refine Aa h209 ?_
        refine Aa h209 ?_
        refine Ae h208 ?_
        refine Da h209 (Rn q209 h209) ?_
        exact Ba
       ·refine Ae h209 ?_
        refine Ad (o' := 29) rfl ?_
        refine Ae h209 ?_
        refine H0 (ds := B8 tk.fM) s0 (.here) (Bs rfl) rfl ?_
        refine Ae h209 ?_
        refine Jx (cs := [.sc (.string (⟨#[]⟩)), .nl, .sc (.int .i64 0), .sc (.bool false)]) rfl ?_
        refine Ae h209 ?_
        refine Ah (v := (.bool (C3 tk.fM))) s0 rfl (.aggF (Eo _) (.agg (.cons .sc (.cons .nl (.cons .sc (.cons .sc .nil)))) .nil)) (V1 (n + 11) (by omega) tk.fM) ?_
        refine Ae h208 ?_
        refine C9 h209 (Rm q209 h209) ?_
        exact Ba
      intro b209 q209
      refine Da h208 (by subst q209; exact Er q208 h208) ?_
      exact Ba
     ·refine Aa h208 ?_
      refine Aa h208 ?_
      refine Aa h208 ?_
      refine Aa h208 ?_
      refine Bt ?_
      refine Bt ?_
      refine Bt ?_
      refine Bt ?_
      refine Aa h208 ?_
      refine C9 h208 (Ep q208 h208) ?_
      exact Ba
    intro b208 q208
    apply B7 (b208 && (tk.fKs.all Ce))
    ·intro b210 q210
     refine Ac (b208) (fun h210 => ?_) (fun h210 => ?_)
     ·refine Ae h210 ?_
      refine Ad (o' := 33) rfl ?_
      refine Ae h210 ?_
      refine Al (c := Bq B8 tk.fKs) s0 (.here) rfl ?_
      refine Ae h210 ?_
      refine Ah (v := (.bool (tk.fKs.all Ce))) s0 rfl (.cons .ro .nil) (Rg (n + 6) (by omega) _ tk.fKs ht.l2 ht.k1) ?_
      refine Da h210 (Er q210 h210) ?_
      exact Ba
     ·refine Aa h210 ?_
      refine Aa h210 ?_
      refine Aa h210 ?_
      refine C9 h210 (Ep q210 h210) ?_
      exact Ba
    intro b210 q210
    apply B7 (b210 && ((decide (0 < ((tk.fTo.length : Nat) : Int))) || (!b204)))
    ·intro b211 q211
     refine Ac (b210) (fun h211 => ?_) (fun h211 => ?_)
     ·refine Ae h211 ?_
      refine Ad (o' := 28) rfl ?_
      refine Ae h211 ?_
      refine Al (c := Bq C0 tk.fTo) s0 (.here) rfl ?_
      refine Ae h211 ?_
      refine Cq ?_
      refine Ae h211 ?_
      refine Pt ?_
      refine Ae h211 ?_
      apply B7 ((decide (0 < ((tk.fTo.length : Nat) : Int))) || (!b204))
      ·intro b212 q212
       refine Ac ((decide (0 < ((tk.fTo.length : Nat) : Int)))) (fun h212 => ?_) (fun h212 => ?_)
       ·refine Aa h212 ?_
        refine Aa h212 ?_
        refine Ae h211 ?_
        refine Da h212 (Rn q212 h212) ?_
        exact Ba
       ·refine Ae h212 ?_
        refine Ae h212 ?_
        refine C5 ?_
        refine Ae h211 ?_
        refine C9 h212 (Rm q212 h212) ?_
        exact Ba
      intro b212 q212
      refine Da h211 (by subst q212; exact Er q211 h211) ?_
      exact Ba
     ·refine Aa h211 ?_
      refine Aa h211 ?_
      refine Aa h211 ?_
      refine Aa h211 ?_
      refine Aa h211 ?_
      refine Bt ?_
      refine Bt ?_
      refine Aa h211 ?_
      refine C9 h211 (Ep q211 h211) ?_
      exact Ba
    intro b211 q211
    refine Aj rfl ?_
    have e : ([].all Cu && Ga tk) = b211 := by
     clear s0
     subst q211 q210 q208 q206 q204 q203 q202
     unfold Ga Hh
     simp only [h3, h201, h207, List.all_nil, Bool.true_and, if_true, if_false, Bool.false_eq_true]
     try rfl
    rw [e]
    first | done | rfl
  ·refine Bf h201 ?_
   refine Ad (o' := 0) rfl ?_
   refine Al (c := .sc (.int .i64 tk.fOp)) s0 (.here) rfl ?_
   refine Au ?_
   apply B7 ((decide (tk.fOp = 2)) && (decide (tk.fPc = 5)))
   ·intro b213 q213
    refine Ac ((decide (tk.fOp = 2))) (fun h213 => ?_) (fun h213 => ?_)
    ·refine Ae h213 ?_
     refine Ad (o' := 1) rfl ?_
     refine Ae h213 ?_
     refine Al (c := .sc (.int .i64 tk.fPc)) s0 (.here) rfl ?_
     refine Ae h213 ?_
     refine Au ?_
     refine Da h213 (Er q213 h213) ?_
     exact Ba
    ·refine Aa h213 ?_
     refine Aa h213 ?_
     refine Aa h213 ?_
     refine C9 h213 (Ep q213 h213) ?_
     exact Ba
   intro b213 q213
   apply B7 (b213 || ((decide (tk.fOp = 6)) && (decide (tk.fPc = 10))))
   ·intro b214 q214
    refine Ac (b213) (fun h214 => ?_) (fun h214 => ?_)
    ·refine Aa h214 ?_
     refine Aa h214 ?_
     refine Aa h214 ?_
     refine Aa h214 ?_
     refine Bt ?_
     refine Bt ?_
     refine Bt ?_
     refine Aa h214 ?_
     refine Da h214 (Rn q214 h214) ?_
     exact Ba
    ·refine Ae h214 ?_
     refine Ad (o' := 0) rfl ?_
     refine Ae h214 ?_
     refine Al (c := .sc (.int .i64 tk.fOp)) s0 (.here) rfl ?_
     refine Ae h214 ?_
     refine Au ?_
     refine Ae h214 ?_
     apply B7 ((decide (tk.fOp = 6)) && (decide (tk.fPc = 10)))
     ·intro b215 q215
      refine Ac ((decide (tk.fOp = 6))) (fun h215 => ?_) (fun h215 => ?_)
      ·refine Ae h215 ?_
       refine Ad (o' := 1) rfl ?_
       refine Ae h215 ?_
       refine Al (c := .sc (.int .i64 tk.fPc)) s0 (.here) rfl ?_
       refine Ae h215 ?_
       refine Au ?_
       refine Ae h214 ?_
       refine Da h215 (Er q215 h215) ?_
       exact Ba
      ·refine Aa h215 ?_
       refine Aa h215 ?_
       refine Aa h215 ?_
       refine Ae h214 ?_
       refine C9 h215 (Ep q215 h215) ?_
       exact Ba
     intro b215 q215
     refine C9 h214 (by subst q215; exact Rm q214 h214) ?_
     exact Ba
   intro b214 q214
   refine Ad (o' := 0) rfl ?_
   refine Al (c := .sc (.int .i64 tk.fOp)) s0 (.here) rfl ?_
   refine Au ?_
   apply B7 ((decide (tk.fOp = 7)) && (!(decide (tk.fH = 0))))
   ·intro b216 q216
    refine Ac ((decide (tk.fOp = 7))) (fun h216 => ?_) (fun h216 => ?_)
    ·refine Ae h216 ?_
     refine Ad (o' := 34) rfl ?_
     refine Ae h216 ?_
     refine Al (c := .sc (.int .i64 tk.fH)) s0 (.here) rfl ?_
     refine Ae h216 ?_
     refine N1 ?_
     refine Da h216 (Er q216 h216) ?_
     exact Ba
    ·refine Aa h216 ?_
     refine Aa h216 ?_
     refine Aa h216 ?_
     refine C9 h216 (Ep q216 h216) ?_
     exact Ba
   intro b216 q216
   refine Ac (b216) (fun h217 => ?_) (fun h217 => ?_)
   ·refine A0 h217 ?_
    refine Aj rfl ?_
    have e : ([].all Cu && Ga tk) = false := by
     clear s0
     subst q216 q214 q213
     unfold Ga Hh
     simp only [h3, h201, h217, List.all_nil, Bool.true_and, if_true, if_false, Bool.false_eq_true]
     try rfl
    rw [e]
    first | done | rfl
   ·refine Bf h217 ?_
    apply B7 ((A3 tk.fP Kk) && ((Ce tk.fM) || (C3 tk.fM)))
    ·intro b218 q218
     refine Ac ((A3 tk.fP Kk)) (fun h218 => ?_) (fun h218 => ?_)
     ·refine Ae h218 ?_
      refine Ad (o' := 29) rfl ?_
      refine Ae h218 ?_
      refine H0 (ds := B8 tk.fM) s0 (.here) (Bs rfl) rfl ?_
      refine Ae h218 ?_
      refine Ah (v := (.bool (Ce tk.fM))) s0 rfl (.aggF (Eo _) .nil) (Pv (n + 7) (by omega) _ tk.fM ht.m1) ?_
      refine Ae h218 ?_
      apply B7 ((Ce tk.fM) || (C3 tk.fM))
      ·intro b219 q219
       refine Ac ((Ce tk.fM)) (fun h219 => ?_) (fun h219 => ?_)
       ·refine Aa h219 ?_
        refine Aa h219 ?_
        refine Aa h219 ?_
        refine Aa h219 ?_
        refine Ae h218 ?_
        refine Da h219 (Rn q219 h219) ?_
        exact Ba
       ·refine Ae h219 ?_
        refine Ad (o' := 29) rfl ?_
        refine Ae h219 ?_
        refine H0 (ds := B8 tk.fM) s0 (.here) (Bs rfl) rfl ?_
        refine Ae h219 ?_
        refine Jx (cs := [.sc (.string (⟨#[]⟩)), .nl, .sc (.int .i64 0), .sc (.bool false)]) rfl ?_
        refine Ae h219 ?_
        refine Ah (v := (.bool (C3 tk.fM))) s0 rfl (.aggF (Eo _) (.agg (.cons .sc (.cons .nl (.cons .sc (.cons .sc .nil)))) .nil)) (V1 (n + 11) (by omega) tk.fM) ?_
        refine Ae h218 ?_
        refine C9 h219 (Rm q219 h219) ?_
        exact Ba
      intro b219 q219
      refine Da h218 (by subst q219; exact Er q218 h218) ?_
      exact Ba
     ·refine Aa h218 ?_
      refine Aa h218 ?_
      refine Aa h218 ?_
      refine Aa h218 ?_
      refine Bt ?_
      refine Bt ?_
      refine Bt ?_
      refine Bt ?_
      refine Aa h218 ?_
      refine C9 h218 (Ep q218 h218) ?_
      exact Ba
    intro b218 q218
    apply B7 (b218 && (tk.fKs.all Ce))
    ·intro b220 q220
     refine Ac (b218) (fun h220 => ?_) (fun h220 => ?_)
     ·refine Ae h220 ?_
      refine Ad (o' := 33) rfl ?_
      refine Ae h220 ?_
      refine Al (c := Bq B8 tk.fKs) s0 (.here) rfl ?_
      refine Ae h220 ?_
      refine Ah (v := (.bool (tk.fKs.all Ce))) s0 rfl (.cons .ro .nil) (Rg (n + 6) (by omega) _ tk.fKs ht.l2 ht.k1) ?_
      refine Da h220 (Er q220 h220) ?_
      exact Ba
     ·refine Aa h220 ?_
      refine Aa h220 ?_
      refine Aa h220 ?_
      refine C9 h220 (Ep q220 h220) ?_
      exact Ba
    intro b220 q220
    apply B7 (b220 && ((decide (0 < ((tk.fTo.length : Nat) : Int))) || (!b214)))
    ·intro b221 q221
     refine Ac (b220) (fun h221 => ?_) (fun h221 => ?_)
     ·refine Ae h221 ?_
      refine Ad (o' := 28) rfl ?_
      refine Ae h221 ?_
      refine Al (c := Bq C0 tk.fTo) s0 (.here) rfl ?_
      refine Ae h221 ?_
      refine Cq ?_
      refine Ae h221 ?_
      refine Pt ?_
      refine Ae h221 ?_
      apply B7 ((decide (0 < ((tk.fTo.length : Nat) : Int))) || (!b214))
      ·intro b222 q222
       refine Ac ((decide (0 < ((tk.fTo.length : Nat) : Int)))) (fun h222 => ?_) (fun h222 => ?_)
       ·refine Aa h222 ?_
        refine Aa h222 ?_
        refine Ae h221 ?_
        refine Da h222 (Rn q222 h222) ?_
        exact Ba
       ·refine Ae h222 ?_
        refine Ae h222 ?_
        refine C5 ?_
        refine Ae h221 ?_
        refine C9 h222 (Rm q222 h222) ?_
        exact Ba
      intro b222 q222
      refine Da h221 (by subst q222; exact Er q221 h221) ?_
      exact Ba
     ·refine Aa h221 ?_
      refine Aa h221 ?_
      refine Aa h221 ?_
      refine Aa h221 ?_
      refine Aa h221 ?_
      refine Bt ?_
      refine Bt ?_
      refine Aa h221 ?_
      refine C9 h221 (Ep q221 h221) ?_
      exact Ba
    intro b221 q221
    refine Aj rfl ?_
    have e : ([].all Cu && Ga tk) = b221 := by
     clear s0
     subst q221 q220 q218 q216 q214 q213
     unfold Ga Hh
     simp only [h3, h201, h217, List.all_nil, Bool.true_and, if_true, if_false, Bool.false_eq_true]
     try rfl
    rw [e]
    first | done | rfl
 | y :: t, pre, m + 1, i, i1, H, he, hi, hm, s0 => by
  have hlt : pre.length < tk.fTo.length := by rw [he]; simp
  have hl1 := ht.l1
  have hl2 := ht.l2
  have hlen := ht.l1
  rw [Lv]
  try simp only [Dm, A8, Az, Cw, A2, Cr, Ay, A1, Be, Bu, Bw, Dp]
  refine D4 ?_
  refine A0 (by simp [hi]; omega) ?_
  refine Ir hi Kz (by decide) he ?_
  refine Xh (Kz _) ?_
  refine Pu s0 fun i201 H s202 => ?_
  refine B0 (cs' := C0 y) s202 (.here) (Dr (I4 _)) rfl (Bs rfl) rfl fun H s203 => ?_
  refine Bo s203 (.here) rfl ?_
  refine Ah (v := (.bool (Cu y))) s203 rfl (.aggF (I4 _) .nil) (Abz (n + 8) (by omega) y (ht.s1 y (by rw [he]; simp))) ?_
  refine C5 ?_
  refine Ac ((Cu y)) (fun h204 => ?_) (fun h204 => ?_)
  ·refine Bf (nF h204) ?_
   refine Fj (by omega) (by omega) ?_
   have e205 : ((y :: t).all Cu && Ga tk) = (t.all Cu && Ga tk) := by
    clear s0 s202 s203
    try simp only [decide_eq_true_eq, decide_eq_false_iff_not, bne_iff_ne, beq_iff_eq, beq_eq_false_iff_ne] at h3 h204
    simp only [List.all_cons, Bool.true_and, h3, h204]
   rw [e205]
   exact I6 n hn tk ht h3  t (pre ++ [y]) m _ i1 _ (by rw [he]; simp) (by rw [hi]; simp) (by simpa using hm) (by simpa only [List.map_append, List.map_cons, List.map_nil] using (s203.sel (.cons Id .nil)))
  ·refine A0 (nT h204) ?_
   refine Aj rfl ?_
   have e : ((y :: t).all Cu && Ga tk) = false := by
    clear s0 s202 s203
    simp only [List.all_cons, Bool.false_and, h3, h204]
   rw [e]
   first | done | rfl
theorem Q7 (n : Nat) (hn : 1048576 < n) (tk : D3) (ht : Nx tk) : Bv E0 (n + 14) 4 44 [.agg (Dw tk)] = some (.sc (.bool (F1 tk))) := by
 rw [Av, AfA, f44]
 refine De (G := (· = some (.sc (.bool (F1 tk))))) ?_
 have hl1 := ht.l1
 have hl2 := ht.l2
 try simp only [Cl, A8, Az, A2, Cr, Ay, A1, Be, Bu]
 have s0 : Sep [] [] := Dd
 refine Hz s0 (Dr (Ev _)) fun i1 H s2 => ?_
 refine Ad (o' := 0) rfl ?_
 refine Al (c := .sc (.int .i64 tk.fOp)) s2 (.here) rfl ?_
 refine Au ?_
 refine Ac ((decide (tk.fOp = 0))) (fun h3 => ?_) (fun h3 => ?_)
 ·refine A0 h3 ?_
  refine Bo s2 (.here) rfl ?_
  refine Ah (v := (.bool (Ch tk))) s2 rfl (.aggF (Ev _) .nil) (Aff (n + 9) (by omega) tk ht) ?_
  refine Aj rfl ?_
  have e : F1 tk = (Ch tk) := by
   clear s0 s2
   unfold F1 Qx
   simp only [h3, List.all_nil, Bool.true_and, if_true, if_false, Bool.false_eq_true]
   try rfl
  rw [e]
  first | done | rfl
 ·refine Bf h3 ?_
  refine Ad (o' := 0) rfl ?_
  refine Al (c := .sc (.int .i64 tk.fOp)) s2 (.here) rfl ?_
  refine Au ?_
  apply B7 ((decide (tk.fOp = 6)) && (decide (tk.fPc = 0)))
  ·intro b4 q4
   refine Ac ((decide (tk.fOp = 6))) (fun h4 => ?_) (fun h4 => ?_)
   ·refine Ae h4 ?_
    refine Ad (o' := 1) rfl ?_
    refine Ae h4 ?_
    refine Al (c := .sc (.int .i64 tk.fPc)) s2 (.here) rfl ?_
    refine Ae h4 ?_
    refine Au ?_
    refine Da h4 (Er q4 h4) ?_
    exact Ba
   ·refine Aa h4 ?_
    refine Aa h4 ?_
    refine Aa h4 ?_
    refine C9 h4 (Ep q4 h4) ?_
    exact Ba
  intro b4 q4
  refine Ad (o' := 0) rfl ?_
  refine Al (c := .sc (.int .i64 tk.fOp)) s2 (.here) rfl ?_
  refine Ad (o' := 1) rfl ?_
  refine Al (c := .sc (.int .i64 tk.fPc)) s2 (.here) rfl ?_
  refine Ah (v := (.bool (Cm tk.fOp tk.fPc))) s2 rfl (.cons .sc (.cons .sc .nil)) (AdL (n + 11) (by omega) tk.fOp tk.fPc) ?_
  refine C5 ?_
  apply B7 ((!(Cm tk.fOp tk.fPc)) || (!(Bi tk.fClient)))
  ·intro b5 q5
   refine Ac ((Cm tk.fOp tk.fPc)) (fun h5 => ?_) (fun h5 => ?_)
   ·refine Ae (nF h5) ?_
    refine Ad (o' := 2) rfl ?_
    refine Ae (nF h5) ?_
    refine Al (c := .sc (.string tk.fClient)) s2 (.here) rfl ?_
    refine Ae (nF h5) ?_
    refine Iq rfl rfl (E2 _ tk.fClient (Gr ht.c1)) ?_
    refine Ae (nF h5) ?_
    refine C5 ?_
    refine C9 (nF h5) (Rm q5 (nF h5)) ?_
    exact Ba
   ·refine Aa (nT h5) ?_
    refine Aa (nT h5) ?_
    refine Aa (nT h5) ?_
    refine Aa (nT h5) ?_
    refine Da (nT h5) (Rn q5 (nT h5)) ?_
    exact Ba
  intro b5 q5
  apply B7 (b5 || ((tk.fClient.toList == (⟨#[]⟩ : ByteArray).toList) && (!b4)))
  ·intro b6 q6
   refine Ac (b5) (fun h6 => ?_) (fun h6 => ?_)
   ·refine Aa h6 ?_
    refine Aa h6 ?_
    refine Aa h6 ?_
    refine Aa h6 ?_
    refine Bt ?_
    refine Bt ?_
    refine Aa h6 ?_
    refine Da h6 (Rn q6 h6) ?_
    exact Ba
   ·refine Ae h6 ?_
    refine Ad (o' := 2) rfl ?_
    refine Ae h6 ?_
    refine Al (c := .sc (.string tk.fClient)) s2 (.here) rfl ?_
    refine Ae h6 ?_
    refine Ks ?_
    refine Ae h6 ?_
    apply B7 ((tk.fClient.toList == (⟨#[]⟩ : ByteArray).toList) && (!b4))
    ·intro b7 q7
     refine Ac ((tk.fClient.toList == (⟨#[]⟩ : ByteArray).toList)) (fun h7 => ?_) (fun h7 => ?_)
     ·refine Ae h7 ?_
      refine Ae h7 ?_
      refine C5 ?_
      refine Ae h6 ?_
      refine Da h7 (Er q7 h7) ?_
      exact Ba
     ·refine Aa h7 ?_
      refine Aa h7 ?_
      refine Ae h6 ?_
      refine C9 h7 (Ep q7 h7) ?_
      exact Ba
    intro b7 q7
    refine C9 h6 (by subst q7; exact Rm q6 h6) ?_
    exact Ba
  intro b6 q6
  apply B7 (b6 || (decide (tk.fH < 0)))
  ·intro b8 q8
   refine Ac (b6) (fun h8 => ?_) (fun h8 => ?_)
   ·refine Aa h8 ?_
    refine Aa h8 ?_
    refine Aa h8 ?_
    refine Da h8 (Rn q8 h8) ?_
    exact Ba
   ·refine Ae h8 ?_
    refine Ad (o' := 34) rfl ?_
    refine Ae h8 ?_
    refine Al (c := .sc (.int .i64 tk.fH)) s2 (.here) rfl ?_
    refine Ae h8 ?_
    refine D4 ?_
    refine C9 h8 (Rm q8 h8) ?_
    exact Ba
  intro b8 q8
  refine Ac (b8) (fun h9 => ?_) (fun h9 => ?_)
  ·refine A0 h9 ?_
   refine Aj rfl ?_
   have e : F1 tk = false := by
    clear s0 s2
    subst q8 q6 q5 q4
    unfold F1 Qx
    simp only [h3, h9, List.all_nil, Bool.true_and, if_true, if_false, Bool.false_eq_true]
    try rfl
   rw [e]
   first | done | rfl
  ·refine Bf h9 ?_
   refine Ad (o' := 28) rfl ?_
   refine Al (c := Bq C0 tk.fTo) s2 (.here) rfl ?_
   refine Cq ?_
   have hv : F1 tk = (tk.fTo.all Cu && Ga tk) := by
    clear s0 s2
    subst q8 q6 q5 q4
    unfold F1 Qx
    simp only [h3, h9, List.all_nil, Bool.true_and, if_true, if_false, Bool.false_eq_true]
    try rfl
   rw [hv]
   exact I6 n hn tk ht h3  tk.fTo [] _ 0 i1 _ rfl rfl (by omega) s2
def Qy (t : D3) : Bool := (((!(Cm t.fOp t.fPc) || !(Bi t.fClient)) || ((t.fClient.toList == (⟨#[]⟩ : ByteArray).toList) && (!(decide (t.fOp = 6)) || !(decide (t.fPc = 0))))) || decide (t.fH < 0)) || (decide (t.fOp = 7) && !(decide (t.fH = 0)))
def Fh (t : D3) : Bool := if ((decide (t.fOp ≤ 5) && (!(Ai t.fP) || !(Ge t.fOp t.fP.fType))) || (decide (5 < t.fOp) && !(A3 t.fP Kk))) = true then false else
 if (Hh t && decide (((t.fTo.length : Nat) : Int) = 0)) = true then false else (C3 t.fM || Ce t.fM)
def Ip (t : D3) : Bool := t.fKs.all Ce && Fh t
def Iv (t : D3) : Bool := if decide (t.fOp = 0) = true then Ch t else if Qy t = true then false else t.fTo.all Cu && Ip t
theorem AbK {op pc : Int} (h : Cm op pc = true) (h0 : decide (op = 0) = false) : 1 ≤ op ∧ op ≤ 7 := by
 have h0 : ¬ op = 0 := of_decide_eq_false h0
 unfold Cm at h
 by_cases h1 : 1 ≤ op ∧ op ≤ 7
 ·exact h1
 ·rw [if_neg (by omega), if_neg (by omega), if_neg (by omega), if_neg (by omega), if_neg (by omega), if_neg (by omega), decide_eq_false h0] at h
  cases h
theorem Aeo (t : D3) : Iv t = F1 t := by
 unfold Iv F1
 cases h0 : decide (t.fOp = 0)
 case true => rfl
 case false =>
  simp only [Bool.false_eq_true, if_false]
  cases hp : Cm t.fOp t.fPc
  ·have e1 : Qy t = true := by unfold Qy; rw [hp]; rfl
   have e2 : Qx t = true := by unfold Qx; rw [hp]; rfl
   rw [e1, e2]
   rfl
  ·have hr := AbK hp h0
   unfold Ip Fh Ga Qy Qx
   have hn : decide (0 < ((t.fTo.length : Nat) : Int)) = !decide (((t.fTo.length : Nat) : Int) = 0) := by
    by_cases h : ((t.fTo.length : Nat) : Int) = 0
    ·rw [decide_eq_true h, decide_eq_false (by omega)]
     rfl
    ·rw [decide_eq_false h, decide_eq_true (by omega)]
     rfl
   rw [hp, hn]
   by_cases h5 : t.fOp ≤ 5
   ·have hv : A5 t.fOp 1 5 = true := by
     unfold A5
     rw [decide_eq_true hr.1, decide_eq_true h5]
     rfl
    rw [AdF _ _ hv, hv, decide_eq_true h5, decide_eq_false (by omega : ¬ 5 < t.fOp), decide_eq_false (by omega : ¬ t.fOp = 6), decide_eq_false (by omega : ¬ t.fOp = 7)]
    generalize (t.fClient.toList == (⟨#[]⟩ : ByteArray).toList) = b1
    generalize decide (t.fPc = 0) = b2
    generalize decide (Dv t.fP.fType = t.fOp) = b3
    generalize decide (t.fH < 0) = b4
    generalize decide (t.fH = 0) = b5
    generalize decide (((t.fTo.length : Nat) : Int) = 0) = b6
    cases b1 <;> cases b4 <;> cases Bi t.fClient <;> cases Ai t.fP <;> cases b3 <;> cases b6 <;> cases Hh t <;> cases Ce t.fM <;> cases C3 t.fM <;> simp
   ·have hv : A5 t.fOp 1 5 = false := by
     unfold A5
     rw [decide_eq_false h5, Bool.and_false]
    rw [hv, decide_eq_false h5, decide_eq_true (by omega : 5 < t.fOp)]
    generalize (t.fClient.toList == (⟨#[]⟩ : ByteArray).toList) = b1
    generalize decide (t.fPc = 0) = b2
    generalize decide (t.fOp = 6) = b3
    generalize decide (t.fH < 0) = b4
    generalize decide (t.fH = 0) = b5
    generalize decide (t.fOp = 7) = b7
    generalize decide (((t.fTo.length : Nat) : Int) = 0) = b6
    cases b1 <;> cases b2 <;> cases b3 <;> cases b4 <;> cases b5 <;> cases b7 <;> cases Bi t.fClient <;> simp <;> cases A3 t.fP Kk <;> cases b6 <;> cases Hh t <;> cases Ce t.fM <;> cases C3 t.fM <;> simp
theorem Jg (n : Nat) (hn : 1048576 < n) (tk : D3) (ht : Nx tk) (h3 : (decide (tk.fOp = 0)) = false)  : ∀ (t pre : List Fl) (m : Nat) (i : Int) (i1 : Nat) (H : Af), tk.fKs = pre ++ t → i = ((pre.length : Nat) : Int) → t.length < m → Sep H [.blk i1 (Dw tk) true] → Gd (· = some (.sc (.bool (t.all Ce && Fh tk)))) (Lu (PR (n + 13) AV) (n + 13) (fun x H => A7 As E0.tp 4 H x) m (.ptr i1 0) (.sc (.int .i64 i)) H)
 | [], pre, m + 1, i, i1, H, he, hi, hm, s0 => by
  obtain rfl : pre = tk.fKs := by simpa using he.symm
  have hl1 := ht.l1
  have hl2 := ht.l2
  have hlen := ht.l2
  rw [Lu]
  try simp only [A8, Az, A2, Cr, Ay, A1, Be, Bu, Bw, Dp]
  refine Ad (o' := 33) rfl ?_
  refine Al (c := Bq B8 tk.fKs) s0 (.here) rfl ?_
  refine Cq ?_
  refine D4 ?_
  refine Bf (by simp [hi]) ?_
  refine Ad (o' := 0) rfl ?_
  refine Al (c := .sc (.int .i64 tk.fOp)) s0 (.here) rfl ?_
  refine Hk ?_
  apply B7 ((decide (tk.fOp ≤ 5)) && ((!(Ai tk.fP)) || (!(Ge tk.fOp tk.fP.fType))))
  ·intro b201 q201
   refine Ac ((decide (tk.fOp ≤ 5))) (fun h201 => ?_) (fun h201 => ?_)
   ·refine Ae h201 ?_
    refine Ad (o' := 3) rfl ?_
    refine Ae h201 ?_
    refine H0 (ds := A6 tk.fP) s0 (.here) (Bs rfl) rfl ?_
    refine Ae h201 ?_
    refine Ah (v := (.bool (Ai tk.fP))) s0 rfl (.aggF (B4 _) .nil) (Aai (n + 3) (by omega) tk.fP ht.hp) ?_
    refine Ae h201 ?_
    refine C5 ?_
    refine Ae h201 ?_
    apply B7 ((!(Ai tk.fP)) || (!(Ge tk.fOp tk.fP.fType)))
    ·intro b202 q202
     refine Ac ((Ai tk.fP)) (fun h202 => ?_) (fun h202 => ?_)
     ·refine Ae (nF h202) ?_
      refine Ad (o' := 0) rfl ?_
      refine Ae (nF h202) ?_
      refine Al (c := .sc (.int .i64 tk.fOp)) s0 (.here) rfl ?_
      refine Ae (nF h202) ?_
      refine Ad (o' := 3) rfl ?_
      refine Ae (nF h202) ?_
      refine Ad (o' := 3) rfl ?_
      refine Ae (nF h202) ?_
      refine Al (c := .sc (.int .i64 tk.fP.fType)) s0 (.here) rfl ?_
      refine Ae (nF h202) ?_
      refine Ah (v := (.bool (Ge tk.fOp tk.fP.fType))) s0 rfl (.cons .sc (.cons .sc .nil)) (Ag0 (n + 11) (by omega) tk.fOp tk.fP.fType) ?_
      refine Ae (nF h202) ?_
      refine C5 ?_
      refine Ae h201 ?_
      refine C9 (nF h202) (Rm q202 (nF h202)) ?_
      exact Ba
     ·refine Aa (nT h202) ?_
      refine Aa (nT h202) ?_
      refine Aa (nT h202) ?_
      refine Aa (nT h202) ?_
      refine Aa (nT h202) ?_
      refine Aa (nT h202) ?_
      refine Aa (nT h202) ?_
      refine Ae h201 ?_
      refine Da (nT h202) (Rn q202 (nT h202)) ?_
      exact Ba
    intro b202 q202
    refine Da h201 (by subst q202; exact Er q201 h201) ?_
    exact Ba
   ·refine Aa h201 ?_
    refine Aa h201 ?_
    refine Aa h201 ?_
    refine Aa h201 ?_
    refine Aa h201 ?_
    refine Bt ?_
    refine Bt ?_
    refine Bt ?_
    refine Bt ?_
    refine Bt ?_
    refine Bt ?_
    refine Bt ?_
    refine Aa h201 ?_
    refine C9 h201 (Ep q201 h201) ?_
    exact Ba
  intro b201 q201
  apply B7 (b201 || ((decide (5 < tk.fOp)) && (!(A3 tk.fP Kk))))
  ·intro b203 q203
   refine Ac (b201) (fun h203 => ?_) (fun h203 => ?_)
   ·refine Aa h203 ?_
    refine Aa h203 ?_
    refine Aa h203 ?_
    refine Aa h203 ?_
    refine Bt ?_
    refine Bt ?_
    refine Bt ?_
    refine Bt ?_
    refine Bt ?_
    refine Aa h203 ?_
    refine Da h203 (Rn q203 h203) ?_
    exact Ba
   ·refine Ae h203 ?_
    refine Ad (o' := 0) rfl ?_
    refine Ae h203 ?_
    refine Al (c := .sc (.int .i64 tk.fOp)) s0 (.here) rfl ?_
    refine Ae h203 ?_
    refine Pt ?_
    refine Ae h203 ?_
    apply B7 ((decide (5 < tk.fOp)) && (!(A3 tk.fP Kk)))
    ·intro b204 q204
     refine Ac ((decide (5 < tk.fOp))) (fun h204 => ?_) (fun h204 => ?_)
     ·refine Ae h204 ?_
      refine Ad (o' := 3) rfl ?_
      refine Ae h204 ?_
      refine H0 (ds := A6 tk.fP) s0 (.here) (Bs rfl) rfl ?_
      refine Ae h204 ?_
      refine Jx (cs := [.sc (.int .i64 0), .sc (.bool false), .sc (.int .i64 0), .sc (.bool false), .sc (.int .i64 0), .sc (.string (⟨#[]⟩)), .nl, .sc (.string (⟨#[]⟩)), .sc (.int .i64 0), .sc (.bool false), .sc (.int .i64 0), .sc (.bool false), .sc (.string (⟨#[]⟩)), .nl, .sc (.int .i64 0), .sc (.bool false), .sc (.bool false), .sc (.string (⟨#[]⟩)), .sc (.bool false), .nl, .sc (.int .i64 0), .sc (.bool false), .nl, .nl, .nl]) rfl ?_
      refine Ae h204 ?_
      refine Ah (v := (.bool (A3 tk.fP Kk))) s0 rfl (.aggF (B4 _) (.agg (.cons .sc (.cons .sc (.cons .sc (.cons .sc (.cons .sc (.cons .sc (.cons .nl (.cons .sc (.cons .sc (.cons .sc (.cons .sc (.cons .sc (.cons .sc (.cons .nl (.cons .sc (.cons .sc (.cons .sc (.cons .sc (.cons .sc (.cons .nl (.cons .sc (.cons .sc (.cons .nl (.cons .nl (.cons .nl .nil))))))))))))))))))))))))) .nil)) (Fy (n + 11) (by omega) _ tk.fP Kk ht.hp.l1 ht.hp.l2 ht.hp.l3) ?_
      refine Ae h204 ?_
      refine C5 ?_
      refine Ae h203 ?_
      refine Da h204 (Er q204 h204) ?_
      exact Ba
     ·refine Aa h204 ?_
      refine Aa h204 ?_
      refine Aa h204 ?_
      refine Aa h204 ?_
      refine Aa h204 ?_
      refine Ae h203 ?_
      refine C9 h204 (Ep q204 h204) ?_
      exact Ba
    intro b204 q204
    refine C9 h203 (by subst q204; exact Rm q203 h203) ?_
    exact Ba
  intro b203 q203
  refine Ac (b203) (fun h205 => ?_) (fun h205 => ?_)
  ·refine A0 h205 ?_
   refine Aj rfl ?_
   have e : ([].all Ce && Fh tk) = false := by
    clear s0
    subst q203 q201
    unfold Fh Hh
    simp only [h3, h205, List.all_nil, Bool.true_and, if_true, if_false, Bool.false_eq_true]
    try rfl
   rw [e]
   first | done | rfl
  ·refine Bf h205 ?_
   refine Ad (o' := 0) rfl ?_
   refine Al (c := .sc (.int .i64 tk.fOp)) s0 (.here) rfl ?_
   refine Au ?_
   apply B7 ((decide (tk.fOp = 2)) && (decide (tk.fPc = 5)))
   ·intro b206 q206
    refine Ac ((decide (tk.fOp = 2))) (fun h206 => ?_) (fun h206 => ?_)
    ·refine Ae h206 ?_
     refine Ad (o' := 1) rfl ?_
     refine Ae h206 ?_
     refine Al (c := .sc (.int .i64 tk.fPc)) s0 (.here) rfl ?_
     refine Ae h206 ?_
     refine Au ?_
     refine Da h206 (Er q206 h206) ?_
     exact Ba
    ·refine Aa h206 ?_
     refine Aa h206 ?_
     refine Aa h206 ?_
     refine C9 h206 (Ep q206 h206) ?_
     exact Ba
   intro b206 q206
   apply B7 (b206 || ((decide (tk.fOp = 6)) && (decide (tk.fPc = 10))))
   ·intro b207 q207
    refine Ac (b206) (fun h207 => ?_) (fun h207 => ?_)
    ·refine Aa h207 ?_
     refine Aa h207 ?_
     refine Aa h207 ?_
     refine Aa h207 ?_
     refine Bt ?_
     refine Bt ?_
     refine Bt ?_
     refine Aa h207 ?_
     refine Da h207 (Rn q207 h207) ?_
     exact Ba
    ·refine Ae h207 ?_
     refine Ad (o' := 0) rfl ?_
     refine Ae h207 ?_
     refine Al (c := .sc (.int .i64 tk.fOp)) s0 (.here) rfl ?_
     refine Ae h207 ?_
     refine Au ?_
     refine Ae h207 ?_
     apply B7 ((decide (tk.fOp = 6)) && (decide (tk.fPc = 10)))
     ·intro b208 q208
      refine Ac ((decide (tk.fOp = 6))) (fun h208 => ?_) (fun h208 => ?_)
      ·refine Ae h208 ?_
       refine Ad (o' := 1) rfl ?_
       refine Ae h208 ?_
       refine Al (c := .sc (.int .i64 tk.fPc)) s0 (.here) rfl ?_
       refine Ae h208 ?_
       refine Au ?_
       refine Ae h207 ?_
       refine Da h208 (Er q208 h208) ?_
       exact Ba
      ·refine Aa h208 ?_
       refine Aa h208 ?_
       refine Aa h208 ?_
       refine Ae h207 ?_
       refine C9 h208 (Ep q208 h208) ?_
       exact Ba
     intro b208 q208
     refine C9 h207 (by subst q208; exact Rm q207 h207) ?_
     exact Ba
   intro b207 q207
   apply B7 (b207 && (decide (((tk.fTo.length : Nat) : Int) = 0)))
   ·intro b209 q209
    refine Ac (b207) (fun h209 => ?_) (fun h209 => ?_)
    ·refine Ae h209 ?_
     refine Ad (o' := 28) rfl ?_
     refine Ae h209 ?_
     refine Al (c := Bq C0 tk.fTo) s0 (.here) rfl ?_
     refine Ae h209 ?_
     refine Cq ?_
     refine Ae h209 ?_
     refine Au ?_
     refine Da h209 (Er q209 h209) ?_
     exact Ba
    ·refine Aa h209 ?_
     refine Aa h209 ?_
     refine Aa h209 ?_
     refine Aa h209 ?_
     refine C9 h209 (Ep q209 h209) ?_
     exact Ba
   intro b209 q209
   refine Ac (b209) (fun h210 => ?_) (fun h210 => ?_)
   ·refine A0 h210 ?_
    refine Aj rfl ?_
    have e : ([].all Ce && Fh tk) = false := by
     clear s0
     subst q209 q207 q206 q203 q201
     unfold Fh Hh
     simp only [h3, h205, h210, List.all_nil, Bool.true_and, if_true, if_false, Bool.false_eq_true]
     try rfl
    rw [e]
    first | done | rfl
   ·refine Bf h210 ?_
    refine Ad (o' := 29) rfl ?_
    refine H0 (ds := B8 tk.fM) s0 (.here) (Bs rfl) rfl ?_
    refine Ah (v := (.bool (C3 tk.fM))) s0 rfl (.aggF (Eo _) .nil) (AbC (n + 12) (by omega) tk.fM) ?_
    apply B7 ((C3 tk.fM) || (Ce tk.fM))
    ·intro b211 q211
     refine Ac ((C3 tk.fM)) (fun h211 => ?_) (fun h211 => ?_)
     ·refine Aa h211 ?_
      refine Aa h211 ?_
      refine Aa h211 ?_
      refine Da h211 (Rn q211 h211) ?_
      exact Ba
     ·refine Ae h211 ?_
      refine Ad (o' := 29) rfl ?_
      refine Ae h211 ?_
      refine H0 (ds := B8 tk.fM) s0 (.here) (Bs rfl) rfl ?_
      refine Ae h211 ?_
      refine Ah (v := (.bool (Ce tk.fM))) s0 rfl (.aggF (Eo _) .nil) (Ua (n + 7) (by omega) _ tk.fM ht.m1) ?_
      refine C9 h211 (Rm q211 h211) ?_
      exact Ba
    intro b211 q211
    refine Aj rfl ?_
    have e : ([].all Ce && Fh tk) = b211 := by
     clear s0
     subst q211 q209 q207 q206 q203 q201
     unfold Fh Hh
     simp only [h3, h205, h210, List.all_nil, Bool.true_and, if_true, if_false, Bool.false_eq_true]
     try rfl
    rw [e]
    first | done | rfl
 | y :: t, pre, m + 1, i, i1, H, he, hi, hm, s0 => by
  have hlt : pre.length < tk.fKs.length := by rw [he]; simp
  have hl1 := ht.l1
  have hl2 := ht.l2
  have hlen := ht.l2
  rw [Lu]
  try simp only [A8, Az, A2, Cr, Ay, A1, Be, Bu, Bw, Dp]
  refine Ad (o' := 33) rfl ?_
  refine Al (c := Bq B8 tk.fKs) s0 (.here) rfl ?_
  refine Cq ?_
  refine D4 ?_
  refine A0 (by simp [hi]; omega) ?_
  refine Ad (o' := 33) rfl ?_
  refine Al (c := Bq B8 tk.fKs) s0 (.here) rfl ?_
  refine Ir hi Ky (by decide) he ?_
  refine Xh (Ky _) ?_
  refine Ah (v := (.bool (Ce y))) s0 rfl (.aggF (Eo _) .nil) (Ua (n + 7) (by omega) _ y (ht.k1 y (by rw [he]; simp))) ?_
  refine C5 ?_
  refine Ac ((Ce y)) (fun h201 => ?_) (fun h201 => ?_)
  ·refine Bf (nF h201) ?_
   refine Fj (by omega) (by omega) ?_
   have e202 : ((y :: t).all Ce && Fh tk) = (t.all Ce && Fh tk) := by
    clear s0
    try simp only [decide_eq_true_eq, decide_eq_false_iff_not, bne_iff_ne, beq_iff_eq, beq_eq_false_iff_ne] at h3 h201
    simp only [List.all_cons, Bool.true_and, h3, h201]
   rw [e202]
   exact Jg n hn tk ht h3  t (pre ++ [y]) m _ i1 _ (by rw [he]; simp) (by rw [hi]; simp) (by simpa using hm) (by simpa only [List.map_append, List.map_cons, List.map_nil] using (s0.sel (.cons (.here) .nil)))
  ·refine A0 (nT h201) ?_
   refine Aj rfl ?_
   have e : ((y :: t).all Ce && Fh tk) = false := by
    clear s0
    simp only [List.all_cons, Bool.false_and, h3, h201]
   rw [e]
   first | done | rfl
theorem Jf (n : Nat) (hn : 1048576 < n) (tk : D3) (ht : Nx tk) (h3 : (decide (tk.fOp = 0)) = false)  : ∀ (t pre : List Jm) (m : Nat) (i : Int) (i1 : Nat) (H : Af), tk.fTo = pre ++ t → i = ((pre.length : Nat) : Int) → t.length < m → Sep H [.blk i1 (Dw tk) true] → Gd (· = some (.sc (.bool (t.all Cu && Ip tk)))) (Jv (PR (n + 13) AV) (n + 13) (fun x H => A7 As E0.tp 4 H x) m (.ptr i1 0) (.sc (.int .i64 i)) H)
 | [], pre, m + 1, i, i1, H, he, hi, hm, s0 => by
  obtain rfl : pre = tk.fTo := by simpa using he.symm
  have hl1 := ht.l1
  have hl2 := ht.l2
  have hlen := ht.l1
  rw [Jv]
  try simp only [A8, Az, A2, Cr, Ay, Bu, Bw]
  refine Ad (o' := 28) rfl ?_
  refine Al (c := Bq C0 tk.fTo) s0 (.here) rfl ?_
  refine Cq ?_
  refine D4 ?_
  refine Bf (by simp [hi]) ?_
  rw [List.all_nil, Bool.true_and]
  have hv : Ip tk = (tk.fKs.all Ce && Fh tk) := rfl
  rw [hv]
  exact Jg n hn tk ht h3  tk.fKs [] _ 0 i1 _ rfl rfl (by omega) s0
 | y :: t, pre, m + 1, i, i1, H, he, hi, hm, s0 => by
  have hlt : pre.length < tk.fTo.length := by rw [he]; simp
  have hl1 := ht.l1
  have hl2 := ht.l2
  have hlen := ht.l1
  rw [Jv]
  try simp only [A8, Az, A2, Cr, Ay, Bu, Bw]
  refine Ad (o' := 28) rfl ?_
  refine Al (c := Bq C0 tk.fTo) s0 (.here) rfl ?_
  refine Cq ?_
  refine D4 ?_
  refine A0 (by simp [hi]; omega) ?_
  refine Ad (o' := 28) rfl ?_
  refine Al (c := Bq C0 tk.fTo) s0 (.here) rfl ?_
  refine Ir hi Kz (by decide) he ?_
  refine Xh (Kz _) ?_
  refine Ah (v := (.bool (Cu y))) s0 rfl (.aggF (I4 _) .nil) (AbS (n + 8) (by omega) y (ht.s1 y (by rw [he]; simp))) ?_
  refine C5 ?_
  refine Ac ((Cu y)) (fun h201 => ?_) (fun h201 => ?_)
  ·refine Bf (nF h201) ?_
   refine Fj (by omega) (by omega) ?_
   have e202 : ((y :: t).all Cu && Ip tk) = (t.all Cu && Ip tk) := by
    clear s0
    try simp only [decide_eq_true_eq, decide_eq_false_iff_not, bne_iff_ne, beq_iff_eq, beq_eq_false_iff_ne] at h3 h201
    simp only [List.all_cons, Bool.true_and, h3, h201]
   rw [e202]
   exact Jf n hn tk ht h3  t (pre ++ [y]) m _ i1 _ (by rw [he]; simp) (by rw [hi]; simp) (by simpa using hm) (by simpa only [List.map_append, List.map_cons, List.map_nil] using (s0.sel (.cons (.here) .nil)))
  ·refine A0 (nT h201) ?_
   refine Aj rfl ?_
   have e : ((y :: t).all Cu && Ip tk) = false := by
    clear s0
    simp only [List.all_cons, Bool.false_and, h3, h201]
   rw [e]
   first | done | rfl
theorem Q8 (n : Nat) (hn : 1048576 < n) (tk : D3) (ht : Nx tk) : Bv E0 (n + 14) 4 42 [.agg (Dw tk)] = some (.sc (.bool (Iv tk))) := by
 rw [Av, Af8, f42]
 refine De (G := (· = some (.sc (.bool (Iv tk))))) ?_
 have hl1 := ht.l1
 have hl2 := ht.l2
 try simp only [Cl, A8, Az, A2, Cr, Ay, A1, Be]
 have s0 : Sep [] [] := Dd
 refine Hz s0 (Dr (Ev _)) fun i1 H s2 => ?_
 refine Ad (o' := 0) rfl ?_
 refine Al (c := .sc (.int .i64 tk.fOp)) s2 (.here) rfl ?_
 refine Au ?_
 refine Ac ((decide (tk.fOp = 0))) (fun h3 => ?_) (fun h3 => ?_)
 ·refine A0 h3 ?_
  refine Bo s2 (.here) rfl ?_
  refine Ah (v := (.bool (Ch tk))) s2 rfl (.aggF (Ev _) .nil) (Afg (n + 9) (by omega) tk ht) ?_
  refine Aj rfl ?_
  have e : Iv tk = (Ch tk) := by
   clear s0 s2
   unfold Iv Qy
   simp only [h3, List.all_nil, Bool.true_and, if_true, if_false, Bool.false_eq_true]
   try rfl
  rw [e]
  first | done | rfl
 ·refine Bf h3 ?_
  refine Ad (o' := 0) rfl ?_
  refine Al (c := .sc (.int .i64 tk.fOp)) s2 (.here) rfl ?_
  refine Ad (o' := 1) rfl ?_
  refine Al (c := .sc (.int .i64 tk.fPc)) s2 (.here) rfl ?_
  refine Ah (v := (.bool (Cm tk.fOp tk.fPc))) s2 rfl (.cons .sc (.cons .sc .nil)) (Aek (n + 11) (by omega) tk.fOp tk.fPc) ?_
  refine C5 ?_
  apply B7 ((!(Cm tk.fOp tk.fPc)) || (!(Bi tk.fClient)))
  ·intro b4 q4
   refine Ac ((Cm tk.fOp tk.fPc)) (fun h4 => ?_) (fun h4 => ?_)
   ·refine Ae (nF h4) ?_
    refine Ad (o' := 2) rfl ?_
    refine Ae (nF h4) ?_
    refine Al (c := .sc (.string tk.fClient)) s2 (.here) rfl ?_
    refine Ae (nF h4) ?_
    refine Ah (v := (.bool (Bi tk.fClient))) s2 rfl (.cons .sc .nil) (Ef (n + 9) (by omega) _ tk.fClient) ?_
    refine Ae (nF h4) ?_
    refine C5 ?_
    refine C9 (nF h4) (Rm q4 (nF h4)) ?_
    exact Ba
   ·refine Aa (nT h4) ?_
    refine Aa (nT h4) ?_
    refine Aa (nT h4) ?_
    refine Aa (nT h4) ?_
    refine Da (nT h4) (Rn q4 (nT h4)) ?_
    exact Ba
  intro b4 q4
  apply B7 (b4 || ((tk.fClient.toList == (⟨#[]⟩ : ByteArray).toList) && ((!(decide (tk.fOp = 6))) || (!(decide (tk.fPc = 0))))))
  ·intro b5 q5
   refine Ac (b4) (fun h5 => ?_) (fun h5 => ?_)
   ·refine Aa h5 ?_
    refine Aa h5 ?_
    refine Aa h5 ?_
    refine Aa h5 ?_
    refine Bt ?_
    refine Bt ?_
    refine Bt ?_
    refine Bt ?_
    refine Bt ?_
    refine Bt ?_
    refine Bt ?_
    refine Bt ?_
    refine Aa h5 ?_
    refine Da h5 (Rn q5 h5) ?_
    exact Ba
   ·refine Ae h5 ?_
    refine Ad (o' := 2) rfl ?_
    refine Ae h5 ?_
    refine Al (c := .sc (.string tk.fClient)) s2 (.here) rfl ?_
    refine Ae h5 ?_
    refine Ks ?_
    refine Ae h5 ?_
    apply B7 ((tk.fClient.toList == (⟨#[]⟩ : ByteArray).toList) && ((!(decide (tk.fOp = 6))) || (!(decide (tk.fPc = 0)))))
    ·intro b6 q6
     refine Ac ((tk.fClient.toList == (⟨#[]⟩ : ByteArray).toList)) (fun h6 => ?_) (fun h6 => ?_)
     ·refine Ae h6 ?_
      refine Ad (o' := 0) rfl ?_
      refine Ae h6 ?_
      refine Al (c := .sc (.int .i64 tk.fOp)) s2 (.here) rfl ?_
      refine Ae h6 ?_
      refine N1 ?_
      refine Ae h6 ?_
      apply B7 ((!(decide (tk.fOp = 6))) || (!(decide (tk.fPc = 0))))
      ·intro b7 q7
       refine Ac ((decide (tk.fOp = 6))) (fun h7 => ?_) (fun h7 => ?_)
       ·refine Ae (nF h7) ?_
        refine Ad (o' := 1) rfl ?_
        refine Ae (nF h7) ?_
        refine Al (c := .sc (.int .i64 tk.fPc)) s2 (.here) rfl ?_
        refine Ae (nF h7) ?_
        refine N1 ?_
        refine Ae h6 ?_
        refine C9 (nF h7) (Rm q7 (nF h7)) ?_
        exact Ba
       ·refine Aa (nT h7) ?_
        refine Aa (nT h7) ?_
        refine Aa (nT h7) ?_
        refine Ae h6 ?_
        refine Da (nT h7) (Rn q7 (nT h7)) ?_
        exact Ba
      intro b7 q7
      refine Ae h5 ?_
      refine Da h6 (by subst q7; exact Er q6 h6) ?_
      exact Ba
     ·refine Aa h6 ?_
      refine Aa h6 ?_
      refine Aa h6 ?_
      refine Aa h6 ?_
      refine Bt ?_
      refine Bt ?_
      refine Bt ?_
      refine Aa h6 ?_
      refine Ae h5 ?_
      refine C9 h6 (Ep q6 h6) ?_
      exact Ba
    intro b6 q6
    refine C9 h5 (by subst q6; exact Rm q5 h5) ?_
    exact Ba
  intro b5 q5
  apply B7 (b5 || (decide (tk.fH < 0)))
  ·intro b8 q8
   refine Ac (b5) (fun h8 => ?_) (fun h8 => ?_)
   ·refine Aa h8 ?_
    refine Aa h8 ?_
    refine Aa h8 ?_
    refine Da h8 (Rn q8 h8) ?_
    exact Ba
   ·refine Ae h8 ?_
    refine Ad (o' := 34) rfl ?_
    refine Ae h8 ?_
    refine Al (c := .sc (.int .i64 tk.fH)) s2 (.here) rfl ?_
    refine Ae h8 ?_
    refine D4 ?_
    refine C9 h8 (Rm q8 h8) ?_
    exact Ba
  intro b8 q8
  apply B7 (b8 || ((decide (tk.fOp = 7)) && (!(decide (tk.fH = 0)))))
  ·intro b9 q9
   refine Ac (b8) (fun h9 => ?_) (fun h9 => ?_)
   ·refine Aa h9 ?_
    refine Aa h9 ?_
    refine Aa h9 ?_
    refine Aa h9 ?_
    refine Bt ?_
    refine Bt ?_
    refine Bt ?_
    refine Aa h9 ?_
    refine Da h9 (Rn q9 h9) ?_
    exact Ba
   ·refine Ae h9 ?_
    refine Ad (o' := 0) rfl ?_
    refine Ae h9 ?_
    refine Al (c := .sc (.int .i64 tk.fOp)) s2 (.here) rfl ?_
    refine Ae h9 ?_
    refine Au ?_
    refine Ae h9 ?_
    apply B7 ((decide (tk.fOp = 7)) && (!(decide (tk.fH = 0))))
    ·intro b10 q10
     refine Ac ((decide (tk.fOp = 7))) (fun h10 => ?_) (fun h10 => ?_)
     ·refine Ae h10 ?_
      refine Ad (o' := 34) rfl ?_
      refine Ae h10 ?_
      refine Al (c := .sc (.int .i64 tk.fH)) s2 (.here) rfl ?_
      refine Ae h10 ?_
      refine N1 ?_
      refine Ae h9 ?_
      refine Da h10 (Er q10 h10) ?_
      exact Ba
     ·refine Aa h10 ?_
      refine Aa h10 ?_
      refine Aa h10 ?_
      refine Ae h9 ?_
      refine C9 h10 (Ep q10 h10) ?_
      exact Ba
    intro b10 q10
    refine C9 h9 (by subst q10; exact Rm q9 h9) ?_
    exact Ba
  intro b9 q9
  refine Ac (b9) (fun h11 => ?_) (fun h11 => ?_)
  ·refine A0 h11 ?_
   refine Aj rfl ?_
   have e : Iv tk = false := by
    clear s0 s2
    subst q9 q8 q5 q4
    unfold Iv Qy
    simp only [h3, h11, List.all_nil, Bool.true_and, if_true, if_false, Bool.false_eq_true]
    try rfl
   rw [e]
   first | done | rfl
  ·refine Bf h11 ?_
   have hv : Iv tk = (tk.fTo.all Cu && Ip tk) := by
    clear s0 s2
    subst q9 q8 q5 q4
    unfold Iv Qy
    simp only [h3, h11, List.all_nil, Bool.true_and, if_true, if_false, Bool.false_eq_true]
    try rfl
   rw [hv]
   exact Jf n hn tk ht h3  tk.fTo [] _ 0 i1 _ rfl rfl (by omega) s2
theorem Sz (n : Nat) (hn : 1048576 < n) (x0 : D3) (k0 : P8 x0) (b0 : Fs x0 ≤ 1048576) : Bv E0 (n + 14) 4 42 [.agg (Dw x0)] = some (.sc (.bool (F1 x0))) := by
 rw [← Aeo]
 exact Q8 n hn x0 (Acd x0 b0)
theorem Sm (n : Nat) (hn : 1048576 < n) (x0 : D3) (k0 : P8 x0) (b0 : Fs x0 ≤ 1048576) : Bv E0 (n + 14) 4 44 [.agg (Dw x0)] = some (.sc (.bool (F1 x0))) := Q7 n hn x0 (Acd x0 b0)
end
end Go.Proofs.YtjiahcekpohehaaGreatDoor.Abs
namespace Go.Proofs.YtjiahcekpohehaaGreatDoor.Abs
open Go
set_option linter.unusedVariables false
set_option linter.unusedSimpArgs false
theorem Vt (n : Nat) (hn : 1048576 < n) (x0 : D3) (k0 : P8 x0) : Bv E0 (n + 30) 4 6 [.agg (Dw x0)] = some (.sc (.bool true)) := by
 rw [Av, Agq, f6]
 simp only [Cl, Dm, Az, Cw, A2, Do, Cr, Ay, C7]
 refine AfQ (Ev x0) fun it1 ht1 => ?_
 refine Rl ht1 (J4 x0) ?_
 refine Ag9 rfl (Cn (Hv _ (Ev x0)) (Cn (En _ _) Fp)) (AbX (n + 25) (by omega) _ x0 k0 _ (by omega) (by omega)) (by omega) rfl fun b0 => ?_
 refine Rl ht1 (J4 x0) ?_
 refine Vz rfl (Cn (Hv _ (Ev x0)) Fp) (Qt (n + 25) (by omega) x0 (by omega)) (Ev x0) (Ss S3 (Ot 4 x0)) fun Xt13 yt13 lt13 et13 wt13 => ?_
 replace ht1 := Hw ht1 Xt13
 refine Fk rfl (Cn wt13 Fp) (Sz (n + 15) (by omega) x0 k0 (by omega)) ?_
 refine Rl ht1 (J4 x0) ?_
 refine Vz rfl (Cn (Hv _ (Ev x0)) Fp) (Qt (n + 25) (by omega) x0 (by omega)) (Ev x0) (Ss S3 (Ot 4 x0)) fun Xt16 yt16 lt16 et16 wt16 => ?_
 replace ht1 := Hw ht1 Xt16
 replace wt13 := wt13.grow Xt16
 refine AbA rfl (lt16.trans (J4 x0)) et16 fun it5 ht5 => ?_
 replace ht1 := Hw ht1 [⟨yt16, true, true⟩]
 replace wt13 := wt13.grow [⟨yt16, true, true⟩]
 replace wt16 := wt16.grow [⟨yt16, true, true⟩]
 refine Rl ht5 (lt16.trans (J4 x0)) ?_
 refine Fk rfl (Cn wt16 Fp) (Sm (n + 15) (by omega) x0 k0 (by omega)) ?_
 refine AfR ?_
 refine Rl ht5 (lt16.trans (J4 x0)) ?_
 refine Rl ht1 (J4 x0) ?_
 refine Vz rfl (Cn (Hv _ (Ev x0)) Fp) (Qt (n + 25) (by omega) x0 (by omega)) (Ev x0) (Ss S3 (Ot 4 x0)) fun Xt24 yt24 lt24 et24 wt24 => ?_
 replace ht1 := Hw ht1 Xt24
 replace wt13 := wt13.grow Xt24
 replace wt16 := wt16.grow Xt24
 replace ht5 := Hw ht5 Xt24
 refine Ag8 rfl (Cn wt16 (Cn wt24 Fp)) (Aa1 (n + 25) (by omega) _ x0 (by omega)) ?_
 rfl
end Go.Proofs.YtjiahcekpohehaaGreatDoor.Abs
namespace Go.Proofs.YtjiahcekpohehaaGreatDoor.fnExactTaskOk
open Go Go.Shelf Go.Lib Go.ChangeShapes Go.WideShapes Go.ChangeAt Go.RowKit
open Go.Proofs.YtjiahcekpohehaaGreatDoor.Abs
set_option linter.unusedVariables false
theorem own : ownKnob Tryz.prog.godebug = none := by kernel_rfl
theorem AdO : laidOutB Tryz.prog = true := by kernel_rfl
theorem types : ([81].all (tyB As 14)) = true := by kernel_rfl
theorem AbN : ([81].all fun t => Tryz.prog.readableRec t && decide (t < Tryz.prog.types.size)) = true := by kernel_rfl
theorem AgE {xs : List AV} (h : AfY As 14 [81] xs) : ∃ n, Bv E0 n 4 6 xs = some (.sc (.bool true)) := by
 obtain ⟨y0, ys0, rfl, ⟨cs0, h0, rfl⟩, h⟩ := h
 obtain rfl := h
 obtain ⟨x0, rfl, k0⟩ := AbE h0
 exact ⟨_, Vt 1048577 (by omega) x0 k0⟩
def wArgs : Array Value := #[.agg #[.int .i64 0, .int .i64 0, .string ⟨#[]⟩, .int .i64 0, .bool false, .int .i64 0, .bool false, .int .i64 0, .string ⟨#[]⟩, .slice none 0 0, .string ⟨#[]⟩, .int .i64 0, .bool false, .int .i64 0, .bool false, .string ⟨#[]⟩, .slice none 0 0, .int .i64 0, .bool false, .bool false, .string ⟨#[]⟩, .bool false, .slice none 0 0, .int .i64 0, .bool false, .slice none 0 0, .slice none 0 0, .slice none 0 0, .slice none 0 0, .string ⟨#[]⟩, .slice none 0 0, .int .i64 0, .bool false, .slice none 0 0, .int .i64 0]]
noncomputable def Le (os : Os) : World :=
 let w0 := World.holding Tryz.prog os ⟨#[], #[], []⟩
 let put (h : Array Obj) (g : Nat) (cs : Array Value) : Array Obj := h.modify g fun
  | .cells _ t frozen => .cells cs t frozen
  | o => o
 let h1 := put w0.heap 0 (Lib.firstTab.map fun z => Value.int .u8 z).toArray
 let h2 := put h1 1 ((List.range 16).flatMap fun i => [Value.int .u8 (Lib.accLo i), Value.int .u8 (Lib.accHi i)]).toArray
 { w0 with heap := h2 }
theorem Ab6 (os : Os) (args : Array Value) : laidMet Tryz.prog Rows.fnExactTaskOkRow.laid ((Le os).forCall (fun _ _ => 0) ⟨#[], args, []⟩).memory :=
 (LaidIn.of_run (l := Rows.fnExactTaskOkRow.laid) [0, 1] 8 (by kernel_rfl) (by kernel_rfl) (by kernel_rfl) (by kernel_rfl)).met
set_option maxRecDepth 100000 in
theorem Ui (os : Os) {H : Type} (enc : TypeId × Value → H) :
  (OpenSpec.ofChange Rows.fnExactTaskOkSpec).preRow enc Tryz.prog Tryz.f6 Rows.fnExactTaskOkRow.domain false Rows.fnExactTaskOkRow.laid ((Le os).forCall (fun _ _ => 0) ⟨#[], wArgs, []⟩).memory wArgs := by
 have hw : ((DataW.whole enc Tryz.prog ((Le os).forCall (fun _ _ => 0) ⟨#[], wArgs, []⟩).memory Tryz.f6.params.toList (OpenSpec.ofChange Rows.fnExactTaskOkSpec).vars false wArgs.toList 8).map (fun x => x.2.1)) = some [] := by kernel_rfl
 obtain ⟨⟨x1, x2, x3⟩, hx, hx1⟩ := Option.map_eq_some_iff.1 hw
 simp only at hx1
 subst hx1
 exact OpenSpec.preRow_of_cond 8 hx rfl (fun k hk => by cases hk) rfl (Ab6 os _)
set_option maxRecDepth 100000 in
set_option maxHeartbeats 2000000 in
theorem lifted (os : Os) (started : os.Started) (H : Type) (enc : TypeId × Value → H) (F : Stop.Interp) :
  ReturnsInHanded {} Tryz.checked os 6 .any ((OpenSpec.ofChange Rows.fnExactTaskOkSpec).preRow enc Tryz.prog Tryz.f6 Rows.fnExactTaskOkRow.domain false Rows.fnExactTaskOkRow.laid) (((OpenSpec.ofChange Rows.fnExactTaskOkSpec).at F).post enc Tryz.prog Tryz.f6 false true false false) := by
 refine returnsInHanded_of_row (C := Tryz.checked) (s := OpenSpec.ofChange Rows.fnExactTaskOkSpec) own started (by kernel_rfl) Tryz.func6
  (witness_row_atRef (enc := enc) (C := Tryz.checked) false (Le os) wArgs rfl (by kernel_rfl) (by kernel_rfl) (by kernel_rfl) (Ui os enc)) ?_
 intro W base args ds gs before hval0 hW _ _ _ hL hS _
 have hval : ∀ (j : Nat) t v, Tryz.f6.params[j]? = some t → args[j]? = some v → Value.okWide Tryz.prog W .any base t v := hval0
 have hW' := hW
 obtain ⟨p, q, hA0, hV, rfl, hfz, hnd⟩ := hW
 have hA : DataW.TrodAll enc Tryz.prog W 0 (fun _ => true) true Tryz.f6.params.toList args.toList ds p := hA0
 rw [Tryz.params6] at hA hval
 obtain ⟨xs, hok, hl, hx⟩ := Ox Acc (n := 14) [81] args.toList ds p hA (fun j t v ht hv => hval j t v (by simpa using ht) (by simpa using hv)) types
 obtain ⟨m, hm⟩ := AgE hok
 have htab0 := utf8Tabs_of_readsT (U8Types.of196 Tryz.laysValid) ⟨by kernel_rfl, by kernel_rfl, by kernel_rfl, by kernel_rfl, by kernel_rfl, by kernel_rfl, by kernel_rfl⟩ (Pinned.utf8First_eq ▸ Lib.laidMet.reads hL (.tail _ (.head _))) (Lib.laidMet.reads hL (.head _))
 have htab : J0 W := ⟨htab0, cell_of_shapedOpen_int (zero := #[.int .i64 0]) hS (of_decide_eq_true (by kernel_rfl)) (by kernel_rfl) rfl (by kernel_rfl) (by kernel_rfl) Tryz.underlying3⟩
 have hc := Aao Ah4 hm (w := W) htab hl hx
 have hA1 := hA
 obtain ⟨v0, vs0, d0, ds0, p0, q0, hargs, rfl, rfl, g0, r0⟩ := trodAll_cons hA
 obtain ⟨rfl, rfl, rfl⟩ := trodAll_nil r0
 obtain ⟨rfl, rfl⟩ := trodVars_none hV
 have hc2 : Calls Tryz.prog 6 args W fun e W' => e = .returned (.bool true) ∧ Below W.heap.size W W' := by simpa using hc
 refine hc2.mono fun e W' ⟨he, bel⟩ => ?_
 subst he
 exact ⟨_, rfl, _, _, _, [], _, [], hW', trodAll_mk1 (shut_bool Tryz.underlying4 _), Lr AdO bel AbN hA1, rfl, bel.frame _, fun h => by cases h⟩
end Go.Proofs.YtjiahcekpohehaaGreatDoor.fnExactTaskOk
