/- What the proof needs, part 5: a sound evaluator over trees, the program's functions on it, and what they come to. -/
import Derived.Test.YtjiahcekpohehaaGreatDoorMtd
set_option linter.unusedVariables false
set_option linter.unusedSimpArgs false
set_option maxRecDepth 100000
set_option maxHeartbeats 3200000
namespace Go.Proofs.YtjiahcekpohehaaGreatDoor.Abs
section
open Go
def Bd (w : Fu) : Bool := Bm w.fFilter && A5 w.fQos 0 2
def A9 (c : Int) : Bool := A5 c 0 2 || decide (c = 128)
def Ei (p : Ar) : Bool := A5 (((p.fWants.length : Nat) : Int) + ((p.fNames.length : Nat) : Int) + ((p.fCodes.length : Nat) : Int)) 1 4
def G8 (p : Ar) : Bool := p.fCodes.all A9 && Ei p
def Gt (p : Ar) : Bool := p.fNames.all Bm && G8 p
def Df (p : Ar) : Bool := p.fWants.all Bd && Gt p
def Bk (p : Ar) : Bool := (A5 p.fLevel 0 255 && (Bi p.fClient && (A5 p.fKeep 0 65535 && ((!p.fHasWill || (B5 p.fWTopic && (decide (((p.fWBody.size : Nat) : Int) ≤ 40) && A5 p.fWQos 0 2))) && (Bi p.fUser && decide (((p.fPass.size : Nat) : Int) ≤ 60))))))
def Bn (p : Ar) : Bool :=
 if p.fType = 1 then Bk p
 else if p.fType = 2 then A5 p.fCode 0 5 && (!p.fPresent || decide (p.fCode = 0))
 else if p.fType = 3 then A5 p.fQos 0 2 && (B5 p.fTopic && (decide (((p.fBody.size : Nat) : Int) ≤ 40) && (decide (p.fQos = 0) || A5 p.fId 1 65535)))
 else if p.fType = 4 ∨ p.fType = 5 ∨ p.fType = 6 ∨ p.fType = 7 ∨ p.fType = 11 then A5 p.fId 1 65535
 else if p.fType = 8 ∨ p.fType = 9 ∨ p.fType = 10 then A5 p.fId 1 65535 && Df p
 else true
def Ai (p : Ar) : Bool := A5 p.fType 1 14 && (A3 p (Aq false p) && Bn p)
structure Hi (p : Ar) : Prop where
 t1 : p.fTopic.size ≤ 1048576
 t2 : p.fClient.size ≤ 1048576
 t3 : p.fWTopic.size ≤ 1048576
 t4 : p.fUser.size ≤ 1048576
 l1 : p.fWants.length ≤ 1048576
 l2 : p.fNames.length ≤ 1048576
 l3 : p.fCodes.length ≤ 1048576
 w1 : ∀ y ∈ p.fWants, y.fFilter.size ≤ 1048576
 w2 : ∀ y ∈ p.fNames, y.size ≤ 1048576
theorem Agd (p : Ar) (b : C6 p ≤ 1048576) : Hi p := by
 unfold C6 at b
 have e1 := Fc Ft p.fWants
 have e2 := Fc ByteArray.size p.fNames
 refine ⟨by omega, by omega, by omega, by omega, by omega, by omega, by omega, fun y hy => ?_, fun y hy => ?_⟩
 ·have := Gu (wt := Ft) hy
  have h3 : Ft y = y.fFilter.size + 0 := rfl
  omega
 ·have := Gu (wt := ByteArray.size) hy
  omega
theorem Gr {s : ByteArray} (h : s.size ≤ 1048576) : M7 s := by unfold M7; omega
theorem E4 (n : Nat) (i : Int) : Bv E0 (n + 2) 4 190 [.sc (.int .i64 i)] = some (.sc (.bool (A5 i 1 65535))) := by
 rw [Av, Ade, f190]
 refine De (G := (· = some (.sc (.bool (A5 i 1 65535))))) ?_
 try simp only [Dm]
 have s0 : Sep [] [] := Dd
 refine Ah (v := (.bool (A5 i 1 65535))) s0 rfl (.cons .sc (.cons .sc (.cons .sc .nil))) (Dx n _ i 1 65535) ?_
 refine Aj rfl ?_
 first | rfl | (simp_all; done)
theorem Ld (n : Nat) (i : Int) : Bv E0 (n + 2) 4 197 [.sc (.int .i64 i)] = some (.sc (.bool (A5 i 0 2))) := by
 rw [Av, W1, f197]
 refine De (G := (· = some (.sc (.bool (A5 i 0 2))))) ?_
 try simp only [Dm]
 have s0 : Sep [] [] := Dd
 refine Ah (v := (.bool (A5 i 0 2))) s0 rfl (.cons .sc (.cons .sc (.cons .sc .nil))) (Dx n _ i 0 2) ?_
 refine Aj rfl ?_
 first | rfl | (simp_all; done)
theorem Mm (n : Nat) (i : Int) : Bv E0 (n + 2) 4 191 [.sc (.int .i64 i)] = some (.sc (.bool (A5 i 0 65535))) := by
 rw [Av, Adf, f191]
 refine De (G := (· = some (.sc (.bool (A5 i 0 65535))))) ?_
 try simp only [Dm]
 have s0 : Sep [] [] := Dd
 refine Ah (v := (.bool (A5 i 0 65535))) s0 rfl (.cons .sc (.cons .sc (.cons .sc .nil))) (Dx n _ i 0 65535) ?_
 refine Aj rfl ?_
 first | rfl | (simp_all; done)
theorem O2 (n : Nat) (hn : 1048576 < n) (p : Ar) (hp : Hi p) : Bv E0 (n + 6) 4 196 [.agg (A6 p)] = some (.sc (.bool (Bk p))) := by
 rw [Av, Adh, f196]
 refine De (G := (· = some (.sc (.bool (Bk p))))) ?_
 try simp only [Cl, A8, Az, A2, Cr, A1, Be, Bu]
 have s0 : Sep [] [] := Dd
 refine Hz s0 (Dr (B4 _)) fun i1 H s2 => ?_
 refine Ad (o' := 11) rfl ?_
 refine Al (c := .sc (.bool p.fHasWill)) s2 (.here) rfl ?_
 refine C5 ?_
 refine Ac (p.fHasWill) (fun h3 => ?_) (fun h3 => ?_)
 ·refine Ae (nF h3) ?_
  refine Ad (o' := 12) rfl ?_
  refine Ae (nF h3) ?_
  refine Al (c := .sc (.string p.fWTopic)) s2 (.here) rfl ?_
  refine Ae (nF h3) ?_
  refine Ah (v := (.bool (B5 p.fWTopic))) s2 rfl (.cons .sc .nil) (Jz n (by omega) _ p.fWTopic hp.t3) ?_
  refine Ae (nF h3) ?_
  refine Ac ((B5 p.fWTopic)) (fun h4 => ?_) (fun h4 => ?_)
  ·refine Ae h4 ?_
   refine Ad (o' := 13) rfl ?_
   refine Ae h4 ?_
   refine Al (c := Ax p.fWBody) s2 (.here) rfl ?_
   refine Ae h4 ?_
   refine Cq ?_
   refine Ae h4 ?_
   refine Hk ?_
   refine Ae (nF h3) ?_
   refine Bj h4 ?_
   refine Ae (nF h3) ?_
   refine Ac ((decide (((p.fWBody.size : Nat) : Int) ≤ 40))) (fun h5 => ?_) (fun h5 => ?_)
   ·refine Ae h5 ?_
    refine Ad (o' := 14) rfl ?_
    refine Ae h5 ?_
    refine Al (c := .sc (.int .i64 p.fWQos)) s2 (.here) rfl ?_
    refine Ae h5 ?_
    refine Ah (v := (.bool (A5 p.fWQos 0 2))) s2 rfl (.cons .sc .nil) (Ld (n + 3) p.fWQos) ?_
    refine Ae (nF h3) ?_
    refine Bj h5 ?_
    refine An (nF h3) ?_
    refine Ad (o' := 8) rfl ?_
    refine Al (c := .sc (.int .i64 p.fLevel)) s2 (.here) rfl ?_
    refine Ah (v := (.bool (A5 p.fLevel 0 255))) s2 rfl (.cons .sc (.cons .sc (.cons .sc .nil))) (Dx (n + 4) _ p.fLevel 0 255) ?_
    refine Ac ((A5 p.fLevel 0 255)) (fun h6 => ?_) (fun h6 => ?_)
    ·refine Ae h6 ?_
     refine Ad (o' := 7) rfl ?_
     refine Ae h6 ?_
     refine Al (c := .sc (.string p.fClient)) s2 (.here) rfl ?_
     refine Ae h6 ?_
     refine Iq rfl rfl (E2 _ p.fClient (Gr hp.t2)) ?_
     refine Bj h6 ?_
     refine Ac ((Bi p.fClient)) (fun h7 => ?_) (fun h7 => ?_)
     ·refine Ae h7 ?_
      refine Ad (o' := 10) rfl ?_
      refine Ae h7 ?_
      refine Al (c := .sc (.int .i64 p.fKeep)) s2 (.here) rfl ?_
      refine Ae h7 ?_
      refine Ah (v := (.bool (A5 p.fKeep 0 65535))) s2 rfl (.cons .sc .nil) (Mm (n + 3) p.fKeep) ?_
      refine Bj h7 ?_
      refine Ac ((A5 p.fKeep 0 65535)) (fun h8 => ?_) (fun h8 => ?_)
      ·refine Ae h8 ?_
       refine Bj h8 ?_
       refine Ac ((A5 p.fWQos 0 2)) (fun h9 => ?_) (fun h9 => ?_)
       ·refine Ae h9 ?_
        refine Ad (o' := 17) rfl ?_
        refine Ae h9 ?_
        refine Al (c := .sc (.string p.fUser)) s2 (.here) rfl ?_
        refine Ae h9 ?_
        refine Iq rfl rfl (E2 _ p.fUser (Gr hp.t4)) ?_
        refine Bj h9 ?_
        refine Ac ((Bi p.fUser)) (fun h10 => ?_) (fun h10 => ?_)
        ·refine Ae h10 ?_
         refine Ad (o' := 19) rfl ?_
         refine Ae h10 ?_
         refine Al (c := Ax p.fPass) s2 (.here) rfl ?_
         refine Ae h10 ?_
         refine Cq ?_
         refine Ae h10 ?_
         refine Hk ?_
         refine Bj h10 ?_
         refine Aj rfl ?_
         have e : Bk p = (decide (((p.fPass.size : Nat) : Int) ≤ 60)) := by
          clear s0 s2
          unfold Bk
          simp only [h3, h4, h5, h6, h7, h8, h9, h10, Bool.true_and, Bool.false_and, Bool.and_true, Bool.and_false, Bool.true_or, Bool.false_or, Bool.or_true, Bool.or_false, Bool.not_true, Bool.not_false]
         rw [e]
         first | done | rfl
        ·refine Aa h10 ?_
         refine Aa h10 ?_
         refine Aa h10 ?_
         refine Aa h10 ?_
         refine An h10 ?_
         refine Aj rfl ?_
         have e : Bk p = false := by
          clear s0 s2
          unfold Bk
          simp only [h3, h4, h5, h6, h7, h8, h9, h10, Bool.true_and, Bool.false_and, Bool.and_true, Bool.and_false, Bool.true_or, Bool.false_or, Bool.or_true, Bool.or_false, Bool.not_true, Bool.not_false]
         rw [e]
         first | done | rfl
       ·refine Aa h9 ?_
        refine Aa h9 ?_
        refine Aa h9 ?_
        refine An h9 ?_
        refine Aa rfl ?_
        refine Aa rfl ?_
        refine Aa rfl ?_
        refine Aa rfl ?_
        refine An rfl ?_
        refine Aj rfl ?_
        have e : Bk p = false := by
         clear s0 s2
         unfold Bk
         simp only [h3, h4, h5, h6, h7, h8, h9, Bool.true_and, Bool.false_and, Bool.and_true, Bool.and_false, Bool.true_or, Bool.false_or, Bool.or_true, Bool.or_false, Bool.not_true, Bool.not_false]
        rw [e]
        first | done | rfl
      ·refine Aa h8 ?_
       refine An h8 ?_
       refine Aa rfl ?_
       refine Aa rfl ?_
       refine Aa rfl ?_
       refine An rfl ?_
       refine Aa rfl ?_
       refine Aa rfl ?_
       refine Aa rfl ?_
       refine Aa rfl ?_
       refine An rfl ?_
       refine Aj rfl ?_
       have e : Bk p = false := by
        clear s0 s2
        unfold Bk
        simp only [h3, h4, h5, h6, h7, h8, Bool.true_and, Bool.false_and, Bool.and_true, Bool.and_false, Bool.true_or, Bool.false_or, Bool.or_true, Bool.or_false, Bool.not_true, Bool.not_false]
       rw [e]
       first | done | rfl
     ·refine Aa h7 ?_
      refine Aa h7 ?_
      refine Aa h7 ?_
      refine An h7 ?_
      refine Aa rfl ?_
      refine An rfl ?_
      refine Aa rfl ?_
      refine Aa rfl ?_
      refine Aa rfl ?_
      refine An rfl ?_
      refine Aa rfl ?_
      refine Aa rfl ?_
      refine Aa rfl ?_
      refine Aa rfl ?_
      refine An rfl ?_
      refine Aj rfl ?_
      have e : Bk p = false := by
       clear s0 s2
       unfold Bk
       simp only [h3, h4, h5, h6, h7, Bool.true_and, Bool.false_and, Bool.and_true, Bool.and_false, Bool.true_or, Bool.false_or, Bool.or_true, Bool.or_false, Bool.not_true, Bool.not_false]
      rw [e]
      first | done | rfl
    ·refine Aa h6 ?_
     refine Aa h6 ?_
     refine Aa h6 ?_
     refine An h6 ?_
     refine Aa rfl ?_
     refine Aa rfl ?_
     refine Aa rfl ?_
     refine An rfl ?_
     refine Aa rfl ?_
     refine An rfl ?_
     refine Aa rfl ?_
     refine Aa rfl ?_
     refine Aa rfl ?_
     refine An rfl ?_
     refine Aa rfl ?_
     refine Aa rfl ?_
     refine Aa rfl ?_
     refine Aa rfl ?_
     refine An rfl ?_
     refine Aj rfl ?_
     have e : Bk p = false := by
      clear s0 s2
      unfold Bk
      simp only [h3, h4, h5, h6, Bool.true_and, Bool.false_and, Bool.and_true, Bool.and_false, Bool.true_or, Bool.false_or, Bool.or_true, Bool.or_false, Bool.not_true, Bool.not_false]
     rw [e]
     first | done | rfl
   ·refine Aa h5 ?_
    refine Aa h5 ?_
    refine Aa h5 ?_
    refine Ae (nF h3) ?_
    refine An h5 ?_
    refine An (nF h3) ?_
    refine Ad (o' := 8) rfl ?_
    refine Al (c := .sc (.int .i64 p.fLevel)) s2 (.here) rfl ?_
    refine Ah (v := (.bool (A5 p.fLevel 0 255))) s2 rfl (.cons .sc (.cons .sc (.cons .sc .nil))) (Dx (n + 4) _ p.fLevel 0 255) ?_
    refine Ac ((A5 p.fLevel 0 255)) (fun h11 => ?_) (fun h11 => ?_)
    ·refine Ae h11 ?_
     refine Ad (o' := 7) rfl ?_
     refine Ae h11 ?_
     refine Al (c := .sc (.string p.fClient)) s2 (.here) rfl ?_
     refine Ae h11 ?_
     refine Iq rfl rfl (E2 _ p.fClient (Gr hp.t2)) ?_
     refine Bj h11 ?_
     refine Ac ((Bi p.fClient)) (fun h12 => ?_) (fun h12 => ?_)
     ·refine Ae h12 ?_
      refine Ad (o' := 10) rfl ?_
      refine Ae h12 ?_
      refine Al (c := .sc (.int .i64 p.fKeep)) s2 (.here) rfl ?_
      refine Ae h12 ?_
      refine Ah (v := (.bool (A5 p.fKeep 0 65535))) s2 rfl (.cons .sc .nil) (Mm (n + 3) p.fKeep) ?_
      refine Bj h12 ?_
      refine Ac ((A5 p.fKeep 0 65535)) (fun h13 => ?_) (fun h13 => ?_)
      ·refine Ae h13 ?_
       refine Bj h13 ?_
       refine Aa rfl ?_
       refine Aa rfl ?_
       refine Aa rfl ?_
       refine An rfl ?_
       refine Aa rfl ?_
       refine Aa rfl ?_
       refine Aa rfl ?_
       refine Aa rfl ?_
       refine An rfl ?_
       refine Aj rfl ?_
       have e : Bk p = false := by
        clear s0 s2
        unfold Bk
        simp only [h3, h4, h5, h11, h12, h13, Bool.true_and, Bool.false_and, Bool.and_true, Bool.and_false, Bool.true_or, Bool.false_or, Bool.or_true, Bool.or_false, Bool.not_true, Bool.not_false]
       rw [e]
       first | done | rfl
      ·refine Aa h13 ?_
       refine An h13 ?_
       refine Aa rfl ?_
       refine Aa rfl ?_
       refine Aa rfl ?_
       refine An rfl ?_
       refine Aa rfl ?_
       refine Aa rfl ?_
       refine Aa rfl ?_
       refine Aa rfl ?_
       refine An rfl ?_
       refine Aj rfl ?_
       have e : Bk p = false := by
        clear s0 s2
        unfold Bk
        simp only [h3, h4, h5, h11, h12, h13, Bool.true_and, Bool.false_and, Bool.and_true, Bool.and_false, Bool.true_or, Bool.false_or, Bool.or_true, Bool.or_false, Bool.not_true, Bool.not_false]
       rw [e]
       first | done | rfl
     ·refine Aa h12 ?_
      refine Aa h12 ?_
      refine Aa h12 ?_
      refine An h12 ?_
      refine Aa rfl ?_
      refine An rfl ?_
      refine Aa rfl ?_
      refine Aa rfl ?_
      refine Aa rfl ?_
      refine An rfl ?_
      refine Aa rfl ?_
      refine Aa rfl ?_
      refine Aa rfl ?_
      refine Aa rfl ?_
      refine An rfl ?_
      refine Aj rfl ?_
      have e : Bk p = false := by
       clear s0 s2
       unfold Bk
       simp only [h3, h4, h5, h11, h12, Bool.true_and, Bool.false_and, Bool.and_true, Bool.and_false, Bool.true_or, Bool.false_or, Bool.or_true, Bool.or_false, Bool.not_true, Bool.not_false]
      rw [e]
      first | done | rfl
    ·refine Aa h11 ?_
     refine Aa h11 ?_
     refine Aa h11 ?_
     refine An h11 ?_
     refine Aa rfl ?_
     refine Aa rfl ?_
     refine Aa rfl ?_
     refine An rfl ?_
     refine Aa rfl ?_
     refine An rfl ?_
     refine Aa rfl ?_
     refine Aa rfl ?_
     refine Aa rfl ?_
     refine An rfl ?_
     refine Aa rfl ?_
     refine Aa rfl ?_
     refine Aa rfl ?_
     refine Aa rfl ?_
     refine An rfl ?_
     refine Aj rfl ?_
     have e : Bk p = false := by
      clear s0 s2
      unfold Bk
      simp only [h3, h4, h5, h11, Bool.true_and, Bool.false_and, Bool.and_true, Bool.and_false, Bool.true_or, Bool.false_or, Bool.or_true, Bool.or_false, Bool.not_true, Bool.not_false]
     rw [e]
     first | done | rfl
  ·refine Aa h4 ?_
   refine Aa h4 ?_
   refine Aa h4 ?_
   refine Aa h4 ?_
   refine Ae (nF h3) ?_
   refine An h4 ?_
   refine Ae (nF h3) ?_
   refine Aa rfl ?_
   refine Aa rfl ?_
   refine Aa rfl ?_
   refine Ae (nF h3) ?_
   refine An rfl ?_
   refine An (nF h3) ?_
   refine Ad (o' := 8) rfl ?_
   refine Al (c := .sc (.int .i64 p.fLevel)) s2 (.here) rfl ?_
   refine Ah (v := (.bool (A5 p.fLevel 0 255))) s2 rfl (.cons .sc (.cons .sc (.cons .sc .nil))) (Dx (n + 4) _ p.fLevel 0 255) ?_
   refine Ac ((A5 p.fLevel 0 255)) (fun h14 => ?_) (fun h14 => ?_)
   ·refine Ae h14 ?_
    refine Ad (o' := 7) rfl ?_
    refine Ae h14 ?_
    refine Al (c := .sc (.string p.fClient)) s2 (.here) rfl ?_
    refine Ae h14 ?_
    refine Iq rfl rfl (E2 _ p.fClient (Gr hp.t2)) ?_
    refine Bj h14 ?_
    refine Ac ((Bi p.fClient)) (fun h15 => ?_) (fun h15 => ?_)
    ·refine Ae h15 ?_
     refine Ad (o' := 10) rfl ?_
     refine Ae h15 ?_
     refine Al (c := .sc (.int .i64 p.fKeep)) s2 (.here) rfl ?_
     refine Ae h15 ?_
     refine Ah (v := (.bool (A5 p.fKeep 0 65535))) s2 rfl (.cons .sc .nil) (Mm (n + 3) p.fKeep) ?_
     refine Bj h15 ?_
     refine Ac ((A5 p.fKeep 0 65535)) (fun h16 => ?_) (fun h16 => ?_)
     ·refine Ae h16 ?_
      refine Bj h16 ?_
      refine Aa rfl ?_
      refine Aa rfl ?_
      refine Aa rfl ?_
      refine An rfl ?_
      refine Aa rfl ?_
      refine Aa rfl ?_
      refine Aa rfl ?_
      refine Aa rfl ?_
      refine An rfl ?_
      refine Aj rfl ?_
      have e : Bk p = false := by
       clear s0 s2
       unfold Bk
       simp only [h3, h4, h14, h15, h16, Bool.true_and, Bool.false_and, Bool.and_true, Bool.and_false, Bool.true_or, Bool.false_or, Bool.or_true, Bool.or_false, Bool.not_true, Bool.not_false]
      rw [e]
      first | done | rfl
     ·refine Aa h16 ?_
      refine An h16 ?_
      refine Aa rfl ?_
      refine Aa rfl ?_
      refine Aa rfl ?_
      refine An rfl ?_
      refine Aa rfl ?_
      refine Aa rfl ?_
      refine Aa rfl ?_
      refine Aa rfl ?_
      refine An rfl ?_
      refine Aj rfl ?_
      have e : Bk p = false := by
       clear s0 s2
       unfold Bk
       simp only [h3, h4, h14, h15, h16, Bool.true_and, Bool.false_and, Bool.and_true, Bool.and_false, Bool.true_or, Bool.false_or, Bool.or_true, Bool.or_false, Bool.not_true, Bool.not_false]
      rw [e]
      first | done | rfl
    ·refine Aa h15 ?_
     refine Aa h15 ?_
     refine Aa h15 ?_
     refine An h15 ?_
     refine Aa rfl ?_
     refine An rfl ?_
     refine Aa rfl ?_
     refine Aa rfl ?_
     refine Aa rfl ?_
     refine An rfl ?_
     refine Aa rfl ?_
     refine Aa rfl ?_
     refine Aa rfl ?_
     refine Aa rfl ?_
     refine An rfl ?_
     refine Aj rfl ?_
     have e : Bk p = false := by
      clear s0 s2
      unfold Bk
      simp only [h3, h4, h14, h15, Bool.true_and, Bool.false_and, Bool.and_true, Bool.and_false, Bool.true_or, Bool.false_or, Bool.or_true, Bool.or_false, Bool.not_true, Bool.not_false]
     rw [e]
     first | done | rfl
   ·refine Aa h14 ?_
    refine Aa h14 ?_
    refine Aa h14 ?_
    refine An h14 ?_
    refine Aa rfl ?_
    refine Aa rfl ?_
    refine Aa rfl ?_
    refine An rfl ?_
    refine Aa rfl ?_
    refine An rfl ?_
    refine Aa rfl ?_
    refine Aa rfl ?_
    refine Aa rfl ?_
    refine An rfl ?_
    refine Aa rfl ?_
    refine Aa rfl ?_
    refine Aa rfl ?_
    refine Aa rfl ?_
    refine An rfl ?_
    refine Aj rfl ?_
    have e : Bk p = false := by
     clear s0 s2
     unfold Bk
     simp only [h3, h4, h14, Bool.true_and, Bool.false_and, Bool.and_true, Bool.and_false, Bool.true_or, Bool.false_or, Bool.or_true, Bool.or_false, Bool.not_true, Bool.not_false]
    rw [e]
    first | done | rfl
 ·refine Aa (nT h3) ?_
  refine Aa (nT h3) ?_
  refine Aa (nT h3) ?_
  refine Aa (nT h3) ?_
  refine Bt ?_
  refine Bt ?_
  refine Bt ?_
  refine Bt ?_
  refine Aa (nT h3) ?_
  refine Aa (nT h3) ?_
  refine Bt ?_
  refine Bt ?_
  refine Bt ?_
  refine Aa (nT h3) ?_
  refine Bj (nT h3) ?_
  refine Ad (o' := 8) rfl ?_
  refine Al (c := .sc (.int .i64 p.fLevel)) s2 (.here) rfl ?_
  refine Ah (v := (.bool (A5 p.fLevel 0 255))) s2 rfl (.cons .sc (.cons .sc (.cons .sc .nil))) (Dx (n + 4) _ p.fLevel 0 255) ?_
  refine Ac ((A5 p.fLevel 0 255)) (fun h17 => ?_) (fun h17 => ?_)
  ·refine Ae h17 ?_
   refine Ad (o' := 7) rfl ?_
   refine Ae h17 ?_
   refine Al (c := .sc (.string p.fClient)) s2 (.here) rfl ?_
   refine Ae h17 ?_
   refine Iq rfl rfl (E2 _ p.fClient (Gr hp.t2)) ?_
   refine Bj h17 ?_
   refine Ac ((Bi p.fClient)) (fun h18 => ?_) (fun h18 => ?_)
   ·refine Ae h18 ?_
    refine Ad (o' := 10) rfl ?_
    refine Ae h18 ?_
    refine Al (c := .sc (.int .i64 p.fKeep)) s2 (.here) rfl ?_
    refine Ae h18 ?_
    refine Ah (v := (.bool (A5 p.fKeep 0 65535))) s2 rfl (.cons .sc .nil) (Mm (n + 3) p.fKeep) ?_
    refine Bj h18 ?_
    refine Ac ((A5 p.fKeep 0 65535)) (fun h19 => ?_) (fun h19 => ?_)
    ·refine Ae h19 ?_
     refine Bj h19 ?_
     refine Ae rfl ?_
     refine Ad (o' := 17) rfl ?_
     refine Ae rfl ?_
     refine Al (c := .sc (.string p.fUser)) s2 (.here) rfl ?_
     refine Ae rfl ?_
     refine Iq rfl rfl (E2 _ p.fUser (Gr hp.t4)) ?_
     refine Bj rfl ?_
     refine Ac ((Bi p.fUser)) (fun h20 => ?_) (fun h20 => ?_)
     ·refine Ae h20 ?_
      refine Ad (o' := 19) rfl ?_
      refine Ae h20 ?_
      refine Al (c := Ax p.fPass) s2 (.here) rfl ?_
      refine Ae h20 ?_
      refine Cq ?_
      refine Ae h20 ?_
      refine Hk ?_
      refine Bj h20 ?_
      refine Aj rfl ?_
      have e : Bk p = (decide (((p.fPass.size : Nat) : Int) ≤ 60)) := by
       clear s0 s2
       unfold Bk
       simp only [h3, h17, h18, h19, h20, Bool.true_and, Bool.false_and, Bool.and_true, Bool.and_false, Bool.true_or, Bool.false_or, Bool.or_true, Bool.or_false, Bool.not_true, Bool.not_false]
      rw [e]
      first | done | rfl
     ·refine Aa h20 ?_
      refine Aa h20 ?_
      refine Aa h20 ?_
      refine Aa h20 ?_
      refine An h20 ?_
      refine Aj rfl ?_
      have e : Bk p = false := by
       clear s0 s2
       unfold Bk
       simp only [h3, h17, h18, h19, h20, Bool.true_and, Bool.false_and, Bool.and_true, Bool.and_false, Bool.true_or, Bool.false_or, Bool.or_true, Bool.or_false, Bool.not_true, Bool.not_false]
      rw [e]
      first | done | rfl
    ·refine Aa h19 ?_
     refine An h19 ?_
     refine Aa rfl ?_
     refine Aa rfl ?_
     refine Aa rfl ?_
     refine An rfl ?_
     refine Aa rfl ?_
     refine Aa rfl ?_
     refine Aa rfl ?_
     refine Aa rfl ?_
     refine An rfl ?_
     refine Aj rfl ?_
     have e : Bk p = false := by
      clear s0 s2
      unfold Bk
      simp only [h3, h17, h18, h19, Bool.true_and, Bool.false_and, Bool.and_true, Bool.and_false, Bool.true_or, Bool.false_or, Bool.or_true, Bool.or_false, Bool.not_true, Bool.not_false]
     rw [e]
     first | done | rfl
   ·refine Aa h18 ?_
    refine Aa h18 ?_
    refine Aa h18 ?_
    refine An h18 ?_
    refine Aa rfl ?_
    refine An rfl ?_
    refine Aa rfl ?_
    refine Aa rfl ?_
    refine Aa rfl ?_
    refine An rfl ?_
    refine Aa rfl ?_
    refine Aa rfl ?_
    refine Aa rfl ?_
    refine Aa rfl ?_
    refine An rfl ?_
    refine Aj rfl ?_
    have e : Bk p = false := by
     clear s0 s2
     unfold Bk
     simp only [h3, h17, h18, Bool.true_and, Bool.false_and, Bool.and_true, Bool.and_false, Bool.true_or, Bool.false_or, Bool.or_true, Bool.or_false, Bool.not_true, Bool.not_false]
    rw [e]
    first | done | rfl
  ·refine Aa h17 ?_
   refine Aa h17 ?_
   refine Aa h17 ?_
   refine An h17 ?_
   refine Aa rfl ?_
   refine Aa rfl ?_
   refine Aa rfl ?_
   refine An rfl ?_
   refine Aa rfl ?_
   refine An rfl ?_
   refine Aa rfl ?_
   refine Aa rfl ?_
   refine Aa rfl ?_
   refine An rfl ?_
   refine Aa rfl ?_
   refine Aa rfl ?_
   refine Aa rfl ?_
   refine Aa rfl ?_
   refine An rfl ?_
   refine Aj rfl ?_
   have e : Bk p = false := by
    clear s0 s2
    unfold Bk
    simp only [h3, h17, Bool.true_and, Bool.false_and, Bool.and_true, Bool.and_false, Bool.true_or, Bool.false_or, Bool.or_true, Bool.or_false, Bool.not_true, Bool.not_false]
   rw [e]
   first | done | rfl
theorem K0 (n : Nat) (hn : 1048576 < n) (p : Ar) (hp : Hi p)   : ∀ (t pre : List Int) (m : Nat) (i : Int) (i1 : Nat) (H : Af), p.fCodes = pre ++ t → i = ((pre.length : Nat) : Int) → t.length < m → Sep H [.blk i1 (A6 p) true] → Gd (· = some (.sc (.bool (t.all A9 && Ei p)))) (Jr (PR (n + 6) AV) (n + 6) (fun x H => A7 As E0.tp 4 H x) m (.ptr i1 0) (Dl p.fCodes) (.sc (.int .i64 ((p.fCodes.length : Nat) : Int))) (.sc (.int .i64 i)) H)
 | [], pre, m + 1, i, i1, H, he, hi, hm, s0 => by
  obtain rfl : pre = p.fCodes := by simpa using he.symm
  have hl1 := hp.l1
  have hl2 := hp.l2
  have hl3 := hp.l3
  have hlen := hp.l3
  rw [Jr]
  try simp only [A8, Az, A2, Cr, Ay, A1, Be, Bu, Bw]
  refine D4 ?_
  refine Bf (by simp [hi]) ?_
  refine Ad (o' := 22) rfl ?_
  refine Al (c := Bq Bg p.fWants) s0 (.here) rfl ?_
  refine Cq ?_
  refine Ad (o' := 23) rfl ?_
  refine Al (c := Dc p.fNames) s0 (.here) rfl ?_
  refine Cq ?_
  refine Fj (by omega) (by omega) ?_
  refine Ad (o' := 24) rfl ?_
  refine Al (c := Dl p.fCodes) s0 (.here) rfl ?_
  refine Cq ?_
  refine Fj (by omega) (by omega) ?_
  refine Ah (v := (.bool (A5 ((((p.fWants.length : Nat) : Int) + ((p.fNames.length : Nat) : Int)) + ((p.fCodes.length : Nat) : Int)) 1 4))) s0 rfl (.cons .sc (.cons .sc (.cons .sc .nil))) (Dx (n + 5) _ ((((p.fWants.length : Nat) : Int) + ((p.fNames.length : Nat) : Int)) + ((p.fCodes.length : Nat) : Int)) 1 4) ?_
  refine Aj rfl ?_
  have e : ([].all A9 && Ei p) = (A5 ((((p.fWants.length : Nat) : Int) + ((p.fNames.length : Nat) : Int)) + ((p.fCodes.length : Nat) : Int)) 1 4) := by
   clear s0
   simp only [List.all_cons, List.all_nil, Bd, A9, Ei, Bool.true_and, Bool.and_true, Bool.false_or, Bool.or_false, Bool.true_or, Bool.or_true, Bool.false_and, Bool.and_false, Bool.not_true, Bool.not_false]
  rw [e]
  first | done | rfl
 | y :: t, pre, m + 1, i, i1, H, he, hi, hm, s0 => by
  have hlt : pre.length < p.fCodes.length := by rw [he]; simp
  have hl1 := hp.l1
  have hl2 := hp.l2
  have hl3 := hp.l3
  have hlen := hp.l3
  rw [Jr]
  try simp only [A8, Az, A2, Cr, Ay, A1, Be, Bu, Bw]
  refine D4 ?_
  refine A0 (by simp [hi]; omega) ?_
  refine I7 hi he ?_
  refine Ke (c := .sc (.int .i64 y)) rfl ?_
  refine Ah (v := (.bool (A5 y 0 2))) s0 rfl (.cons .sc .nil) (Ld (n + 4) y) ?_
  refine C5 ?_
  refine Ac ((A5 y 0 2)) (fun h201 => ?_) (fun h201 => ?_)
  ·refine Aa (nF h201) ?_
   refine Aa (nF h201) ?_
   refine An (nF h201) ?_
   refine Bf rfl ?_
   refine Fj (by omega) (by omega) ?_
   have e202 : ((y :: t).all A9 && Ei p) = (t.all A9 && Ei p) := by
    clear s0
    simp only [List.all_cons, Bd, A9, h201, Bool.true_and, Bool.and_true, Bool.false_or, Bool.or_false, Bool.true_or, Bool.or_true, Bool.false_and, Bool.not_true, Bool.not_false]
   rw [e202]
   exact K0 n hn p hp   t (pre ++ [y]) m _ i1 _ (by rw [he]; simp) (by rw [hi]; simp) (by simpa using hm) (by simpa only [List.map_append, List.map_cons, List.map_nil] using (s0.sel (.cons (.here) .nil)))
  ·refine Ae (nT h201) ?_
   refine Ae (nT h201) ?_
   refine N1 ?_
   refine Bj (nT h201) ?_
   refine Ac ((decide (y = 128))) (fun h203 => ?_) (fun h203 => ?_)
   ·refine Bf (nF h203) ?_
    refine Fj (by omega) (by omega) ?_
    have e204 : ((y :: t).all A9 && Ei p) = (t.all A9 && Ei p) := by
     clear s0
     simp only [List.all_cons, Bd, A9, h201, h203, Bool.true_and, Bool.and_true, Bool.false_or, Bool.or_false, Bool.true_or, Bool.or_true, Bool.false_and, Bool.not_true, Bool.not_false]
    rw [e204]
    exact K0 n hn p hp   t (pre ++ [y]) m _ i1 _ (by rw [he]; simp) (by rw [hi]; simp) (by simpa using hm) (by simpa only [List.map_append, List.map_cons, List.map_nil] using (s0.sel (.cons (.here) .nil)))
   ·refine A0 (nT h203) ?_
    refine Aj rfl ?_
    have e : ((y :: t).all A9 && Ei p) = false := by
     clear s0
     simp only [List.all_cons, List.all_nil, Bd, A9, Ei, h201, h203, Bool.true_and, Bool.and_true, Bool.false_or, Bool.or_false, Bool.true_or, Bool.or_true, Bool.false_and, Bool.and_false, Bool.not_true, Bool.not_false]
    rw [e]
    first | done | rfl
theorem N9 (n : Nat) (hn : 1048576 < n) (p : Ar) (hp : Hi p)   : ∀ (t pre : List ByteArray) (m : Nat) (i : Int) (i1 : Nat) (H : Af), p.fNames = pre ++ t → i = ((pre.length : Nat) : Int) → t.length < m → Sep H [.blk i1 (A6 p) true] → Gd (· = some (.sc (.bool (t.all Bm && G8 p)))) (Hn (PR (n + 6) AV) (n + 6) (fun x H => A7 As E0.tp 4 H x) m (.ptr i1 0) (Dc p.fNames) (.sc (.int .i64 ((p.fNames.length : Nat) : Int))) (.sc (.int .i64 i)) H)
 | [], pre, m + 1, i, i1, H, he, hi, hm, s0 => by
  obtain rfl : pre = p.fNames := by simpa using he.symm
  have hl1 := hp.l1
  have hl2 := hp.l2
  have hl3 := hp.l3
  have hlen := hp.l2
  rw [Hn]
  try simp only [A8, Az, A2, Cr, Ay, Bu, Bw]
  refine D4 ?_
  refine Bf (by simp [hi]) ?_
  refine Ad (o' := 24) rfl ?_
  refine Al (c := Dl p.fCodes) s0 (.here) rfl ?_
  refine Cq ?_
  rw [List.all_nil, Bool.true_and]
  have hv : G8 p = (p.fCodes.all A9 && Ei p) := rfl
  rw [hv]
  exact K0 n hn p hp   p.fCodes [] _ 0 i1 _ rfl rfl (by omega) s0
 | y :: t, pre, m + 1, i, i1, H, he, hi, hm, s0 => by
  have hlt : pre.length < p.fNames.length := by rw [he]; simp
  have hl1 := hp.l1
  have hl2 := hp.l2
  have hl3 := hp.l3
  have hlen := hp.l2
  rw [Hn]
  try simp only [A8, Az, A2, Cr, Ay, Bu, Bw]
  refine D4 ?_
  refine A0 (by simp [hi]; omega) ?_
  refine Nr hi he ?_
  refine Ke (c := .sc (.string y)) rfl ?_
  refine Ah (v := (.bool (Bm y))) s0 rfl (.cons .sc .nil) (N2 n (by omega) y (hp.w2 y (by rw [he]; simp)) (Gr (hp.w2 y (by rw [he]; simp)))) ?_
  refine C5 ?_
  refine Ac ((Bm y)) (fun h201 => ?_) (fun h201 => ?_)
  ·refine Bf (nF h201) ?_
   refine Fj (by omega) (by omega) ?_
   have e202 : ((y :: t).all Bm && G8 p) = (t.all Bm && G8 p) := by
    clear s0
    simp only [List.all_cons, Bd, A9, h201, Bool.true_and, Bool.and_true, Bool.false_or, Bool.or_false, Bool.true_or, Bool.or_true, Bool.false_and, Bool.not_true, Bool.not_false]
   rw [e202]
   exact N9 n hn p hp   t (pre ++ [y]) m _ i1 _ (by rw [he]; simp) (by rw [hi]; simp) (by simpa using hm) (by simpa only [List.map_append, List.map_cons, List.map_nil] using (s0.sel (.cons (.here) .nil)))
  ·refine A0 (nT h201) ?_
   refine Aj rfl ?_
   have e : ((y :: t).all Bm && G8 p) = false := by
    clear s0
    simp only [List.all_cons, List.all_nil, Bd, A9, Ei, h201, Bool.true_and, Bool.and_true, Bool.false_or, Bool.or_false, Bool.true_or, Bool.or_true, Bool.false_and, Bool.and_false, Bool.not_true, Bool.not_false]
   rw [e]
   first | done | rfl
theorem N8 (n : Nat) (hn : 1048576 < n) (p : Ar) (hp : Hi p)   : ∀ (t pre : List Fu) (m : Nat) (i : Int) (i1 : Nat) (H : Af), p.fWants = pre ++ t → i = ((pre.length : Nat) : Int) → t.length < m → Sep H [.blk i1 (A6 p) true] → Gd (· = some (.sc (.bool (t.all Bd && Gt p)))) (Hm (PR (n + 6) AV) (n + 6) (fun x H => A7 As E0.tp 4 H x) m (.ptr i1 0) (Bq Bg p.fWants) (.sc (.int .i64 ((p.fWants.length : Nat) : Int))) (.sc (.int .i64 i)) H)
 | [], pre, m + 1, i, i1, H, he, hi, hm, s0 => by
  obtain rfl : pre = p.fWants := by simpa using he.symm
  have hl1 := hp.l1
  have hl2 := hp.l2
  have hl3 := hp.l3
  have hlen := hp.l1
  rw [Hm]
  try simp only [Dm, A8, Az, Cw, A2, Cr, Ay, A1, Be, Bu, Bw]
  refine D4 ?_
  refine Bf (by simp [hi]) ?_
  refine Ad (o' := 23) rfl ?_
  refine Al (c := Dc p.fNames) s0 (.here) rfl ?_
  refine Cq ?_
  rw [List.all_nil, Bool.true_and]
  have hv : Gt p = (p.fNames.all Bm && G8 p) := rfl
  rw [hv]
  exact N9 n hn p hp   p.fNames [] _ 0 i1 _ rfl rfl (by omega) s0
 | y :: t, pre, m + 1, i, i1, H, he, hi, hm, s0 => by
  have hlt : pre.length < p.fWants.length := by rw [he]; simp
  have hl1 := hp.l1
  have hl2 := hp.l2
  have hl3 := hp.l3
  have hlen := hp.l1
  rw [Hm]
  try simp only [Dm, A8, Az, Cw, A2, Cr, Ay, A1, Be, Bu, Bw]
  refine D4 ?_
  refine A0 (by simp [hi]; omega) ?_
  refine Ir hi E6 (by decide) he ?_
  refine Xh (E6 _) ?_
  refine Pu s0 fun i201 H s202 => ?_
  refine B0 (cs' := Bg y) s202 (.here) (Dr (Jw _)) rfl (Bs rfl) rfl fun H s203 => ?_
  refine Ad (o' := 0) rfl ?_
  refine Al (c := .sc (.string y.fFilter)) s203 (.here) rfl ?_
  refine Ah (v := (.bool (Bm y.fFilter))) s203 rfl (.cons .sc .nil) (N2 n (by omega) y.fFilter (hp.w1 y (by rw [he]; simp)) (Gr (hp.w1 y (by rw [he]; simp)))) ?_
  refine C5 ?_
  refine Ac ((Bm y.fFilter)) (fun h204 => ?_) (fun h204 => ?_)
  ·refine Ae (nF h204) ?_
   refine Ad (o' := 1) rfl ?_
   refine Ae (nF h204) ?_
   refine Al (c := .sc (.int .i64 y.fQos)) s203 (.here) rfl ?_
   refine Ae (nF h204) ?_
   refine Ah (v := (.bool (A5 y.fQos 0 2))) s203 rfl (.cons .sc .nil) (Ld (n + 4) y.fQos) ?_
   refine Ae (nF h204) ?_
   refine C5 ?_
   refine An (nF h204) ?_
   refine Ac ((A5 y.fQos 0 2)) (fun h205 => ?_) (fun h205 => ?_)
   ·refine Bf (nF h205) ?_
    refine Fj (by omega) (by omega) ?_
    have e206 : ((y :: t).all Bd && Gt p) = (t.all Bd && Gt p) := by
     clear s0 s202 s203
     simp only [List.all_cons, Bd, A9, h204, h205, Bool.true_and, Bool.and_true, Bool.false_or, Bool.or_false, Bool.true_or, Bool.or_true, Bool.false_and, Bool.not_true, Bool.not_false]
    rw [e206]
    exact N8 n hn p hp   t (pre ++ [y]) m _ i1 _ (by rw [he]; simp) (by rw [hi]; simp) (by simpa using hm) (by simpa only [List.map_append, List.map_cons, List.map_nil] using (s203.sel (.cons Id .nil)))
   ·refine A0 (nT h205) ?_
    refine Aj rfl ?_
    have e : ((y :: t).all Bd && Gt p) = false := by
     clear s0 s202 s203
     simp only [List.all_cons, List.all_nil, Bd, A9, Ei, h204, h205, Bool.true_and, Bool.and_true, Bool.false_or, Bool.or_false, Bool.true_or, Bool.or_true, Bool.false_and, Bool.and_false, Bool.not_true, Bool.not_false]
    rw [e]
    first | done | rfl
  ·refine Aa (nT h204) ?_
   refine Aa (nT h204) ?_
   refine Aa (nT h204) ?_
   refine Aa (nT h204) ?_
   refine Bj (nT h204) ?_
   refine A0 rfl ?_
   refine Aj rfl ?_
   have e : ((y :: t).all Bd && Gt p) = false := by
    clear s0 s202 s203
    simp only [List.all_cons, List.all_nil, Bd, A9, Ei, h204, Bool.true_and, Bool.and_true, Bool.false_or, Bool.or_false, Bool.true_or, Bool.or_true, Bool.false_and, Bool.and_false, Bool.not_true, Bool.not_false]
   rw [e]
   first | done | rfl
theorem I9 (n : Nat) (hn : 1048576 < n) (p : Ar) (hp : Hi p) : Bv E0 (n + 7) 4 199 [.agg (A6 p)] = some (.sc (.bool (Df p))) := by
 rw [Av, Adj, f199]
 refine De (G := (· = some (.sc (.bool (Df p))))) ?_
 have hl1 := hp.l1
 have hl2 := hp.l2
 have hl3 := hp.l3
 try simp only [Cl, A8, Az, Bu]
 have s0 : Sep [] [] := Dd
 refine Hz s0 (Dr (B4 _)) fun i1 H s2 => ?_
 refine Ad (o' := 22) rfl ?_
 refine Al (c := Bq Bg p.fWants) s2 (.here) rfl ?_
 refine Cq ?_
 have hv : Df p = (p.fWants.all Bd && Gt p) := rfl
 rw [hv]
 exact N8 n hn p hp   p.fWants [] _ 0 i1 _ rfl rfl (by omega) s2
theorem Z9 (n : Nat) (hn : 1048576 < n) (p : Ar) (hp : Hi p) : Bv E0 (n + 10) 4 76 [.agg (A6 p)] = some (.sc (.bool (Ai p))) := by
 rw [Av, AfD, f76]
 refine De (G := (· = some (.sc (.bool (Ai p))))) ?_
 try simp only [Cl, A8, Az, A2, Cr, Ay, A1, Be, Bu]
 have s0 : Sep [] [] := Dd
 refine Hz s0 (Dr (B4 _)) fun i1 H s2 => ?_
 refine Ad (o' := 0) rfl ?_
 refine Al (c := .sc (.int .i64 p.fType)) s2 (.here) rfl ?_
 refine Ah (v := (.bool (A5 p.fType 1 14))) s2 rfl (.cons .sc (.cons .sc (.cons .sc .nil))) (Dx (n + 8) _ p.fType 1 14) ?_
 refine C5 ?_
 refine Ac ((A5 p.fType 1 14)) (fun h3 => ?_) (fun h3 => ?_)
 ·refine Ae (nF h3) ?_
  refine Bo s2 (.here) rfl ?_
  refine Gd.bothE ?_ ?_
  ·refine Ae (nF h3) ?_
   refine Bo s2 (.here) rfl ?_
   refine Ae (nF h3) ?_
   refine AdG rfl rfl ?_
   refine Pw (n + 8) (by omega) p s2 fun Rs4 H hRs4 s4 => ?_
   refine Ae (nF h3) ?_
   refine Ah (v := (.bool (A3 p (Aq false p)))) s4 rfl (.aggF (B4 _) (.agg (hRs4 _) .nil)) (Fx (n + 7) (by omega) _ p (Aq false p) hp.l1 hp.l2 hp.l3) ?_
   refine Ae (nF h3) ?_
   refine C5 ?_
   refine An (nF h3) ?_
   refine Ac ((A3 p (Aq false p))) (fun h5 => ?_) (fun h5 => ?_)
   ·refine Bf (nF h5) ?_
    refine Ad (o' := 0) rfl ?_
    refine Al (c := .sc (.int .i64 p.fType)) s4 (.here) rfl ?_
    refine Au ?_
    refine Ac ((decide (p.fType = 1))) (fun h6 => ?_) (fun h6 => ?_)
    ·refine A0 h6 ?_
     refine Bo s4 (.here) rfl ?_
     refine Ah (v := (.bool (Bk p))) s4 rfl (.aggF (B4 _) .nil) (O2 (n + 3) (by omega) p hp) ?_
     refine Aj rfl ?_
     have e : Ai p = (Bk p) := by
      clear s0 s2 s4
      try simp only [decide_eq_false_iff_not, decide_eq_true_eq] at h6
      unfold Ai Bn
      first | (simp only [h3, h5, Bool.true_and, Bool.and_true, Bool.false_and, Bool.and_false, Bool.true_or, Bool.or_true, Bool.false_or, Bool.or_false, Bool.not_true, Bool.not_false]; done) | (simp only [h3, h5, Bool.true_and, Bool.and_true, Bool.false_and, Bool.and_false, Bool.true_or, Bool.or_true, Bool.false_or, Bool.or_false, Bool.not_true, Bool.not_false]; simp [h6]; done) | (simp [h6]; done) | (simp only [h3, h5, Bool.true_and, Bool.and_true, Bool.false_and, Bool.and_false, Bool.true_or, Bool.or_true, Bool.false_or, Bool.or_false, Bool.not_true, Bool.not_false]; simp [h6]; omega)
     rw [e]
     first | done | rfl
    ·refine Bf h6 ?_
     refine Au ?_
     refine Ac ((decide (p.fType = 2))) (fun h7 => ?_) (fun h7 => ?_)
     ·refine A0 h7 ?_
      refine Ad (o' := 20) rfl ?_
      refine Al (c := .sc (.int .i64 p.fCode)) s4 (.here) rfl ?_
      refine Ah (v := (.bool (A5 p.fCode 0 5))) s4 rfl (.cons .sc (.cons .sc (.cons .sc .nil))) (Dx (n + 8) _ p.fCode 0 5) ?_
      refine Ac ((A5 p.fCode 0 5)) (fun h8 => ?_) (fun h8 => ?_)
      ·refine Ae h8 ?_
       refine Ad (o' := 21) rfl ?_
       refine Ae h8 ?_
       refine Al (c := .sc (.bool p.fPresent)) s4 (.here) rfl ?_
       refine Ae h8 ?_
       refine C5 ?_
       refine Ae h8 ?_
       refine Ac (p.fPresent) (fun h9 => ?_) (fun h9 => ?_)
       ·refine Ae (nF h9) ?_
        refine Ad (o' := 20) rfl ?_
        refine Ae (nF h9) ?_
        refine Al (c := .sc (.int .i64 p.fCode)) s4 (.here) rfl ?_
        refine Ae (nF h9) ?_
        refine Au ?_
        refine Ae h8 ?_
        refine An (nF h9) ?_
        refine Bj h8 ?_
        refine Aj rfl ?_
        have e : Ai p = (decide (p.fCode = 0)) := by
         clear s0 s2 s4
         try simp only [decide_eq_false_iff_not, decide_eq_true_eq] at h6 h7
         unfold Ai Bn
         first | (simp only [h3, h5, h8, h9, Bool.true_and, Bool.and_true, Bool.false_and, Bool.and_false, Bool.true_or, Bool.or_true, Bool.false_or, Bool.or_false, Bool.not_true, Bool.not_false]; done) | (simp only [h3, h5, h8, h9, Bool.true_and, Bool.and_true, Bool.false_and, Bool.and_false, Bool.true_or, Bool.or_true, Bool.false_or, Bool.or_false, Bool.not_true, Bool.not_false]; simp [h6, h7]; done) | (simp [h6, h7]; done) | (simp only [h3, h5, h8, h9, Bool.true_and, Bool.and_true, Bool.false_and, Bool.and_false, Bool.true_or, Bool.or_true, Bool.false_or, Bool.or_false, Bool.not_true, Bool.not_false]; simp [h6, h7]; omega)
        rw [e]
        first | done | rfl
       ·refine Aa (nT h9) ?_
        refine Aa (nT h9) ?_
        refine Aa (nT h9) ?_
        refine Ae h8 ?_
        refine Bj (nT h9) ?_
        refine Bj h8 ?_
        refine Aj rfl ?_
        have e : Ai p = true := by
         clear s0 s2 s4
         try simp only [decide_eq_false_iff_not, decide_eq_true_eq] at h6 h7
         unfold Ai Bn
         first | (simp only [h3, h5, h8, h9, Bool.true_and, Bool.and_true, Bool.false_and, Bool.and_false, Bool.true_or, Bool.or_true, Bool.false_or, Bool.or_false, Bool.not_true, Bool.not_false]; done) | (simp only [h3, h5, h8, h9, Bool.true_and, Bool.and_true, Bool.false_and, Bool.and_false, Bool.true_or, Bool.or_true, Bool.false_or, Bool.or_false, Bool.not_true, Bool.not_false]; simp [h6, h7]; done) | (simp [h6, h7]; done) | (simp only [h3, h5, h8, h9, Bool.true_and, Bool.and_true, Bool.false_and, Bool.and_false, Bool.true_or, Bool.or_true, Bool.false_or, Bool.or_false, Bool.not_true, Bool.not_false]; simp [h6, h7]; omega)
        rw [e]
        first | done | rfl
      ·refine Aa h8 ?_
       refine Aa h8 ?_
       refine Aa h8 ?_
       refine Aa h8 ?_
       refine Bt ?_
       refine Bt ?_
       refine Bt ?_
       refine Aa h8 ?_
       refine An h8 ?_
       refine Aj rfl ?_
       have e : Ai p = false := by
        clear s0 s2 s4
        try simp only [decide_eq_false_iff_not, decide_eq_true_eq] at h6 h7
        unfold Ai Bn
        first | (simp only [h3, h5, h8, Bool.true_and, Bool.and_true, Bool.false_and, Bool.and_false, Bool.true_or, Bool.or_true, Bool.false_or, Bool.or_false, Bool.not_true, Bool.not_false]; done) | (simp only [h3, h5, h8, Bool.true_and, Bool.and_true, Bool.false_and, Bool.and_false, Bool.true_or, Bool.or_true, Bool.false_or, Bool.or_false, Bool.not_true, Bool.not_false]; simp [h6, h7]; done) | (simp [h6, h7]; done) | (simp only [h3, h5, h8, Bool.true_and, Bool.and_true, Bool.false_and, Bool.and_false, Bool.true_or, Bool.or_true, Bool.false_or, Bool.or_false, Bool.not_true, Bool.not_false]; simp [h6, h7]; omega)
       rw [e]
       first | done | rfl
     ·refine Bf h7 ?_
      refine Au ?_
      refine Ac ((decide (p.fType = 3))) (fun h10 => ?_) (fun h10 => ?_)
      ·refine A0 h10 ?_
       refine Ad (o' := 2) rfl ?_
       refine Al (c := .sc (.int .i64 p.fQos)) s4 (.here) rfl ?_
       refine Ah (v := (.bool (A5 p.fQos 0 2))) s4 rfl (.cons .sc .nil) (Ld (n + 7) p.fQos) ?_
       refine Ac ((A5 p.fQos 0 2)) (fun h11 => ?_) (fun h11 => ?_)
       ·refine Ae h11 ?_
        refine Ad (o' := 5) rfl ?_
        refine Ae h11 ?_
        refine Al (c := .sc (.string p.fTopic)) s4 (.here) rfl ?_
        refine Ae h11 ?_
        refine Ah (v := (.bool (B5 p.fTopic))) s4 rfl (.cons .sc .nil) (Jz (n + 4) (by omega) _ p.fTopic hp.t1) ?_
        refine Bj h11 ?_
        refine Ac ((B5 p.fTopic)) (fun h12 => ?_) (fun h12 => ?_)
        ·refine Ae h12 ?_
         refine Ad (o' := 6) rfl ?_
         refine Ae h12 ?_
         refine Al (c := Ax p.fBody) s4 (.here) rfl ?_
         refine Ae h12 ?_
         refine Cq ?_
         refine Ae h12 ?_
         refine Hk ?_
         refine Bj h12 ?_
         refine Ac ((decide (((p.fBody.size : Nat) : Int) ≤ 40))) (fun h13 => ?_) (fun h13 => ?_)
         ·refine Ae h13 ?_
          refine Ad (o' := 2) rfl ?_
          refine Ae h13 ?_
          refine Al (c := .sc (.int .i64 p.fQos)) s4 (.here) rfl ?_
          refine Ae h13 ?_
          refine Au ?_
          refine Ae h13 ?_
          refine Ac ((decide (p.fQos = 0))) (fun h14 => ?_) (fun h14 => ?_)
          ·refine Aa h14 ?_
           refine Aa h14 ?_
           refine Aa h14 ?_
           refine Ae h13 ?_
           refine Bj h14 ?_
           refine Bj h13 ?_
           refine Aj rfl ?_
           have e : Ai p = true := by
            clear s0 s2 s4
            try simp only [decide_eq_false_iff_not, decide_eq_true_eq] at h6 h7 h10 h13 h14
            unfold Ai Bn
            first | (simp only [h3, h5, h11, h12, Bool.true_and, Bool.and_true, Bool.false_and, Bool.and_false, Bool.true_or, Bool.or_true, Bool.false_or, Bool.or_false, Bool.not_true, Bool.not_false]; done) | (simp only [h3, h5, h11, h12, Bool.true_and, Bool.and_true, Bool.false_and, Bool.and_false, Bool.true_or, Bool.or_true, Bool.false_or, Bool.or_false, Bool.not_true, Bool.not_false]; simp [h6, h7, h10, h13, h14]; done) | (simp [h6, h7, h10, h13, h14]; done) | (simp only [h3, h5, h11, h12, Bool.true_and, Bool.and_true, Bool.false_and, Bool.and_false, Bool.true_or, Bool.or_true, Bool.false_or, Bool.or_false, Bool.not_true, Bool.not_false]; simp [h6, h7, h10, h13, h14]; omega)
           rw [e]
           first | done | rfl
          ·refine Ae h14 ?_
           refine Ad (o' := 4) rfl ?_
           refine Ae h14 ?_
           refine Al (c := .sc (.int .i64 p.fId)) s4 (.here) rfl ?_
           refine Ae h14 ?_
           refine Ah (v := (.bool (A5 p.fId 1 65535))) s4 rfl (.cons .sc .nil) (E4 (n + 7) p.fId) ?_
           refine Ae h13 ?_
           refine An h14 ?_
           refine Bj h13 ?_
           refine Aj rfl ?_
           have e : Ai p = (A5 p.fId 1 65535) := by
            clear s0 s2 s4
            try simp only [decide_eq_false_iff_not, decide_eq_true_eq] at h6 h7 h10 h13 h14
            unfold Ai Bn
            first | (simp only [h3, h5, h11, h12, Bool.true_and, Bool.and_true, Bool.false_and, Bool.and_false, Bool.true_or, Bool.or_true, Bool.false_or, Bool.or_false, Bool.not_true, Bool.not_false]; done) | (simp only [h3, h5, h11, h12, Bool.true_and, Bool.and_true, Bool.false_and, Bool.and_false, Bool.true_or, Bool.or_true, Bool.false_or, Bool.or_false, Bool.not_true, Bool.not_false]; simp [h6, h7, h10, h13, h14]; done) | (simp [h6, h7, h10, h13, h14]; done) | (simp only [h3, h5, h11, h12, Bool.true_and, Bool.and_true, Bool.false_and, Bool.and_false, Bool.true_or, Bool.or_true, Bool.false_or, Bool.or_false, Bool.not_true, Bool.not_false]; simp [h6, h7, h10, h13, h14]; omega)
           rw [e]
           first | done | rfl
         ·refine Aa h13 ?_
          refine Aa h13 ?_
          refine Aa h13 ?_
          refine Aa h13 ?_
          refine Bt ?_
          refine Bt ?_
          refine Bt ?_
          refine Aa h13 ?_
          refine An h13 ?_
          refine Aj rfl ?_
          have e : Ai p = false := by
           clear s0 s2 s4
           try simp only [decide_eq_false_iff_not, decide_eq_true_eq] at h6 h7 h10 h13
           unfold Ai Bn
           first | (simp only [h3, h5, h11, h12, Bool.true_and, Bool.and_true, Bool.false_and, Bool.and_false, Bool.true_or, Bool.or_true, Bool.false_or, Bool.or_false, Bool.not_true, Bool.not_false]; done) | (simp only [h3, h5, h11, h12, Bool.true_and, Bool.and_true, Bool.false_and, Bool.and_false, Bool.true_or, Bool.or_true, Bool.false_or, Bool.or_false, Bool.not_true, Bool.not_false]; simp [h6, h7, h10, h13]; done) | (simp [h6, h7, h10, h13]; done) | (simp only [h3, h5, h11, h12, Bool.true_and, Bool.and_true, Bool.false_and, Bool.and_false, Bool.true_or, Bool.or_true, Bool.false_or, Bool.or_false, Bool.not_true, Bool.not_false]; simp [h6, h7, h10, h13]; omega)
          rw [e]
          first | done | rfl
        ·refine Aa h12 ?_
         refine Aa h12 ?_
         refine Aa h12 ?_
         refine Aa h12 ?_
         refine An h12 ?_
         refine Aa rfl ?_
         refine Aa rfl ?_
         refine Aa rfl ?_
         refine Aa rfl ?_
         refine Bt ?_
         refine Bt ?_
         refine Bt ?_
         refine Aa rfl ?_
         refine An rfl ?_
         refine Aj rfl ?_
         have e : Ai p = false := by
          clear s0 s2 s4
          try simp only [decide_eq_false_iff_not, decide_eq_true_eq] at h6 h7 h10
          unfold Ai Bn
          first | (simp only [h3, h5, h11, h12, Bool.true_and, Bool.and_true, Bool.false_and, Bool.and_false, Bool.true_or, Bool.or_true, Bool.false_or, Bool.or_false, Bool.not_true, Bool.not_false]; done) | (simp only [h3, h5, h11, h12, Bool.true_and, Bool.and_true, Bool.false_and, Bool.and_false, Bool.true_or, Bool.or_true, Bool.false_or, Bool.or_false, Bool.not_true, Bool.not_false]; simp [h6, h7, h10]; done) | (simp [h6, h7, h10]; done) | (simp only [h3, h5, h11, h12, Bool.true_and, Bool.and_true, Bool.false_and, Bool.and_false, Bool.true_or, Bool.or_true, Bool.false_or, Bool.or_false, Bool.not_true, Bool.not_false]; simp [h6, h7, h10]; omega)
         rw [e]
         first | done | rfl
       ·refine Aa h11 ?_
        refine Aa h11 ?_
        refine Aa h11 ?_
        refine An h11 ?_
        refine Aa rfl ?_
        refine Aa rfl ?_
        refine Aa rfl ?_
        refine Aa rfl ?_
        refine An rfl ?_
        refine Aa rfl ?_
        refine Aa rfl ?_
        refine Aa rfl ?_
        refine Aa rfl ?_
        refine Bt ?_
        refine Bt ?_
        refine Bt ?_
        refine Aa rfl ?_
        refine An rfl ?_
        refine Aj rfl ?_
        have e : Ai p = false := by
         clear s0 s2 s4
         try simp only [decide_eq_false_iff_not, decide_eq_true_eq] at h6 h7 h10
         unfold Ai Bn
         first | (simp only [h3, h5, h11, Bool.true_and, Bool.and_true, Bool.false_and, Bool.and_false, Bool.true_or, Bool.or_true, Bool.false_or, Bool.or_false, Bool.not_true, Bool.not_false]; done) | (simp only [h3, h5, h11, Bool.true_and, Bool.and_true, Bool.false_and, Bool.and_false, Bool.true_or, Bool.or_true, Bool.false_or, Bool.or_false, Bool.not_true, Bool.not_false]; simp [h6, h7, h10]; done) | (simp [h6, h7, h10]; done) | (simp only [h3, h5, h11, Bool.true_and, Bool.and_true, Bool.false_and, Bool.and_false, Bool.true_or, Bool.or_true, Bool.false_or, Bool.or_false, Bool.not_true, Bool.not_false]; simp [h6, h7, h10]; omega)
        rw [e]
        first | done | rfl
      ·refine Bf h10 ?_
       refine Au ?_
       refine Fm ?_
       refine Ac ((decide (p.fType = 4))) (fun h15 => ?_) (fun h15 => ?_)
       ·refine A0 h15 ?_
        refine A0 h15 ?_
        refine Ad (o' := 4) rfl ?_
        refine Al (c := .sc (.int .i64 p.fId)) s4 (.here) rfl ?_
        refine Ah (v := (.bool (A5 p.fId 1 65535))) s4 rfl (.cons .sc .nil) (E4 (n + 7) p.fId) ?_
        refine Aj rfl ?_
        have e : Ai p = (A5 p.fId 1 65535) := by
         clear s0 s2 s4
         try simp only [decide_eq_false_iff_not, decide_eq_true_eq] at h6 h7 h10 h15
         unfold Ai Bn
         first | (simp only [h3, h5, Bool.true_and, Bool.and_true, Bool.false_and, Bool.and_false, Bool.true_or, Bool.or_true, Bool.false_or, Bool.or_false, Bool.not_true, Bool.not_false]; done) | (simp only [h3, h5, Bool.true_and, Bool.and_true, Bool.false_and, Bool.and_false, Bool.true_or, Bool.or_true, Bool.false_or, Bool.or_false, Bool.not_true, Bool.not_false]; simp [h6, h7, h10, h15]; done) | (simp [h6, h7, h10, h15]; done) | (simp only [h3, h5, Bool.true_and, Bool.and_true, Bool.false_and, Bool.and_false, Bool.true_or, Bool.or_true, Bool.false_or, Bool.or_false, Bool.not_true, Bool.not_false]; simp [h6, h7, h10, h15]; omega)
        rw [e]
        first | done | rfl
       ·refine Bf h15 ?_
        refine Au ?_
        refine Ac ((decide (p.fType = 5))) (fun h16 => ?_) (fun h16 => ?_)
        ·refine A0 h16 ?_
         refine A0 h16 ?_
         refine Ad (o' := 4) rfl ?_
         refine Al (c := .sc (.int .i64 p.fId)) s4 (.here) rfl ?_
         refine Ah (v := (.bool (A5 p.fId 1 65535))) s4 rfl (.cons .sc .nil) (E4 (n + 7) p.fId) ?_
         refine Aj rfl ?_
         have e : Ai p = (A5 p.fId 1 65535) := by
          clear s0 s2 s4
          try simp only [decide_eq_false_iff_not, decide_eq_true_eq] at h6 h7 h10 h15 h16
          unfold Ai Bn
          first | (simp only [h3, h5, Bool.true_and, Bool.and_true, Bool.false_and, Bool.and_false, Bool.true_or, Bool.or_true, Bool.false_or, Bool.or_false, Bool.not_true, Bool.not_false]; done) | (simp only [h3, h5, Bool.true_and, Bool.and_true, Bool.false_and, Bool.and_false, Bool.true_or, Bool.or_true, Bool.false_or, Bool.or_false, Bool.not_true, Bool.not_false]; simp [h6, h7, h10, h15, h16]; done) | (simp [h6, h7, h10, h15, h16]; done) | (simp only [h3, h5, Bool.true_and, Bool.and_true, Bool.false_and, Bool.and_false, Bool.true_or, Bool.or_true, Bool.false_or, Bool.or_false, Bool.not_true, Bool.not_false]; simp [h6, h7, h10, h15, h16]; omega)
         rw [e]
         first | done | rfl
        ·refine Bf h16 ?_
         refine Au ?_
         refine Ac ((decide (p.fType = 6))) (fun h17 => ?_) (fun h17 => ?_)
         ·refine A0 h17 ?_
          refine A0 h17 ?_
          refine Ad (o' := 4) rfl ?_
          refine Al (c := .sc (.int .i64 p.fId)) s4 (.here) rfl ?_
          refine Ah (v := (.bool (A5 p.fId 1 65535))) s4 rfl (.cons .sc .nil) (E4 (n + 7) p.fId) ?_
          refine Aj rfl ?_
          have e : Ai p = (A5 p.fId 1 65535) := by
           clear s0 s2 s4
           try simp only [decide_eq_false_iff_not, decide_eq_true_eq] at h6 h7 h10 h15 h16 h17
           unfold Ai Bn
           first | (simp only [h3, h5, Bool.true_and, Bool.and_true, Bool.false_and, Bool.and_false, Bool.true_or, Bool.or_true, Bool.false_or, Bool.or_false, Bool.not_true, Bool.not_false]; done) | (simp only [h3, h5, Bool.true_and, Bool.and_true, Bool.false_and, Bool.and_false, Bool.true_or, Bool.or_true, Bool.false_or, Bool.or_false, Bool.not_true, Bool.not_false]; simp [h6, h7, h10, h15, h16, h17]; done) | (simp [h6, h7, h10, h15, h16, h17]; done) | (simp only [h3, h5, Bool.true_and, Bool.and_true, Bool.false_and, Bool.and_false, Bool.true_or, Bool.or_true, Bool.false_or, Bool.or_false, Bool.not_true, Bool.not_false]; simp [h6, h7, h10, h15, h16, h17]; omega)
          rw [e]
          first | done | rfl
         ·refine Bf h17 ?_
          refine Au ?_
          refine Ac ((decide (p.fType = 7))) (fun h18 => ?_) (fun h18 => ?_)
          ·refine A0 h18 ?_
           refine A0 h18 ?_
           refine Ad (o' := 4) rfl ?_
           refine Al (c := .sc (.int .i64 p.fId)) s4 (.here) rfl ?_
           refine Ah (v := (.bool (A5 p.fId 1 65535))) s4 rfl (.cons .sc .nil) (E4 (n + 7) p.fId) ?_
           refine Aj rfl ?_
           have e : Ai p = (A5 p.fId 1 65535) := by
            clear s0 s2 s4
            try simp only [decide_eq_false_iff_not, decide_eq_true_eq] at h6 h7 h10 h15 h16 h17 h18
            unfold Ai Bn
            first | (simp only [h3, h5, Bool.true_and, Bool.and_true, Bool.false_and, Bool.and_false, Bool.true_or, Bool.or_true, Bool.false_or, Bool.or_false, Bool.not_true, Bool.not_false]; done) | (simp only [h3, h5, Bool.true_and, Bool.and_true, Bool.false_and, Bool.and_false, Bool.true_or, Bool.or_true, Bool.false_or, Bool.or_false, Bool.not_true, Bool.not_false]; simp [h6, h7, h10, h15, h16, h17, h18]; done) | (simp [h6, h7, h10, h15, h16, h17, h18]; done) | (simp only [h3, h5, Bool.true_and, Bool.and_true, Bool.false_and, Bool.and_false, Bool.true_or, Bool.or_true, Bool.false_or, Bool.or_false, Bool.not_true, Bool.not_false]; simp [h6, h7, h10, h15, h16, h17, h18]; omega)
           rw [e]
           first | done | rfl
          ·refine Bf h18 ?_
           refine Au ?_
           refine Ac ((decide (p.fType = 11))) (fun h19 => ?_) (fun h19 => ?_)
           ·refine A0 h19 ?_
            refine Ad (o' := 4) rfl ?_
            refine Al (c := .sc (.int .i64 p.fId)) s4 (.here) rfl ?_
            refine Ah (v := (.bool (A5 p.fId 1 65535))) s4 rfl (.cons .sc .nil) (E4 (n + 7) p.fId) ?_
            refine Aj rfl ?_
            have e : Ai p = (A5 p.fId 1 65535) := by
             clear s0 s2 s4
             try simp only [decide_eq_false_iff_not, decide_eq_true_eq] at h6 h7 h10 h15 h16 h17 h18 h19
             unfold Ai Bn
             first | (simp only [h3, h5, Bool.true_and, Bool.and_true, Bool.false_and, Bool.and_false, Bool.true_or, Bool.or_true, Bool.false_or, Bool.or_false, Bool.not_true, Bool.not_false]; done) | (simp only [h3, h5, Bool.true_and, Bool.and_true, Bool.false_and, Bool.and_false, Bool.true_or, Bool.or_true, Bool.false_or, Bool.or_false, Bool.not_true, Bool.not_false]; simp [h6, h7, h10, h15, h16, h17, h18, h19]; done) | (simp [h6, h7, h10, h15, h16, h17, h18, h19]; done) | (simp only [h3, h5, Bool.true_and, Bool.and_true, Bool.false_and, Bool.and_false, Bool.true_or, Bool.or_true, Bool.false_or, Bool.or_false, Bool.not_true, Bool.not_false]; simp [h6, h7, h10, h15, h16, h17, h18, h19]; omega)
            rw [e]
            first | done | rfl
           ·refine Bf h19 ?_
            refine Au ?_
            refine Fm ?_
            refine Ac ((decide (p.fType = 8))) (fun h20 => ?_) (fun h20 => ?_)
            ·refine A0 h20 ?_
             refine A0 h20 ?_
             refine Ad (o' := 4) rfl ?_
             refine Al (c := .sc (.int .i64 p.fId)) s4 (.here) rfl ?_
             refine Ah (v := (.bool (A5 p.fId 1 65535))) s4 rfl (.cons .sc .nil) (E4 (n + 7) p.fId) ?_
             refine Ac ((A5 p.fId 1 65535)) (fun h21 => ?_) (fun h21 => ?_)
             ·refine Ae h21 ?_
              refine Bo s4 (.here) rfl ?_
              refine Ae h21 ?_
              refine Ah (v := (.bool (Df p))) s4 rfl (.aggF (B4 _) .nil) (I9 (n + 2) (by omega) p hp) ?_
              refine Bj h21 ?_
              refine Aj rfl ?_
              have e : Ai p = (Df p) := by
               clear s0 s2 s4
               try simp only [decide_eq_false_iff_not, decide_eq_true_eq] at h6 h7 h10 h15 h16 h17 h18 h19 h20
               unfold Ai Bn
               first | (simp only [h3, h5, h21, Bool.true_and, Bool.and_true, Bool.false_and, Bool.and_false, Bool.true_or, Bool.or_true, Bool.false_or, Bool.or_false, Bool.not_true, Bool.not_false]; done) | (simp only [h3, h5, h21, Bool.true_and, Bool.and_true, Bool.false_and, Bool.and_false, Bool.true_or, Bool.or_true, Bool.false_or, Bool.or_false, Bool.not_true, Bool.not_false]; simp [h6, h7, h10, h15, h16, h17, h18, h19, h20]; done) | (simp [h6, h7, h10, h15, h16, h17, h18, h19, h20]; done) | (simp only [h3, h5, h21, Bool.true_and, Bool.and_true, Bool.false_and, Bool.and_false, Bool.true_or, Bool.or_true, Bool.false_or, Bool.or_false, Bool.not_true, Bool.not_false]; simp [h6, h7, h10, h15, h16, h17, h18, h19, h20]; omega)
              rw [e]
              first | done | rfl
             ·refine Aa h21 ?_
              refine Aa h21 ?_
              refine An h21 ?_
              refine Aj rfl ?_
              have e : Ai p = false := by
               clear s0 s2 s4
               try simp only [decide_eq_false_iff_not, decide_eq_true_eq] at h6 h7 h10 h15 h16 h17 h18 h19 h20
               unfold Ai Bn
               first | (simp only [h3, h5, h21, Bool.true_and, Bool.and_true, Bool.false_and, Bool.and_false, Bool.true_or, Bool.or_true, Bool.false_or, Bool.or_false, Bool.not_true, Bool.not_false]; done) | (simp only [h3, h5, h21, Bool.true_and, Bool.and_true, Bool.false_and, Bool.and_false, Bool.true_or, Bool.or_true, Bool.false_or, Bool.or_false, Bool.not_true, Bool.not_false]; simp [h6, h7, h10, h15, h16, h17, h18, h19, h20]; done) | (simp [h6, h7, h10, h15, h16, h17, h18, h19, h20]; done) | (simp only [h3, h5, h21, Bool.true_and, Bool.and_true, Bool.false_and, Bool.and_false, Bool.true_or, Bool.or_true, Bool.false_or, Bool.or_false, Bool.not_true, Bool.not_false]; simp [h6, h7, h10, h15, h16, h17, h18, h19, h20]; omega)
              rw [e]
              first | done | rfl
            ·refine Bf h20 ?_
             refine Au ?_
             refine Ac ((decide (p.fType = 9))) (fun h22 => ?_) (fun h22 => ?_)
             ·refine A0 h22 ?_
              refine A0 h22 ?_
              refine Ad (o' := 4) rfl ?_
              refine Al (c := .sc (.int .i64 p.fId)) s4 (.here) rfl ?_
              refine Ah (v := (.bool (A5 p.fId 1 65535))) s4 rfl (.cons .sc .nil) (E4 (n + 7) p.fId) ?_
              refine Ac ((A5 p.fId 1 65535)) (fun h23 => ?_) (fun h23 => ?_)
              ·refine Ae h23 ?_
               refine Bo s4 (.here) rfl ?_
               refine Ae h23 ?_
               refine Ah (v := (.bool (Df p))) s4 rfl (.aggF (B4 _) .nil) (I9 (n + 2) (by omega) p hp) ?_
               refine Bj h23 ?_
               refine Aj rfl ?_
               have e : Ai p = (Df p) := by
                clear s0 s2 s4
                try simp only [decide_eq_false_iff_not, decide_eq_true_eq] at h6 h7 h10 h15 h16 h17 h18 h19 h20 h22
                unfold Ai Bn
                first | (simp only [h3, h5, h23, Bool.true_and, Bool.and_true, Bool.false_and, Bool.and_false, Bool.true_or, Bool.or_true, Bool.false_or, Bool.or_false, Bool.not_true, Bool.not_false]; done) | (simp only [h3, h5, h23, Bool.true_and, Bool.and_true, Bool.false_and, Bool.and_false, Bool.true_or, Bool.or_true, Bool.false_or, Bool.or_false, Bool.not_true, Bool.not_false]; simp [h6, h7, h10, h15, h16, h17, h18, h19, h20, h22]; done) | (simp [h6, h7, h10, h15, h16, h17, h18, h19, h20, h22]; done) | (simp only [h3, h5, h23, Bool.true_and, Bool.and_true, Bool.false_and, Bool.and_false, Bool.true_or, Bool.or_true, Bool.false_or, Bool.or_false, Bool.not_true, Bool.not_false]; simp [h6, h7, h10, h15, h16, h17, h18, h19, h20, h22]; omega)
               rw [e]
               first | done | rfl
              ·refine Aa h23 ?_
               refine Aa h23 ?_
               refine An h23 ?_
               refine Aj rfl ?_
               have e : Ai p = false := by
                clear s0 s2 s4
                try simp only [decide_eq_false_iff_not, decide_eq_true_eq] at h6 h7 h10 h15 h16 h17 h18 h19 h20 h22
                unfold Ai Bn
                first | (simp only [h3, h5, h23, Bool.true_and, Bool.and_true, Bool.false_and, Bool.and_false, Bool.true_or, Bool.or_true, Bool.false_or, Bool.or_false, Bool.not_true, Bool.not_false]; done) | (simp only [h3, h5, h23, Bool.true_and, Bool.and_true, Bool.false_and, Bool.and_false, Bool.true_or, Bool.or_true, Bool.false_or, Bool.or_false, Bool.not_true, Bool.not_false]; simp [h6, h7, h10, h15, h16, h17, h18, h19, h20, h22]; done) | (simp [h6, h7, h10, h15, h16, h17, h18, h19, h20, h22]; done) | (simp only [h3, h5, h23, Bool.true_and, Bool.and_true, Bool.false_and, Bool.and_false, Bool.true_or, Bool.or_true, Bool.false_or, Bool.or_false, Bool.not_true, Bool.not_false]; simp [h6, h7, h10, h15, h16, h17, h18, h19, h20, h22]; omega)
               rw [e]
               first | done | rfl
             ·refine Bf h22 ?_
              refine Au ?_
              refine Ac ((decide (p.fType = 10))) (fun h24 => ?_) (fun h24 => ?_)
              ·refine A0 h24 ?_
               refine Ad (o' := 4) rfl ?_
               refine Al (c := .sc (.int .i64 p.fId)) s4 (.here) rfl ?_
               refine Ah (v := (.bool (A5 p.fId 1 65535))) s4 rfl (.cons .sc .nil) (E4 (n + 7) p.fId) ?_
               refine Ac ((A5 p.fId 1 65535)) (fun h25 => ?_) (fun h25 => ?_)
               ·refine Ae h25 ?_
                refine Bo s4 (.here) rfl ?_
                refine Ae h25 ?_
                refine Ah (v := (.bool (Df p))) s4 rfl (.aggF (B4 _) .nil) (I9 (n + 2) (by omega) p hp) ?_
                refine Bj h25 ?_
                refine Aj rfl ?_
                have e : Ai p = (Df p) := by
                 clear s0 s2 s4
                 try simp only [decide_eq_false_iff_not, decide_eq_true_eq] at h6 h7 h10 h15 h16 h17 h18 h19 h20 h22 h24
                 unfold Ai Bn
                 first | (simp only [h3, h5, h25, Bool.true_and, Bool.and_true, Bool.false_and, Bool.and_false, Bool.true_or, Bool.or_true, Bool.false_or, Bool.or_false, Bool.not_true, Bool.not_false]; done) | (simp only [h3, h5, h25, Bool.true_and, Bool.and_true, Bool.false_and, Bool.and_false, Bool.true_or, Bool.or_true, Bool.false_or, Bool.or_false, Bool.not_true, Bool.not_false]; simp [h6, h7, h10, h15, h16, h17, h18, h19, h20, h22, h24]; done) | (simp [h6, h7, h10, h15, h16, h17, h18, h19, h20, h22, h24]; done) | (simp only [h3, h5, h25, Bool.true_and, Bool.and_true, Bool.false_and, Bool.and_false, Bool.true_or, Bool.or_true, Bool.false_or, Bool.or_false, Bool.not_true, Bool.not_false]; simp [h6, h7, h10, h15, h16, h17, h18, h19, h20, h22, h24]; omega)
                rw [e]
                first | done | rfl
               ·refine Aa h25 ?_
                refine Aa h25 ?_
                refine An h25 ?_
                refine Aj rfl ?_
                have e : Ai p = false := by
                 clear s0 s2 s4
                 try simp only [decide_eq_false_iff_not, decide_eq_true_eq] at h6 h7 h10 h15 h16 h17 h18 h19 h20 h22 h24
                 unfold Ai Bn
                 first | (simp only [h3, h5, h25, Bool.true_and, Bool.and_true, Bool.false_and, Bool.and_false, Bool.true_or, Bool.or_true, Bool.false_or, Bool.or_false, Bool.not_true, Bool.not_false]; done) | (simp only [h3, h5, h25, Bool.true_and, Bool.and_true, Bool.false_and, Bool.and_false, Bool.true_or, Bool.or_true, Bool.false_or, Bool.or_false, Bool.not_true, Bool.not_false]; simp [h6, h7, h10, h15, h16, h17, h18, h19, h20, h22, h24]; done) | (simp [h6, h7, h10, h15, h16, h17, h18, h19, h20, h22, h24]; done) | (simp only [h3, h5, h25, Bool.true_and, Bool.and_true, Bool.false_and, Bool.and_false, Bool.true_or, Bool.or_true, Bool.false_or, Bool.or_false, Bool.not_true, Bool.not_false]; simp [h6, h7, h10, h15, h16, h17, h18, h19, h20, h22, h24]; omega)
                rw [e]
                first | done | rfl
              ·refine Bf h24 ?_
               refine Aj rfl ?_
               have e : Ai p = true := by
                clear s0 s2 s4
                try simp only [decide_eq_false_iff_not, decide_eq_true_eq] at h6 h7 h10 h15 h16 h17 h18 h19 h20 h22 h24
                unfold Ai Bn
                first | (simp only [h3, h5, Bool.true_and, Bool.and_true, Bool.false_and, Bool.and_false, Bool.true_or, Bool.or_true, Bool.false_or, Bool.or_false, Bool.not_true, Bool.not_false]; done) | (simp only [h3, h5, Bool.true_and, Bool.and_true, Bool.false_and, Bool.and_false, Bool.true_or, Bool.or_true, Bool.false_or, Bool.or_false, Bool.not_true, Bool.not_false]; simp [h6, h7, h10, h15, h16, h17, h18, h19, h20, h22, h24]; done) | (simp [h6, h7, h10, h15, h16, h17, h18, h19, h20, h22, h24]; done) | (simp only [h3, h5, Bool.true_and, Bool.and_true, Bool.false_and, Bool.and_false, Bool.true_or, Bool.or_true, Bool.false_or, Bool.or_false, Bool.not_true, Bool.not_false]; simp [h6, h7, h10, h15, h16, h17, h18, h19, h20, h22, h24]; omega)
               rw [e]
               first | done | rfl
   ·refine A0 (nT h5) ?_
    refine Aj rfl ?_
    have e : Ai p = false := by
     clear s0 s2 s4
     unfold Ai Bn
     first | (simp only [h3, h5, Bool.true_and, Bool.and_true, Bool.false_and, Bool.and_false, Bool.true_or, Bool.or_true, Bool.false_or, Bool.or_false, Bool.not_true, Bool.not_false]; done) | (simp only [h3, h5, Bool.true_and, Bool.and_true, Bool.false_and, Bool.and_false, Bool.true_or, Bool.or_true, Bool.false_or, Bool.or_false, Bool.not_true, Bool.not_false]; simp; done) | (simp; done) | (simp only [h3, h5, Bool.true_and, Bool.and_true, Bool.false_and, Bool.and_false, Bool.true_or, Bool.or_true, Bool.false_or, Bool.or_false, Bool.not_true, Bool.not_false]; simp; omega)
    rw [e]
    first | done | rfl
  ·refine Ae (nF h3) ?_
   refine AdG rfl rfl ?_
   refine Pw (n + 8) (by omega) p s2 fun Rs26 H hRs26 s26 => ?_
   refine Ae (nF h3) ?_
   refine Bo s26 (.here) rfl ?_
   refine Ae (nF h3) ?_
   refine Ah (v := (.bool (A3 p (Aq false p)))) s26 rfl (.aggF (B4 _) (.agg (hRs26 _) .nil)) (Fx (n + 7) (by omega) _ p (Aq false p) hp.l1 hp.l2 hp.l3) ?_
   refine Ae (nF h3) ?_
   refine C5 ?_
   refine An (nF h3) ?_
   refine Ac ((A3 p (Aq false p))) (fun h27 => ?_) (fun h27 => ?_)
   ·refine Bf (nF h27) ?_
    refine Ad (o' := 0) rfl ?_
    refine Al (c := .sc (.int .i64 p.fType)) s26 (.here) rfl ?_
    refine Au ?_
    refine Ac ((decide (p.fType = 1))) (fun h28 => ?_) (fun h28 => ?_)
    ·refine A0 h28 ?_
     refine Bo s26 (.here) rfl ?_
     refine Ah (v := (.bool (Bk p))) s26 rfl (.aggF (B4 _) .nil) (O2 (n + 3) (by omega) p hp) ?_
     refine Aj rfl ?_
     have e : Ai p = (Bk p) := by
      clear s0 s2 s26
      try simp only [decide_eq_false_iff_not, decide_eq_true_eq] at h28
      unfold Ai Bn
      first | (simp only [h3, h27, Bool.true_and, Bool.and_true, Bool.false_and, Bool.and_false, Bool.true_or, Bool.or_true, Bool.false_or, Bool.or_false, Bool.not_true, Bool.not_false]; done) | (simp only [h3, h27, Bool.true_and, Bool.and_true, Bool.false_and, Bool.and_false, Bool.true_or, Bool.or_true, Bool.false_or, Bool.or_false, Bool.not_true, Bool.not_false]; simp [h28]; done) | (simp [h28]; done) | (simp only [h3, h27, Bool.true_and, Bool.and_true, Bool.false_and, Bool.and_false, Bool.true_or, Bool.or_true, Bool.false_or, Bool.or_false, Bool.not_true, Bool.not_false]; simp [h28]; omega)
     rw [e]
     first | done | rfl
    ·refine Bf h28 ?_
     refine Au ?_
     refine Ac ((decide (p.fType = 2))) (fun h29 => ?_) (fun h29 => ?_)
     ·refine A0 h29 ?_
      refine Ad (o' := 20) rfl ?_
      refine Al (c := .sc (.int .i64 p.fCode)) s26 (.here) rfl ?_
      refine Ah (v := (.bool (A5 p.fCode 0 5))) s26 rfl (.cons .sc (.cons .sc (.cons .sc .nil))) (Dx (n + 8) _ p.fCode 0 5) ?_
      refine Ac ((A5 p.fCode 0 5)) (fun h30 => ?_) (fun h30 => ?_)
      ·refine Ae h30 ?_
       refine Ad (o' := 21) rfl ?_
       refine Ae h30 ?_
       refine Al (c := .sc (.bool p.fPresent)) s26 (.here) rfl ?_
       refine Ae h30 ?_
       refine C5 ?_
       refine Ae h30 ?_
       refine Ac (p.fPresent) (fun h31 => ?_) (fun h31 => ?_)
       ·refine Ae (nF h31) ?_
        refine Ad (o' := 20) rfl ?_
        refine Ae (nF h31) ?_
        refine Al (c := .sc (.int .i64 p.fCode)) s26 (.here) rfl ?_
        refine Ae (nF h31) ?_
        refine Au ?_
        refine Ae h30 ?_
        refine An (nF h31) ?_
        refine Bj h30 ?_
        refine Aj rfl ?_
        have e : Ai p = (decide (p.fCode = 0)) := by
         clear s0 s2 s26
         try simp only [decide_eq_false_iff_not, decide_eq_true_eq] at h28 h29
         unfold Ai Bn
         first | (simp only [h3, h27, h30, h31, Bool.true_and, Bool.and_true, Bool.false_and, Bool.and_false, Bool.true_or, Bool.or_true, Bool.false_or, Bool.or_false, Bool.not_true, Bool.not_false]; done) | (simp only [h3, h27, h30, h31, Bool.true_and, Bool.and_true, Bool.false_and, Bool.and_false, Bool.true_or, Bool.or_true, Bool.false_or, Bool.or_false, Bool.not_true, Bool.not_false]; simp [h28, h29]; done) | (simp [h28, h29]; done) | (simp only [h3, h27, h30, h31, Bool.true_and, Bool.and_true, Bool.false_and, Bool.and_false, Bool.true_or, Bool.or_true, Bool.false_or, Bool.or_false, Bool.not_true, Bool.not_false]; simp [h28, h29]; omega)
        rw [e]
        first | done | rfl
       ·refine Aa (nT h31) ?_
        refine Aa (nT h31) ?_
        refine Aa (nT h31) ?_
        refine Ae h30 ?_
        refine Bj (nT h31) ?_
        refine Bj h30 ?_
        refine Aj rfl ?_
        have e : Ai p = true := by
         clear s0 s2 s26
         try simp only [decide_eq_false_iff_not, decide_eq_true_eq] at h28 h29
         unfold Ai Bn
         first | (simp only [h3, h27, h30, h31, Bool.true_and, Bool.and_true, Bool.false_and, Bool.and_false, Bool.true_or, Bool.or_true, Bool.false_or, Bool.or_false, Bool.not_true, Bool.not_false]; done) | (simp only [h3, h27, h30, h31, Bool.true_and, Bool.and_true, Bool.false_and, Bool.and_false, Bool.true_or, Bool.or_true, Bool.false_or, Bool.or_false, Bool.not_true, Bool.not_false]; simp [h28, h29]; done) | (simp [h28, h29]; done) | (simp only [h3, h27, h30, h31, Bool.true_and, Bool.and_true, Bool.false_and, Bool.and_false, Bool.true_or, Bool.or_true, Bool.false_or, Bool.or_false, Bool.not_true, Bool.not_false]; simp [h28, h29]; omega)
        rw [e]
        first | done | rfl
      ·refine Aa h30 ?_
       refine Aa h30 ?_
       refine Aa h30 ?_
       refine Aa h30 ?_
       refine Bt ?_
       refine Bt ?_
       refine Bt ?_
       refine Aa h30 ?_
       refine An h30 ?_
       refine Aj rfl ?_
       have e : Ai p = false := by
        clear s0 s2 s26
        try simp only [decide_eq_false_iff_not, decide_eq_true_eq] at h28 h29
        unfold Ai Bn
        first | (simp only [h3, h27, h30, Bool.true_and, Bool.and_true, Bool.false_and, Bool.and_false, Bool.true_or, Bool.or_true, Bool.false_or, Bool.or_false, Bool.not_true, Bool.not_false]; done) | (simp only [h3, h27, h30, Bool.true_and, Bool.and_true, Bool.false_and, Bool.and_false, Bool.true_or, Bool.or_true, Bool.false_or, Bool.or_false, Bool.not_true, Bool.not_false]; simp [h28, h29]; done) | (simp [h28, h29]; done) | (simp only [h3, h27, h30, Bool.true_and, Bool.and_true, Bool.false_and, Bool.and_false, Bool.true_or, Bool.or_true, Bool.false_or, Bool.or_false, Bool.not_true, Bool.not_false]; simp [h28, h29]; omega)
       rw [e]
       first | done | rfl
     ·refine Bf h29 ?_
      refine Au ?_
      refine Ac ((decide (p.fType = 3))) (fun h32 => ?_) (fun h32 => ?_)
      ·refine A0 h32 ?_
       refine Ad (o' := 2) rfl ?_
       refine Al (c := .sc (.int .i64 p.fQos)) s26 (.here) rfl ?_
       refine Ah (v := (.bool (A5 p.fQos 0 2))) s26 rfl (.cons .sc .nil) (Ld (n + 7) p.fQos) ?_
       refine Ac ((A5 p.fQos 0 2)) (fun h33 => ?_) (fun h33 => ?_)
       ·refine Ae h33 ?_
        refine Ad (o' := 5) rfl ?_
        refine Ae h33 ?_
        refine Al (c := .sc (.string p.fTopic)) s26 (.here) rfl ?_
        refine Ae h33 ?_
        refine Ah (v := (.bool (B5 p.fTopic))) s26 rfl (.cons .sc .nil) (Jz (n + 4) (by omega) _ p.fTopic hp.t1) ?_
        refine Bj h33 ?_
        refine Ac ((B5 p.fTopic)) (fun h34 => ?_) (fun h34 => ?_)
        ·refine Ae h34 ?_
         refine Ad (o' := 6) rfl ?_
         refine Ae h34 ?_
         refine Al (c := Ax p.fBody) s26 (.here) rfl ?_
         refine Ae h34 ?_
         refine Cq ?_
         refine Ae h34 ?_
         refine Hk ?_
         refine Bj h34 ?_
         refine Ac ((decide (((p.fBody.size : Nat) : Int) ≤ 40))) (fun h35 => ?_) (fun h35 => ?_)
         ·refine Ae h35 ?_
          refine Ad (o' := 2) rfl ?_
          refine Ae h35 ?_
          refine Al (c := .sc (.int .i64 p.fQos)) s26 (.here) rfl ?_
          refine Ae h35 ?_
          refine Au ?_
          refine Ae h35 ?_
          refine Ac ((decide (p.fQos = 0))) (fun h36 => ?_) (fun h36 => ?_)
          ·refine Aa h36 ?_
           refine Aa h36 ?_
           refine Aa h36 ?_
           refine Ae h35 ?_
           refine Bj h36 ?_
           refine Bj h35 ?_
           refine Aj rfl ?_
           have e : Ai p = true := by
            clear s0 s2 s26
            try simp only [decide_eq_false_iff_not, decide_eq_true_eq] at h28 h29 h32 h35 h36
            unfold Ai Bn
            first | (simp only [h3, h27, h33, h34, Bool.true_and, Bool.and_true, Bool.false_and, Bool.and_false, Bool.true_or, Bool.or_true, Bool.false_or, Bool.or_false, Bool.not_true, Bool.not_false]; done) | (simp only [h3, h27, h33, h34, Bool.true_and, Bool.and_true, Bool.false_and, Bool.and_false, Bool.true_or, Bool.or_true, Bool.false_or, Bool.or_false, Bool.not_true, Bool.not_false]; simp [h28, h29, h32, h35, h36]; done) | (simp [h28, h29, h32, h35, h36]; done) | (simp only [h3, h27, h33, h34, Bool.true_and, Bool.and_true, Bool.false_and, Bool.and_false, Bool.true_or, Bool.or_true, Bool.false_or, Bool.or_false, Bool.not_true, Bool.not_false]; simp [h28, h29, h32, h35, h36]; omega)
           rw [e]
           first | done | rfl
          ·refine Ae h36 ?_
           refine Ad (o' := 4) rfl ?_
           refine Ae h36 ?_
           refine Al (c := .sc (.int .i64 p.fId)) s26 (.here) rfl ?_
           refine Ae h36 ?_
           refine Ah (v := (.bool (A5 p.fId 1 65535))) s26 rfl (.cons .sc .nil) (E4 (n + 7) p.fId) ?_
           refine Ae h35 ?_
           refine An h36 ?_
           refine Bj h35 ?_
           refine Aj rfl ?_
           have e : Ai p = (A5 p.fId 1 65535) := by
            clear s0 s2 s26
            try simp only [decide_eq_false_iff_not, decide_eq_true_eq] at h28 h29 h32 h35 h36
            unfold Ai Bn
            first | (simp only [h3, h27, h33, h34, Bool.true_and, Bool.and_true, Bool.false_and, Bool.and_false, Bool.true_or, Bool.or_true, Bool.false_or, Bool.or_false, Bool.not_true, Bool.not_false]; done) | (simp only [h3, h27, h33, h34, Bool.true_and, Bool.and_true, Bool.false_and, Bool.and_false, Bool.true_or, Bool.or_true, Bool.false_or, Bool.or_false, Bool.not_true, Bool.not_false]; simp [h28, h29, h32, h35, h36]; done) | (simp [h28, h29, h32, h35, h36]; done) | (simp only [h3, h27, h33, h34, Bool.true_and, Bool.and_true, Bool.false_and, Bool.and_false, Bool.true_or, Bool.or_true, Bool.false_or, Bool.or_false, Bool.not_true, Bool.not_false]; simp [h28, h29, h32, h35, h36]; omega)
           rw [e]
           first | done | rfl
         ·refine Aa h35 ?_
          refine Aa h35 ?_
          refine Aa h35 ?_
          refine Aa h35 ?_
          refine Bt ?_
          refine Bt ?_
          refine Bt ?_
          refine Aa h35 ?_
          refine An h35 ?_
          refine Aj rfl ?_
          have e : Ai p = false := by
           clear s0 s2 s26
           try simp only [decide_eq_false_iff_not, decide_eq_true_eq] at h28 h29 h32 h35
           unfold Ai Bn
           first | (simp only [h3, h27, h33, h34, Bool.true_and, Bool.and_true, Bool.false_and, Bool.and_false, Bool.true_or, Bool.or_true, Bool.false_or, Bool.or_false, Bool.not_true, Bool.not_false]; done) | (simp only [h3, h27, h33, h34, Bool.true_and, Bool.and_true, Bool.false_and, Bool.and_false, Bool.true_or, Bool.or_true, Bool.false_or, Bool.or_false, Bool.not_true, Bool.not_false]; simp [h28, h29, h32, h35]; done) | (simp [h28, h29, h32, h35]; done) | (simp only [h3, h27, h33, h34, Bool.true_and, Bool.and_true, Bool.false_and, Bool.and_false, Bool.true_or, Bool.or_true, Bool.false_or, Bool.or_false, Bool.not_true, Bool.not_false]; simp [h28, h29, h32, h35]; omega)
          rw [e]
          first | done | rfl
        ·refine Aa h34 ?_
         refine Aa h34 ?_
         refine Aa h34 ?_
         refine Aa h34 ?_
         refine An h34 ?_
         refine Aa rfl ?_
         refine Aa rfl ?_
         refine Aa rfl ?_
         refine Aa rfl ?_
         refine Bt ?_
         refine Bt ?_
         refine Bt ?_
         refine Aa rfl ?_
         refine An rfl ?_
         refine Aj rfl ?_
         have e : Ai p = false := by
          clear s0 s2 s26
          try simp only [decide_eq_false_iff_not, decide_eq_true_eq] at h28 h29 h32
          unfold Ai Bn
          first | (simp only [h3, h27, h33, h34, Bool.true_and, Bool.and_true, Bool.false_and, Bool.and_false, Bool.true_or, Bool.or_true, Bool.false_or, Bool.or_false, Bool.not_true, Bool.not_false]; done) | (simp only [h3, h27, h33, h34, Bool.true_and, Bool.and_true, Bool.false_and, Bool.and_false, Bool.true_or, Bool.or_true, Bool.false_or, Bool.or_false, Bool.not_true, Bool.not_false]; simp [h28, h29, h32]; done) | (simp [h28, h29, h32]; done) | (simp only [h3, h27, h33, h34, Bool.true_and, Bool.and_true, Bool.false_and, Bool.and_false, Bool.true_or, Bool.or_true, Bool.false_or, Bool.or_false, Bool.not_true, Bool.not_false]; simp [h28, h29, h32]; omega)
         rw [e]
         first | done | rfl
       ·refine Aa h33 ?_
        refine Aa h33 ?_
        refine Aa h33 ?_
        refine An h33 ?_
        refine Aa rfl ?_
        refine Aa rfl ?_
        refine Aa rfl ?_
        refine Aa rfl ?_
        refine An rfl ?_
        refine Aa rfl ?_
        refine Aa rfl ?_
        refine Aa rfl ?_
        refine Aa rfl ?_
        refine Bt ?_
        refine Bt ?_
        refine Bt ?_
        refine Aa rfl ?_
        refine An rfl ?_
        refine Aj rfl ?_
        have e : Ai p = false := by
         clear s0 s2 s26
         try simp only [decide_eq_false_iff_not, decide_eq_true_eq] at h28 h29 h32
         unfold Ai Bn
         first | (simp only [h3, h27, h33, Bool.true_and, Bool.and_true, Bool.false_and, Bool.and_false, Bool.true_or, Bool.or_true, Bool.false_or, Bool.or_false, Bool.not_true, Bool.not_false]; done) | (simp only [h3, h27, h33, Bool.true_and, Bool.and_true, Bool.false_and, Bool.and_false, Bool.true_or, Bool.or_true, Bool.false_or, Bool.or_false, Bool.not_true, Bool.not_false]; simp [h28, h29, h32]; done) | (simp [h28, h29, h32]; done) | (simp only [h3, h27, h33, Bool.true_and, Bool.and_true, Bool.false_and, Bool.and_false, Bool.true_or, Bool.or_true, Bool.false_or, Bool.or_false, Bool.not_true, Bool.not_false]; simp [h28, h29, h32]; omega)
        rw [e]
        first | done | rfl
      ·refine Bf h32 ?_
       refine Au ?_
       refine Fm ?_
       refine Ac ((decide (p.fType = 4))) (fun h37 => ?_) (fun h37 => ?_)
       ·refine A0 h37 ?_
        refine A0 h37 ?_
        refine Ad (o' := 4) rfl ?_
        refine Al (c := .sc (.int .i64 p.fId)) s26 (.here) rfl ?_
        refine Ah (v := (.bool (A5 p.fId 1 65535))) s26 rfl (.cons .sc .nil) (E4 (n + 7) p.fId) ?_
        refine Aj rfl ?_
        have e : Ai p = (A5 p.fId 1 65535) := by
         clear s0 s2 s26
         try simp only [decide_eq_false_iff_not, decide_eq_true_eq] at h28 h29 h32 h37
         unfold Ai Bn
         first | (simp only [h3, h27, Bool.true_and, Bool.and_true, Bool.false_and, Bool.and_false, Bool.true_or, Bool.or_true, Bool.false_or, Bool.or_false, Bool.not_true, Bool.not_false]; done) | (simp only [h3, h27, Bool.true_and, Bool.and_true, Bool.false_and, Bool.and_false, Bool.true_or, Bool.or_true, Bool.false_or, Bool.or_false, Bool.not_true, Bool.not_false]; simp [h28, h29, h32, h37]; done) | (simp [h28, h29, h32, h37]; done) | (simp only [h3, h27, Bool.true_and, Bool.and_true, Bool.false_and, Bool.and_false, Bool.true_or, Bool.or_true, Bool.false_or, Bool.or_false, Bool.not_true, Bool.not_false]; simp [h28, h29, h32, h37]; omega)
        rw [e]
        first | done | rfl
       ·refine Bf h37 ?_
        refine Au ?_
        refine Ac ((decide (p.fType = 5))) (fun h38 => ?_) (fun h38 => ?_)
        ·refine A0 h38 ?_
         refine A0 h38 ?_
         refine Ad (o' := 4) rfl ?_
         refine Al (c := .sc (.int .i64 p.fId)) s26 (.here) rfl ?_
         refine Ah (v := (.bool (A5 p.fId 1 65535))) s26 rfl (.cons .sc .nil) (E4 (n + 7) p.fId) ?_
         refine Aj rfl ?_
         have e : Ai p = (A5 p.fId 1 65535) := by
          clear s0 s2 s26
          try simp only [decide_eq_false_iff_not, decide_eq_true_eq] at h28 h29 h32 h37 h38
          unfold Ai Bn
          first | (simp only [h3, h27, Bool.true_and, Bool.and_true, Bool.false_and, Bool.and_false, Bool.true_or, Bool.or_true, Bool.false_or, Bool.or_false, Bool.not_true, Bool.not_false]; done) | (simp only [h3, h27, Bool.true_and, Bool.and_true, Bool.false_and, Bool.and_false, Bool.true_or, Bool.or_true, Bool.false_or, Bool.or_false, Bool.not_true, Bool.not_false]; simp [h28, h29, h32, h37, h38]; done) | (simp [h28, h29, h32, h37, h38]; done) | (simp only [h3, h27, Bool.true_and, Bool.and_true, Bool.false_and, Bool.and_false, Bool.true_or, Bool.or_true, Bool.false_or, Bool.or_false, Bool.not_true, Bool.not_false]; simp [h28, h29, h32, h37, h38]; omega)
         rw [e]
         first | done | rfl
        ·refine Bf h38 ?_
         refine Au ?_
         refine Ac ((decide (p.fType = 6))) (fun h39 => ?_) (fun h39 => ?_)
         ·refine A0 h39 ?_
          refine A0 h39 ?_
          refine Ad (o' := 4) rfl ?_
          refine Al (c := .sc (.int .i64 p.fId)) s26 (.here) rfl ?_
          refine Ah (v := (.bool (A5 p.fId 1 65535))) s26 rfl (.cons .sc .nil) (E4 (n + 7) p.fId) ?_
          refine Aj rfl ?_
          have e : Ai p = (A5 p.fId 1 65535) := by
           clear s0 s2 s26
           try simp only [decide_eq_false_iff_not, decide_eq_true_eq] at h28 h29 h32 h37 h38 h39
           unfold Ai Bn
           first | (simp only [h3, h27, Bool.true_and, Bool.and_true, Bool.false_and, Bool.and_false, Bool.true_or, Bool.or_true, Bool.false_or, Bool.or_false, Bool.not_true, Bool.not_false]; done) | (simp only [h3, h27, Bool.true_and, Bool.and_true, Bool.false_and, Bool.and_false, Bool.true_or, Bool.or_true, Bool.false_or, Bool.or_false, Bool.not_true, Bool.not_false]; simp [h28, h29, h32, h37, h38, h39]; done) | (simp [h28, h29, h32, h37, h38, h39]; done) | (simp only [h3, h27, Bool.true_and, Bool.and_true, Bool.false_and, Bool.and_false, Bool.true_or, Bool.or_true, Bool.false_or, Bool.or_false, Bool.not_true, Bool.not_false]; simp [h28, h29, h32, h37, h38, h39]; omega)
          rw [e]
          first | done | rfl
         ·refine Bf h39 ?_
          refine Au ?_
          refine Ac ((decide (p.fType = 7))) (fun h40 => ?_) (fun h40 => ?_)
          ·refine A0 h40 ?_
           refine A0 h40 ?_
           refine Ad (o' := 4) rfl ?_
           refine Al (c := .sc (.int .i64 p.fId)) s26 (.here) rfl ?_
           refine Ah (v := (.bool (A5 p.fId 1 65535))) s26 rfl (.cons .sc .nil) (E4 (n + 7) p.fId) ?_
           refine Aj rfl ?_
           have e : Ai p = (A5 p.fId 1 65535) := by
            clear s0 s2 s26
            try simp only [decide_eq_false_iff_not, decide_eq_true_eq] at h28 h29 h32 h37 h38 h39 h40
            unfold Ai Bn
            first | (simp only [h3, h27, Bool.true_and, Bool.and_true, Bool.false_and, Bool.and_false, Bool.true_or, Bool.or_true, Bool.false_or, Bool.or_false, Bool.not_true, Bool.not_false]; done) | (simp only [h3, h27, Bool.true_and, Bool.and_true, Bool.false_and, Bool.and_false, Bool.true_or, Bool.or_true, Bool.false_or, Bool.or_false, Bool.not_true, Bool.not_false]; simp [h28, h29, h32, h37, h38, h39, h40]; done) | (simp [h28, h29, h32, h37, h38, h39, h40]; done) | (simp only [h3, h27, Bool.true_and, Bool.and_true, Bool.false_and, Bool.and_false, Bool.true_or, Bool.or_true, Bool.false_or, Bool.or_false, Bool.not_true, Bool.not_false]; simp [h28, h29, h32, h37, h38, h39, h40]; omega)
           rw [e]
           first | done | rfl
          ·refine Bf h40 ?_
           refine Au ?_
           refine Ac ((decide (p.fType = 11))) (fun h41 => ?_) (fun h41 => ?_)
           ·refine A0 h41 ?_
            refine Ad (o' := 4) rfl ?_
            refine Al (c := .sc (.int .i64 p.fId)) s26 (.here) rfl ?_
            refine Ah (v := (.bool (A5 p.fId 1 65535))) s26 rfl (.cons .sc .nil) (E4 (n + 7) p.fId) ?_
            refine Aj rfl ?_
            have e : Ai p = (A5 p.fId 1 65535) := by
             clear s0 s2 s26
             try simp only [decide_eq_false_iff_not, decide_eq_true_eq] at h28 h29 h32 h37 h38 h39 h40 h41
             unfold Ai Bn
             first | (simp only [h3, h27, Bool.true_and, Bool.and_true, Bool.false_and, Bool.and_false, Bool.true_or, Bool.or_true, Bool.false_or, Bool.or_false, Bool.not_true, Bool.not_false]; done) | (simp only [h3, h27, Bool.true_and, Bool.and_true, Bool.false_and, Bool.and_false, Bool.true_or, Bool.or_true, Bool.false_or, Bool.or_false, Bool.not_true, Bool.not_false]; simp [h28, h29, h32, h37, h38, h39, h40, h41]; done) | (simp [h28, h29, h32, h37, h38, h39, h40, h41]; done) | (simp only [h3, h27, Bool.true_and, Bool.and_true, Bool.false_and, Bool.and_false, Bool.true_or, Bool.or_true, Bool.false_or, Bool.or_false, Bool.not_true, Bool.not_false]; simp [h28, h29, h32, h37, h38, h39, h40, h41]; omega)
            rw [e]
            first | done | rfl
           ·refine Bf h41 ?_
            refine Au ?_
            refine Fm ?_
            refine Ac ((decide (p.fType = 8))) (fun h42 => ?_) (fun h42 => ?_)
            ·refine A0 h42 ?_
             refine A0 h42 ?_
             refine Ad (o' := 4) rfl ?_
             refine Al (c := .sc (.int .i64 p.fId)) s26 (.here) rfl ?_
             refine Ah (v := (.bool (A5 p.fId 1 65535))) s26 rfl (.cons .sc .nil) (E4 (n + 7) p.fId) ?_
             refine Ac ((A5 p.fId 1 65535)) (fun h43 => ?_) (fun h43 => ?_)
             ·refine Ae h43 ?_
              refine Bo s26 (.here) rfl ?_
              refine Ae h43 ?_
              refine Ah (v := (.bool (Df p))) s26 rfl (.aggF (B4 _) .nil) (I9 (n + 2) (by omega) p hp) ?_
              refine Bj h43 ?_
              refine Aj rfl ?_
              have e : Ai p = (Df p) := by
               clear s0 s2 s26
               try simp only [decide_eq_false_iff_not, decide_eq_true_eq] at h28 h29 h32 h37 h38 h39 h40 h41 h42
               unfold Ai Bn
               first | (simp only [h3, h27, h43, Bool.true_and, Bool.and_true, Bool.false_and, Bool.and_false, Bool.true_or, Bool.or_true, Bool.false_or, Bool.or_false, Bool.not_true, Bool.not_false]; done) | (simp only [h3, h27, h43, Bool.true_and, Bool.and_true, Bool.false_and, Bool.and_false, Bool.true_or, Bool.or_true, Bool.false_or, Bool.or_false, Bool.not_true, Bool.not_false]; simp [h28, h29, h32, h37, h38, h39, h40, h41, h42]; done) | (simp [h28, h29, h32, h37, h38, h39, h40, h41, h42]; done) | (simp only [h3, h27, h43, Bool.true_and, Bool.and_true, Bool.false_and, Bool.and_false, Bool.true_or, Bool.or_true, Bool.false_or, Bool.or_false, Bool.not_true, Bool.not_false]; simp [h28, h29, h32, h37, h38, h39, h40, h41, h42]; omega)
              rw [e]
              first | done | rfl
             ·refine Aa h43 ?_
              refine Aa h43 ?_
              refine An h43 ?_
              refine Aj rfl ?_
              have e : Ai p = false := by
               clear s0 s2 s26
               try simp only [decide_eq_false_iff_not, decide_eq_true_eq] at h28 h29 h32 h37 h38 h39 h40 h41 h42
               unfold Ai Bn
               first | (simp only [h3, h27, h43, Bool.true_and, Bool.and_true, Bool.false_and, Bool.and_false, Bool.true_or, Bool.or_true, Bool.false_or, Bool.or_false, Bool.not_true, Bool.not_false]; done) | (simp only [h3, h27, h43, Bool.true_and, Bool.and_true, Bool.false_and, Bool.and_false, Bool.true_or, Bool.or_true, Bool.false_or, Bool.or_false, Bool.not_true, Bool.not_false]; simp [h28, h29, h32, h37, h38, h39, h40, h41, h42]; done) | (simp [h28, h29, h32, h37, h38, h39, h40, h41, h42]; done) | (simp only [h3, h27, h43, Bool.true_and, Bool.and_true, Bool.false_and, Bool.and_false, Bool.true_or, Bool.or_true, Bool.false_or, Bool.or_false, Bool.not_true, Bool.not_false]; simp [h28, h29, h32, h37, h38, h39, h40, h41, h42]; omega)
              rw [e]
              first | done | rfl
            ·refine Bf h42 ?_
             refine Au ?_
             refine Ac ((decide (p.fType = 9))) (fun h44 => ?_) (fun h44 => ?_)
             ·refine A0 h44 ?_
              refine A0 h44 ?_
              refine Ad (o' := 4) rfl ?_
              refine Al (c := .sc (.int .i64 p.fId)) s26 (.here) rfl ?_
              refine Ah (v := (.bool (A5 p.fId 1 65535))) s26 rfl (.cons .sc .nil) (E4 (n + 7) p.fId) ?_
              refine Ac ((A5 p.fId 1 65535)) (fun h45 => ?_) (fun h45 => ?_)
              ·refine Ae h45 ?_
               refine Bo s26 (.here) rfl ?_
               refine Ae h45 ?_
               refine Ah (v := (.bool (Df p))) s26 rfl (.aggF (B4 _) .nil) (I9 (n + 2) (by omega) p hp) ?_
               refine Bj h45 ?_
               refine Aj rfl ?_
               have e : Ai p = (Df p) := by
                clear s0 s2 s26
                try simp only [decide_eq_false_iff_not, decide_eq_true_eq] at h28 h29 h32 h37 h38 h39 h40 h41 h42 h44
                unfold Ai Bn
                first | (simp only [h3, h27, h45, Bool.true_and, Bool.and_true, Bool.false_and, Bool.and_false, Bool.true_or, Bool.or_true, Bool.false_or, Bool.or_false, Bool.not_true, Bool.not_false]; done) | (simp only [h3, h27, h45, Bool.true_and, Bool.and_true, Bool.false_and, Bool.and_false, Bool.true_or, Bool.or_true, Bool.false_or, Bool.or_false, Bool.not_true, Bool.not_false]; simp [h28, h29, h32, h37, h38, h39, h40, h41, h42, h44]; done) | (simp [h28, h29, h32, h37, h38, h39, h40, h41, h42, h44]; done) | (simp only [h3, h27, h45, Bool.true_and, Bool.and_true, Bool.false_and, Bool.and_false, Bool.true_or, Bool.or_true, Bool.false_or, Bool.or_false, Bool.not_true, Bool.not_false]; simp [h28, h29, h32, h37, h38, h39, h40, h41, h42, h44]; omega)
               rw [e]
               first | done | rfl
              ·refine Aa h45 ?_
               refine Aa h45 ?_
               refine An h45 ?_
               refine Aj rfl ?_
               have e : Ai p = false := by
                clear s0 s2 s26
                try simp only [decide_eq_false_iff_not, decide_eq_true_eq] at h28 h29 h32 h37 h38 h39 h40 h41 h42 h44
                unfold Ai Bn
                first | (simp only [h3, h27, h45, Bool.true_and, Bool.and_true, Bool.false_and, Bool.and_false, Bool.true_or, Bool.or_true, Bool.false_or, Bool.or_false, Bool.not_true, Bool.not_false]; done) | (simp only [h3, h27, h45, Bool.true_and, Bool.and_true, Bool.false_and, Bool.and_false, Bool.true_or, Bool.or_true, Bool.false_or, Bool.or_false, Bool.not_true, Bool.not_false]; simp [h28, h29, h32, h37, h38, h39, h40, h41, h42, h44]; done) | (simp [h28, h29, h32, h37, h38, h39, h40, h41, h42, h44]; done) | (simp only [h3, h27, h45, Bool.true_and, Bool.and_true, Bool.false_and, Bool.and_false, Bool.true_or, Bool.or_true, Bool.false_or, Bool.or_false, Bool.not_true, Bool.not_false]; simp [h28, h29, h32, h37, h38, h39, h40, h41, h42, h44]; omega)
               rw [e]
               first | done | rfl
             ·refine Bf h44 ?_
              refine Au ?_
              refine Ac ((decide (p.fType = 10))) (fun h46 => ?_) (fun h46 => ?_)
              ·refine A0 h46 ?_
               refine Ad (o' := 4) rfl ?_
               refine Al (c := .sc (.int .i64 p.fId)) s26 (.here) rfl ?_
               refine Ah (v := (.bool (A5 p.fId 1 65535))) s26 rfl (.cons .sc .nil) (E4 (n + 7) p.fId) ?_
               refine Ac ((A5 p.fId 1 65535)) (fun h47 => ?_) (fun h47 => ?_)
               ·refine Ae h47 ?_
                refine Bo s26 (.here) rfl ?_
                refine Ae h47 ?_
                refine Ah (v := (.bool (Df p))) s26 rfl (.aggF (B4 _) .nil) (I9 (n + 2) (by omega) p hp) ?_
                refine Bj h47 ?_
                refine Aj rfl ?_
                have e : Ai p = (Df p) := by
                 clear s0 s2 s26
                 try simp only [decide_eq_false_iff_not, decide_eq_true_eq] at h28 h29 h32 h37 h38 h39 h40 h41 h42 h44 h46
                 unfold Ai Bn
                 first | (simp only [h3, h27, h47, Bool.true_and, Bool.and_true, Bool.false_and, Bool.and_false, Bool.true_or, Bool.or_true, Bool.false_or, Bool.or_false, Bool.not_true, Bool.not_false]; done) | (simp only [h3, h27, h47, Bool.true_and, Bool.and_true, Bool.false_and, Bool.and_false, Bool.true_or, Bool.or_true, Bool.false_or, Bool.or_false, Bool.not_true, Bool.not_false]; simp [h28, h29, h32, h37, h38, h39, h40, h41, h42, h44, h46]; done) | (simp [h28, h29, h32, h37, h38, h39, h40, h41, h42, h44, h46]; done) | (simp only [h3, h27, h47, Bool.true_and, Bool.and_true, Bool.false_and, Bool.and_false, Bool.true_or, Bool.or_true, Bool.false_or, Bool.or_false, Bool.not_true, Bool.not_false]; simp [h28, h29, h32, h37, h38, h39, h40, h41, h42, h44, h46]; omega)
                rw [e]
                first | done | rfl
               ·refine Aa h47 ?_
                refine Aa h47 ?_
                refine An h47 ?_
                refine Aj rfl ?_
                have e : Ai p = false := by
                 clear s0 s2 s26
                 try simp only [decide_eq_false_iff_not, decide_eq_true_eq] at h28 h29 h32 h37 h38 h39 h40 h41 h42 h44 h46
                 unfold Ai Bn
                 first | (simp only [h3, h27, h47, Bool.true_and, Bool.and_true, Bool.false_and, Bool.and_false, Bool.true_or, Bool.or_true, Bool.false_or, Bool.or_false, Bool.not_true, Bool.not_false]; done) | (simp only [h3, h27, h47, Bool.true_and, Bool.and_true, Bool.false_and, Bool.and_false, Bool.true_or, Bool.or_true, Bool.false_or, Bool.or_false, Bool.not_true, Bool.not_false]; simp [h28, h29, h32, h37, h38, h39, h40, h41, h42, h44, h46]; done) | (simp [h28, h29, h32, h37, h38, h39, h40, h41, h42, h44, h46]; done) | (simp only [h3, h27, h47, Bool.true_and, Bool.and_true, Bool.false_and, Bool.and_false, Bool.true_or, Bool.or_true, Bool.false_or, Bool.or_false, Bool.not_true, Bool.not_false]; simp [h28, h29, h32, h37, h38, h39, h40, h41, h42, h44, h46]; omega)
                rw [e]
                first | done | rfl
              ·refine Bf h46 ?_
               refine Aj rfl ?_
               have e : Ai p = true := by
                clear s0 s2 s26
                try simp only [decide_eq_false_iff_not, decide_eq_true_eq] at h28 h29 h32 h37 h38 h39 h40 h41 h42 h44 h46
                unfold Ai Bn
                first | (simp only [h3, h27, Bool.true_and, Bool.and_true, Bool.false_and, Bool.and_false, Bool.true_or, Bool.or_true, Bool.false_or, Bool.or_false, Bool.not_true, Bool.not_false]; done) | (simp only [h3, h27, Bool.true_and, Bool.and_true, Bool.false_and, Bool.and_false, Bool.true_or, Bool.or_true, Bool.false_or, Bool.or_false, Bool.not_true, Bool.not_false]; simp [h28, h29, h32, h37, h38, h39, h40, h41, h42, h44, h46]; done) | (simp [h28, h29, h32, h37, h38, h39, h40, h41, h42, h44, h46]; done) | (simp only [h3, h27, Bool.true_and, Bool.and_true, Bool.false_and, Bool.and_false, Bool.true_or, Bool.or_true, Bool.false_or, Bool.or_false, Bool.not_true, Bool.not_false]; simp [h28, h29, h32, h37, h38, h39, h40, h41, h42, h44, h46]; omega)
               rw [e]
               first | done | rfl
   ·refine A0 (nT h27) ?_
    refine Aj rfl ?_
    have e : Ai p = false := by
     clear s0 s2 s26
     unfold Ai Bn
     first | (simp only [h3, h27, Bool.true_and, Bool.and_true, Bool.false_and, Bool.and_false, Bool.true_or, Bool.or_true, Bool.false_or, Bool.or_false, Bool.not_true, Bool.not_false]; done) | (simp only [h3, h27, Bool.true_and, Bool.and_true, Bool.false_and, Bool.and_false, Bool.true_or, Bool.or_true, Bool.false_or, Bool.or_false, Bool.not_true, Bool.not_false]; simp; done) | (simp; done) | (simp only [h3, h27, Bool.true_and, Bool.and_true, Bool.false_and, Bool.and_false, Bool.true_or, Bool.or_true, Bool.false_or, Bool.or_false, Bool.not_true, Bool.not_false]; simp; omega)
    rw [e]
    first | done | rfl
 ·refine Aa (nT h3) ?_
  refine Gd.bothE ?_ ?_
  ·refine Aa (nT h3) ?_
   refine Aa (nT h3) ?_
   refine Aa (nT h3) ?_
   refine Aa (nT h3) ?_
   refine Bj (nT h3) ?_
   refine A0 rfl ?_
   refine Aj rfl ?_
   have e : Ai p = false := by
    clear s0 s2
    unfold Ai Bn
    first | (simp only [h3, Bool.true_and, Bool.and_true, Bool.false_and, Bool.and_false, Bool.true_or, Bool.or_true, Bool.false_or, Bool.or_false, Bool.not_true, Bool.not_false]; done) | (simp only [h3, Bool.true_and, Bool.and_true, Bool.false_and, Bool.and_false, Bool.true_or, Bool.or_true, Bool.false_or, Bool.or_false, Bool.not_true, Bool.not_false]; simp; done) | (simp; done) | (simp only [h3, Bool.true_and, Bool.and_true, Bool.false_and, Bool.and_false, Bool.true_or, Bool.or_true, Bool.false_or, Bool.or_false, Bool.not_true, Bool.not_false]; simp; omega)
   rw [e]
   first | done | rfl
  ·refine Aa (nT h3) ?_
   refine Aa (nT h3) ?_
   refine Aa (nT h3) ?_
   refine Aa (nT h3) ?_
   refine Bj (nT h3) ?_
   refine A0 rfl ?_
   refine Aj rfl ?_
   have e : Ai p = false := by
    clear s0 s2
    unfold Ai Bn
    first | (simp only [h3, Bool.true_and, Bool.and_true, Bool.false_and, Bool.and_false, Bool.true_or, Bool.or_true, Bool.false_or, Bool.or_false, Bool.not_true, Bool.not_false]; done) | (simp only [h3, Bool.true_and, Bool.and_true, Bool.false_and, Bool.and_false, Bool.true_or, Bool.or_true, Bool.false_or, Bool.or_false, Bool.not_true, Bool.not_false]; simp; done) | (simp; done) | (simp only [h3, Bool.true_and, Bool.and_true, Bool.false_and, Bool.and_false, Bool.true_or, Bool.or_true, Bool.false_or, Bool.or_false, Bool.not_true, Bool.not_false]; simp; omega)
   rw [e]
   first | done | rfl
def Br (p : Ar) : Bool :=
 if p.fType = 1 then (if p.fHasWill = true ∧ ((B5 p.fWTopic && (decide (((p.fWBody.size : Nat) : Int) ≤ 40) && A5 p.fWQos 0 2)) = false) then false else (A5 p.fLevel 0 255 && (Bi p.fClient && (A5 p.fKeep 0 65535 && (Bi p.fUser && decide (((p.fPass.size : Nat) : Int) ≤ 60))))))
 else if p.fType = 2 then A5 p.fCode 0 5
 else if p.fType = 3 then (A5 p.fQos 0 2 && ((decide (p.fQos = 0) || A5 p.fId 1 65535) && (B5 p.fTopic && decide (((p.fBody.size : Nat) : Int) ≤ 40))))
 else if p.fType = 12 ∨ p.fType = 13 ∨ p.fType = 14 then true
 else if p.fType = 8 then (p.fWants.all Bd && (A5 p.fId 1 65535 && A5 ((p.fWants.length : Nat) : Int) 1 4))
 else if p.fType = 9 then (p.fCodes.all A9 && (A5 p.fId 1 65535 && A5 ((p.fCodes.length : Nat) : Int) 1 4))
 else if p.fType = 10 then (p.fNames.all Bm && (A5 p.fId 1 65535 && A5 ((p.fNames.length : Nat) : Int) 1 4))
 else A5 p.fId 1 65535
def Ag (p : Ar) : Bool := A5 p.fType 1 14 && (A3 p (Aq true p) && Br p)
theorem M0 (n : Nat) (hn : 1048576 < n) (p : Ar) (hp : Hi p) (h3 : (A5 p.fType 1 14) = true) (h5 : (A3 p (Aq true p)) = true) (h6 : (decide (p.fType = 1)) = false) (h19 : (decide (p.fType = 2)) = false) (h20 : (decide (p.fType = 3)) = false) (h26 : (decide (p.fType = 12)) = false) (h27 : (decide (p.fType = 13)) = false) (h28 : (decide (p.fType = 14)) = false) (h29 : (decide (p.fType = 8)) = true)  : ∀ (t pre : List Fu) (m : Nat) (i : Int) (i1 : Nat) (H : Af), p.fWants = pre ++ t → i = ((pre.length : Nat) : Int) → t.length < m → Sep H [.blk i1 (A6 p) true] → Gd (· = some (.sc (.bool (t.all Bd && (A5 p.fId 1 65535 && A5 ((p.fWants.length : Nat) : Int) 1 4))))) (Gm (PR (n + 9) AV) (n + 9) (fun x H => A7 As E0.tp 4 H x) m (.ptr i1 0) (.sc (.bool (A5 p.fId 1 65535))) (.sc (.int .i64 i)) H)
 | [], pre, m + 1, i, i1, H, he, hi, hm, s0 => by
  obtain rfl : pre = p.fWants := by simpa using he.symm
  have hl1 := hp.l1
  have hl2 := hp.l2
  have hl3 := hp.l3
  have hlen := hp.l1
  rw [Gm]
  try simp only [A8, Az, A2, Cr, Ay, A1, Be, Bu, Bw]
  refine Ad (o' := 22) rfl ?_
  refine Al (c := Bq Bg p.fWants) s0 (.here) rfl ?_
  refine Cq ?_
  refine D4 ?_
  refine Bf (by simp [hi]) ?_
  refine Ac ((A5 p.fId 1 65535)) (fun h201 => ?_) (fun h201 => ?_)
  ·refine Ae h201 ?_
   refine Ad (o' := 22) rfl ?_
   refine Ae h201 ?_
   refine Al (c := Bq Bg p.fWants) s0 (.here) rfl ?_
   refine Ae h201 ?_
   refine Cq ?_
   refine Ae h201 ?_
   refine Ah (v := (.bool (A5 ((p.fWants.length : Nat) : Int) 1 4))) s0 rfl (.cons .sc (.cons .sc (.cons .sc .nil))) (Dh (n + 8) _ ((p.fWants.length : Nat) : Int) 1 4) ?_
   refine Bj h201 ?_
   refine Aj rfl ?_
   have e : ([].all Bd && (A5 p.fId 1 65535 && A5 ((p.fWants.length : Nat) : Int) 1 4)) = (A5 ((p.fWants.length : Nat) : Int) 1 4) := by
    clear s0
    simp only [List.all_cons, List.all_nil, Bd, A9, h3, h5, h6, h19, h20, h26, h27, h28, h29, h201, Bool.true_and, Bool.and_true, Bool.false_or, Bool.or_false, Bool.true_or, Bool.or_true, Bool.false_and, Bool.and_false, Bool.not_true, Bool.not_false]
   rw [e]
   first | done | rfl
  ·refine Aa h201 ?_
   refine Aa h201 ?_
   refine Aa h201 ?_
   refine Aa h201 ?_
   refine An h201 ?_
   refine Aj rfl ?_
   have e : ([].all Bd && (A5 p.fId 1 65535 && A5 ((p.fWants.length : Nat) : Int) 1 4)) = false := by
    clear s0
    simp only [List.all_cons, List.all_nil, Bd, A9, h3, h5, h6, h19, h20, h26, h27, h28, h29, h201, Bool.true_and, Bool.and_true, Bool.false_or, Bool.or_false, Bool.true_or, Bool.or_true, Bool.false_and, Bool.and_false, Bool.not_true, Bool.not_false]
   rw [e]
   first | done | rfl
 | y :: t, pre, m + 1, i, i1, H, he, hi, hm, s0 => by
  have hlt : pre.length < p.fWants.length := by rw [he]; simp
  have hl1 := hp.l1
  have hl2 := hp.l2
  have hl3 := hp.l3
  have hlen := hp.l1
  rw [Gm]
  try simp only [A8, Az, A2, Cr, Ay, A1, Be, Bu, Bw]
  refine Ad (o' := 22) rfl ?_
  refine Al (c := Bq Bg p.fWants) s0 (.here) rfl ?_
  refine Cq ?_
  refine D4 ?_
  refine A0 (by simp [hi]; omega) ?_
  refine Ad (o' := 22) rfl ?_
  refine Al (c := Bq Bg p.fWants) s0 (.here) rfl ?_
  refine Ir hi E6 (by decide) he ?_
  refine Oq ?_
  refine Ke (c := .sc (.string y.fFilter)) rfl ?_
  refine Ah (v := (.bool (Bm y.fFilter))) s0 rfl (.cons .sc .nil) (Io (n + 3) (by omega) y.fFilter (hp.w1 y (by rw [he]; simp)) (Gr (hp.w1 y (by rw [he]; simp)))) ?_
  refine C5 ?_
  refine Ac ((Bm y.fFilter)) (fun h201 => ?_) (fun h201 => ?_)
  ·refine Ae (nF h201) ?_
   refine Ad (o' := 22) rfl ?_
   refine Ae (nF h201) ?_
   refine Al (c := Bq Bg p.fWants) s0 (.here) rfl ?_
   refine Ae (nF h201) ?_
   refine Ae (nF h201) ?_
   refine Ir hi E6 (by decide) he ?_
   refine Ae (nF h201) ?_
   refine Oq ?_
   refine Ae (nF h201) ?_
   refine Ke (c := .sc (.int .i64 y.fQos)) rfl ?_
   refine Ae (nF h201) ?_
   refine Ah (v := (.bool (A5 y.fQos 0 2))) s0 rfl (.cons .sc (.cons .sc (.cons .sc .nil))) (Dh (n + 8) _ y.fQos 0 2) ?_
   refine Ae (nF h201) ?_
   refine C5 ?_
   refine An (nF h201) ?_
   refine Ac ((A5 y.fQos 0 2)) (fun h202 => ?_) (fun h202 => ?_)
   ·refine Bf (nF h202) ?_
    refine Fj (by omega) (by omega) ?_
    have e203 : ((y :: t).all Bd && (A5 p.fId 1 65535 && A5 ((p.fWants.length : Nat) : Int) 1 4)) = (t.all Bd && (A5 p.fId 1 65535 && A5 ((p.fWants.length : Nat) : Int) 1 4)) := by
     clear s0
     simp only [List.all_cons, Bd, A9, h3, h5, h6, h19, h20, h26, h27, h28, h29, h201, h202, Bool.true_and, Bool.and_true, Bool.false_or, Bool.or_false, Bool.true_or, Bool.or_true, Bool.false_and, Bool.not_true, Bool.not_false]
    rw [e203]
    exact M0 n hn p hp h3 h5 h6 h19 h20 h26 h27 h28 h29  t (pre ++ [y]) m _ i1 _ (by rw [he]; simp) (by rw [hi]; simp) (by simpa using hm) (by simpa only [List.map_append, List.map_cons, List.map_nil] using (s0.sel (.cons (.here) .nil)))
   ·refine A0 (nT h202) ?_
    refine Aj rfl ?_
    have e : ((y :: t).all Bd && (A5 p.fId 1 65535 && A5 ((p.fWants.length : Nat) : Int) 1 4)) = false := by
     clear s0
     simp only [List.all_cons, List.all_nil, Bd, A9, h3, h5, h6, h19, h20, h26, h27, h28, h29, h201, h202, Bool.true_and, Bool.and_true, Bool.false_or, Bool.or_false, Bool.true_or, Bool.or_true, Bool.false_and, Bool.and_false, Bool.not_true, Bool.not_false]
    rw [e]
    first | done | rfl
  ·refine Aa (nT h201) ?_
   refine Aa (nT h201) ?_
   refine Aa (nT h201) ?_
   refine Aa (nT h201) ?_
   refine Aa (nT h201) ?_
   refine Aa (nT h201) ?_
   refine Aa (nT h201) ?_
   refine Aa (nT h201) ?_
   refine Bj (nT h201) ?_
   refine A0 rfl ?_
   refine Aj rfl ?_
   have e : ((y :: t).all Bd && (A5 p.fId 1 65535 && A5 ((p.fWants.length : Nat) : Int) 1 4)) = false := by
    clear s0
    simp only [List.all_cons, List.all_nil, Bd, A9, h3, h5, h6, h19, h20, h26, h27, h28, h29, h201, Bool.true_and, Bool.and_true, Bool.false_or, Bool.or_false, Bool.true_or, Bool.or_true, Bool.false_and, Bool.and_false, Bool.not_true, Bool.not_false]
   rw [e]
   first | done | rfl
theorem J9 (n : Nat) (hn : 1048576 < n) (p : Ar) (hp : Hi p) (h3 : (A5 p.fType 1 14) = true) (h5 : (A3 p (Aq true p)) = true) (h6 : (decide (p.fType = 1)) = false) (h19 : (decide (p.fType = 2)) = false) (h20 : (decide (p.fType = 3)) = false) (h26 : (decide (p.fType = 12)) = false) (h27 : (decide (p.fType = 13)) = false) (h28 : (decide (p.fType = 14)) = false) (h29 : (decide (p.fType = 8)) = false) (h30 : (decide (p.fType = 9)) = true)  : ∀ (t pre : List Int) (m : Nat) (i : Int) (i1 : Nat) (H : Af), p.fCodes = pre ++ t → i = ((pre.length : Nat) : Int) → t.length < m → Sep H [.blk i1 (A6 p) true] → Gd (· = some (.sc (.bool (t.all A9 && (A5 p.fId 1 65535 && A5 ((p.fCodes.length : Nat) : Int) 1 4))))) (Gn (PR (n + 9) AV) (n + 9) (fun x H => A7 As E0.tp 4 H x) m (.ptr i1 0) (.sc (.bool (A5 p.fId 1 65535))) (.sc (.int .i64 i)) H)
 | [], pre, m + 1, i, i1, H, he, hi, hm, s0 => by
  obtain rfl : pre = p.fCodes := by simpa using he.symm
  have hl1 := hp.l1
  have hl2 := hp.l2
  have hl3 := hp.l3
  have hlen := hp.l3
  rw [Gn]
  try simp only [A8, Az, A2, Cr, Ay, A1, Be, Bu, Bw]
  refine Ad (o' := 24) rfl ?_
  refine Al (c := Dl p.fCodes) s0 (.here) rfl ?_
  refine Cq ?_
  refine D4 ?_
  refine Bf (by simp [hi]) ?_
  refine Ac ((A5 p.fId 1 65535)) (fun h201 => ?_) (fun h201 => ?_)
  ·refine Ae h201 ?_
   refine Ad (o' := 24) rfl ?_
   refine Ae h201 ?_
   refine Al (c := Dl p.fCodes) s0 (.here) rfl ?_
   refine Ae h201 ?_
   refine Cq ?_
   refine Ae h201 ?_
   refine Ah (v := (.bool (A5 ((p.fCodes.length : Nat) : Int) 1 4))) s0 rfl (.cons .sc (.cons .sc (.cons .sc .nil))) (Dh (n + 8) _ ((p.fCodes.length : Nat) : Int) 1 4) ?_
   refine Bj h201 ?_
   refine Aj rfl ?_
   have e : ([].all A9 && (A5 p.fId 1 65535 && A5 ((p.fCodes.length : Nat) : Int) 1 4)) = (A5 ((p.fCodes.length : Nat) : Int) 1 4) := by
    clear s0
    simp only [List.all_cons, List.all_nil, Bd, A9, h3, h5, h6, h19, h20, h26, h27, h28, h29, h30, h201, Bool.true_and, Bool.and_true, Bool.false_or, Bool.or_false, Bool.true_or, Bool.or_true, Bool.false_and, Bool.and_false, Bool.not_true, Bool.not_false]
   rw [e]
   first | done | rfl
  ·refine Aa h201 ?_
   refine Aa h201 ?_
   refine Aa h201 ?_
   refine Aa h201 ?_
   refine An h201 ?_
   refine Aj rfl ?_
   have e : ([].all A9 && (A5 p.fId 1 65535 && A5 ((p.fCodes.length : Nat) : Int) 1 4)) = false := by
    clear s0
    simp only [List.all_cons, List.all_nil, Bd, A9, h3, h5, h6, h19, h20, h26, h27, h28, h29, h30, h201, Bool.true_and, Bool.and_true, Bool.false_or, Bool.or_false, Bool.true_or, Bool.or_true, Bool.false_and, Bool.and_false, Bool.not_true, Bool.not_false]
   rw [e]
   first | done | rfl
 | y :: t, pre, m + 1, i, i1, H, he, hi, hm, s0 => by
  have hlt : pre.length < p.fCodes.length := by rw [he]; simp
  have hl1 := hp.l1
  have hl2 := hp.l2
  have hl3 := hp.l3
  have hlen := hp.l3
  rw [Gn]
  try simp only [A8, Az, A2, Cr, Ay, A1, Be, Bu, Bw]
  refine Ad (o' := 24) rfl ?_
  refine Al (c := Dl p.fCodes) s0 (.here) rfl ?_
  refine Cq ?_
  refine D4 ?_
  refine A0 (by simp [hi]; omega) ?_
  refine Ad (o' := 24) rfl ?_
  refine Al (c := Dl p.fCodes) s0 (.here) rfl ?_
  refine I7 hi he ?_
  refine Ke (c := .sc (.int .i64 y)) rfl ?_
  refine Ah (v := (.bool (A5 y 0 2))) s0 rfl (.cons .sc (.cons .sc (.cons .sc .nil))) (Dh (n + 8) _ y 0 2) ?_
  refine C5 ?_
  refine Ac ((A5 y 0 2)) (fun h201 => ?_) (fun h201 => ?_)
  ·refine Aa (nF h201) ?_
   refine Aa (nF h201) ?_
   refine Aa (nF h201) ?_
   refine Aa (nF h201) ?_
   refine Aa (nF h201) ?_
   refine Aa (nF h201) ?_
   refine An (nF h201) ?_
   refine Bf rfl ?_
   refine Fj (by omega) (by omega) ?_
   have e202 : ((y :: t).all A9 && (A5 p.fId 1 65535 && A5 ((p.fCodes.length : Nat) : Int) 1 4)) = (t.all A9 && (A5 p.fId 1 65535 && A5 ((p.fCodes.length : Nat) : Int) 1 4)) := by
    clear s0
    simp only [List.all_cons, Bd, A9, h3, h5, h6, h19, h20, h26, h27, h28, h29, h30, h201, Bool.true_and, Bool.and_true, Bool.false_or, Bool.or_false, Bool.true_or, Bool.or_true, Bool.false_and, Bool.not_true, Bool.not_false]
   rw [e202]
   exact J9 n hn p hp h3 h5 h6 h19 h20 h26 h27 h28 h29 h30  t (pre ++ [y]) m _ i1 _ (by rw [he]; simp) (by rw [hi]; simp) (by simpa using hm) (by simpa only [List.map_append, List.map_cons, List.map_nil] using (s0.sel (.cons (.here) .nil)))
  ·refine Ae (nT h201) ?_
   refine Ad (o' := 24) rfl ?_
   refine Ae (nT h201) ?_
   refine Al (c := Dl p.fCodes) s0 (.here) rfl ?_
   refine Ae (nT h201) ?_
   refine Ae (nT h201) ?_
   refine I7 hi he ?_
   refine Ae (nT h201) ?_
   refine Ke (c := .sc (.int .i64 y)) rfl ?_
   refine Ae (nT h201) ?_
   refine N1 ?_
   refine Bj (nT h201) ?_
   refine Ac ((decide (y = 128))) (fun h203 => ?_) (fun h203 => ?_)
   ·refine Bf (nF h203) ?_
    refine Fj (by omega) (by omega) ?_
    have e204 : ((y :: t).all A9 && (A5 p.fId 1 65535 && A5 ((p.fCodes.length : Nat) : Int) 1 4)) = (t.all A9 && (A5 p.fId 1 65535 && A5 ((p.fCodes.length : Nat) : Int) 1 4)) := by
     clear s0
     simp only [List.all_cons, Bd, A9, h3, h5, h6, h19, h20, h26, h27, h28, h29, h30, h201, h203, Bool.true_and, Bool.and_true, Bool.false_or, Bool.or_false, Bool.true_or, Bool.or_true, Bool.false_and, Bool.not_true, Bool.not_false]
    rw [e204]
    exact J9 n hn p hp h3 h5 h6 h19 h20 h26 h27 h28 h29 h30  t (pre ++ [y]) m _ i1 _ (by rw [he]; simp) (by rw [hi]; simp) (by simpa using hm) (by simpa only [List.map_append, List.map_cons, List.map_nil] using (s0.sel (.cons (.here) .nil)))
   ·refine A0 (nT h203) ?_
    refine Aj rfl ?_
    have e : ((y :: t).all A9 && (A5 p.fId 1 65535 && A5 ((p.fCodes.length : Nat) : Int) 1 4)) = false := by
     clear s0
     simp only [List.all_cons, List.all_nil, Bd, A9, h3, h5, h6, h19, h20, h26, h27, h28, h29, h30, h201, h203, Bool.true_and, Bool.and_true, Bool.false_or, Bool.or_false, Bool.true_or, Bool.or_true, Bool.false_and, Bool.and_false, Bool.not_true, Bool.not_false]
    rw [e]
    first | done | rfl
theorem M1 (n : Nat) (hn : 1048576 < n) (p : Ar) (hp : Hi p) (h3 : (A5 p.fType 1 14) = true) (h5 : (A3 p (Aq true p)) = true) (h6 : (decide (p.fType = 1)) = false) (h19 : (decide (p.fType = 2)) = false) (h20 : (decide (p.fType = 3)) = false) (h26 : (decide (p.fType = 12)) = false) (h27 : (decide (p.fType = 13)) = false) (h28 : (decide (p.fType = 14)) = false) (h29 : (decide (p.fType = 8)) = false) (h30 : (decide (p.fType = 9)) = false) (h31 : (decide (p.fType = 10)) = true)  : ∀ (t pre : List ByteArray) (m : Nat) (i : Int) (i1 : Nat) (H : Af), p.fNames = pre ++ t → i = ((pre.length : Nat) : Int) → t.length < m → Sep H [.blk i1 (A6 p) true] → Gd (· = some (.sc (.bool (t.all Bm && (A5 p.fId 1 65535 && A5 ((p.fNames.length : Nat) : Int) 1 4))))) (Gp (PR (n + 9) AV) (n + 9) (fun x H => A7 As E0.tp 4 H x) m (.ptr i1 0) (.sc (.bool (A5 p.fId 1 65535))) (.sc (.int .i64 i)) H)
 | [], pre, m + 1, i, i1, H, he, hi, hm, s0 => by
  obtain rfl : pre = p.fNames := by simpa using he.symm
  have hl1 := hp.l1
  have hl2 := hp.l2
  have hl3 := hp.l3
  have hlen := hp.l2
  rw [Gp]
  try simp only [A8, Az, A2, Cr, Ay, A1, Be, Bu, Bw]
  refine Ad (o' := 23) rfl ?_
  refine Al (c := Dc p.fNames) s0 (.here) rfl ?_
  refine Cq ?_
  refine D4 ?_
  refine Bf (by simp [hi]) ?_
  refine Ac ((A5 p.fId 1 65535)) (fun h201 => ?_) (fun h201 => ?_)
  ·refine Ae h201 ?_
   refine Ad (o' := 23) rfl ?_
   refine Ae h201 ?_
   refine Al (c := Dc p.fNames) s0 (.here) rfl ?_
   refine Ae h201 ?_
   refine Cq ?_
   refine Ae h201 ?_
   refine Ah (v := (.bool (A5 ((p.fNames.length : Nat) : Int) 1 4))) s0 rfl (.cons .sc (.cons .sc (.cons .sc .nil))) (Dh (n + 8) _ ((p.fNames.length : Nat) : Int) 1 4) ?_
   refine Bj h201 ?_
   refine Aj rfl ?_
   have e : ([].all Bm && (A5 p.fId 1 65535 && A5 ((p.fNames.length : Nat) : Int) 1 4)) = (A5 ((p.fNames.length : Nat) : Int) 1 4) := by
    clear s0
    simp only [List.all_cons, List.all_nil, Bd, A9, h3, h5, h6, h19, h20, h26, h27, h28, h29, h30, h31, h201, Bool.true_and, Bool.and_true, Bool.false_or, Bool.or_false, Bool.true_or, Bool.or_true, Bool.false_and, Bool.and_false, Bool.not_true, Bool.not_false]
   rw [e]
   first | done | rfl
  ·refine Aa h201 ?_
   refine Aa h201 ?_
   refine Aa h201 ?_
   refine Aa h201 ?_
   refine An h201 ?_
   refine Aj rfl ?_
   have e : ([].all Bm && (A5 p.fId 1 65535 && A5 ((p.fNames.length : Nat) : Int) 1 4)) = false := by
    clear s0
    simp only [List.all_cons, List.all_nil, Bd, A9, h3, h5, h6, h19, h20, h26, h27, h28, h29, h30, h31, h201, Bool.true_and, Bool.and_true, Bool.false_or, Bool.or_false, Bool.true_or, Bool.or_true, Bool.false_and, Bool.and_false, Bool.not_true, Bool.not_false]
   rw [e]
   first | done | rfl
 | y :: t, pre, m + 1, i, i1, H, he, hi, hm, s0 => by
  have hlt : pre.length < p.fNames.length := by rw [he]; simp
  have hl1 := hp.l1
  have hl2 := hp.l2
  have hl3 := hp.l3
  have hlen := hp.l2
  rw [Gp]
  try simp only [A8, Az, A2, Cr, Ay, A1, Be, Bu, Bw]
  refine Ad (o' := 23) rfl ?_
  refine Al (c := Dc p.fNames) s0 (.here) rfl ?_
  refine Cq ?_
  refine D4 ?_
  refine A0 (by simp [hi]; omega) ?_
  refine Ad (o' := 23) rfl ?_
  refine Al (c := Dc p.fNames) s0 (.here) rfl ?_
  refine Nr hi he ?_
  refine Ke (c := .sc (.string y)) rfl ?_
  refine Ah (v := (.bool (Bm y))) s0 rfl (.cons .sc .nil) (Io (n + 3) (by omega) y (hp.w2 y (by rw [he]; simp)) (Gr (hp.w2 y (by rw [he]; simp)))) ?_
  refine C5 ?_
  refine Ac ((Bm y)) (fun h201 => ?_) (fun h201 => ?_)
  ·refine Bf (nF h201) ?_
   refine Fj (by omega) (by omega) ?_
   have e202 : ((y :: t).all Bm && (A5 p.fId 1 65535 && A5 ((p.fNames.length : Nat) : Int) 1 4)) = (t.all Bm && (A5 p.fId 1 65535 && A5 ((p.fNames.length : Nat) : Int) 1 4)) := by
    clear s0
    simp only [List.all_cons, Bd, A9, h3, h5, h6, h19, h20, h26, h27, h28, h29, h30, h31, h201, Bool.true_and, Bool.and_true, Bool.false_or, Bool.or_false, Bool.true_or, Bool.or_true, Bool.false_and, Bool.not_true, Bool.not_false]
   rw [e202]
   exact M1 n hn p hp h3 h5 h6 h19 h20 h26 h27 h28 h29 h30 h31  t (pre ++ [y]) m _ i1 _ (by rw [he]; simp) (by rw [hi]; simp) (by simpa using hm) (by simpa only [List.map_append, List.map_cons, List.map_nil] using (s0.sel (.cons (.here) .nil)))
  ·refine A0 (nT h201) ?_
   refine Aj rfl ?_
   have e : ((y :: t).all Bm && (A5 p.fId 1 65535 && A5 ((p.fNames.length : Nat) : Int) 1 4)) = false := by
    clear s0
    simp only [List.all_cons, List.all_nil, Bd, A9, h3, h5, h6, h19, h20, h26, h27, h28, h29, h30, h31, h201, Bool.true_and, Bool.and_true, Bool.false_or, Bool.or_false, Bool.true_or, Bool.or_true, Bool.false_and, Bool.and_false, Bool.not_true, Bool.not_false]
   rw [e]
   first | done | rfl
theorem Lp (n : Nat) (hn : 1048576 < n) (p : Ar) (hp : Hi p) (h3 : (A5 p.fType 1 14) = true) (h33 : (A3 p (Aq true p)) = true) (h34 : (decide (p.fType = 1)) = false) (h47 : (decide (p.fType = 2)) = false) (h48 : (decide (p.fType = 3)) = false) (h54 : (decide (p.fType = 12)) = false) (h55 : (decide (p.fType = 13)) = false) (h56 : (decide (p.fType = 14)) = false) (h57 : (decide (p.fType = 8)) = true)  : ∀ (t pre : List Fu) (m : Nat) (i : Int) (i1 : Nat) (H : Af), p.fWants = pre ++ t → i = ((pre.length : Nat) : Int) → t.length < m → Sep H [.blk i1 (A6 p) true] → Gd (· = some (.sc (.bool (t.all Bd && (A5 p.fId 1 65535 && A5 ((p.fWants.length : Nat) : Int) 1 4))))) (Gm (PR (n + 9) AV) (n + 9) (fun x H => A7 As E0.tp 4 H x) m (.ptr i1 0) (.sc (.bool (A5 p.fId 1 65535))) (.sc (.int .i64 i)) H)
 | [], pre, m + 1, i, i1, H, he, hi, hm, s0 => by
  obtain rfl : pre = p.fWants := by simpa using he.symm
  have hl1 := hp.l1
  have hl2 := hp.l2
  have hl3 := hp.l3
  have hlen := hp.l1
  rw [Gm]
  try simp only [A8, Az, A2, Cr, Ay, A1, Be, Bu, Bw]
  refine Ad (o' := 22) rfl ?_
  refine Al (c := Bq Bg p.fWants) s0 (.here) rfl ?_
  refine Cq ?_
  refine D4 ?_
  refine Bf (by simp [hi]) ?_
  refine Ac ((A5 p.fId 1 65535)) (fun h201 => ?_) (fun h201 => ?_)
  ·refine Ae h201 ?_
   refine Ad (o' := 22) rfl ?_
   refine Ae h201 ?_
   refine Al (c := Bq Bg p.fWants) s0 (.here) rfl ?_
   refine Ae h201 ?_
   refine Cq ?_
   refine Ae h201 ?_
   refine Ah (v := (.bool (A5 ((p.fWants.length : Nat) : Int) 1 4))) s0 rfl (.cons .sc (.cons .sc (.cons .sc .nil))) (Dh (n + 8) _ ((p.fWants.length : Nat) : Int) 1 4) ?_
   refine Bj h201 ?_
   refine Aj rfl ?_
   have e : ([].all Bd && (A5 p.fId 1 65535 && A5 ((p.fWants.length : Nat) : Int) 1 4)) = (A5 ((p.fWants.length : Nat) : Int) 1 4) := by
    clear s0
    simp only [List.all_cons, List.all_nil, Bd, A9, h3, h33, h34, h47, h48, h54, h55, h56, h57, h201, Bool.true_and, Bool.and_true, Bool.false_or, Bool.or_false, Bool.true_or, Bool.or_true, Bool.false_and, Bool.and_false, Bool.not_true, Bool.not_false]
   rw [e]
   first | done | rfl
  ·refine Aa h201 ?_
   refine Aa h201 ?_
   refine Aa h201 ?_
   refine Aa h201 ?_
   refine An h201 ?_
   refine Aj rfl ?_
   have e : ([].all Bd && (A5 p.fId 1 65535 && A5 ((p.fWants.length : Nat) : Int) 1 4)) = false := by
    clear s0
    simp only [List.all_cons, List.all_nil, Bd, A9, h3, h33, h34, h47, h48, h54, h55, h56, h57, h201, Bool.true_and, Bool.and_true, Bool.false_or, Bool.or_false, Bool.true_or, Bool.or_true, Bool.false_and, Bool.and_false, Bool.not_true, Bool.not_false]
   rw [e]
   first | done | rfl
 | y :: t, pre, m + 1, i, i1, H, he, hi, hm, s0 => by
  have hlt : pre.length < p.fWants.length := by rw [he]; simp
  have hl1 := hp.l1
  have hl2 := hp.l2
  have hl3 := hp.l3
  have hlen := hp.l1
  rw [Gm]
  try simp only [A8, Az, A2, Cr, Ay, A1, Be, Bu, Bw]
  refine Ad (o' := 22) rfl ?_
  refine Al (c := Bq Bg p.fWants) s0 (.here) rfl ?_
  refine Cq ?_
  refine D4 ?_
  refine A0 (by simp [hi]; omega) ?_
  refine Ad (o' := 22) rfl ?_
  refine Al (c := Bq Bg p.fWants) s0 (.here) rfl ?_
  refine Ir hi E6 (by decide) he ?_
  refine Oq ?_
  refine Ke (c := .sc (.string y.fFilter)) rfl ?_
  refine Ah (v := (.bool (Bm y.fFilter))) s0 rfl (.cons .sc .nil) (Io (n + 3) (by omega) y.fFilter (hp.w1 y (by rw [he]; simp)) (Gr (hp.w1 y (by rw [he]; simp)))) ?_
  refine C5 ?_
  refine Ac ((Bm y.fFilter)) (fun h201 => ?_) (fun h201 => ?_)
  ·refine Ae (nF h201) ?_
   refine Ad (o' := 22) rfl ?_
   refine Ae (nF h201) ?_
   refine Al (c := Bq Bg p.fWants) s0 (.here) rfl ?_
   refine Ae (nF h201) ?_
   refine Ae (nF h201) ?_
   refine Ir hi E6 (by decide) he ?_
   refine Ae (nF h201) ?_
   refine Oq ?_
   refine Ae (nF h201) ?_
   refine Ke (c := .sc (.int .i64 y.fQos)) rfl ?_
   refine Ae (nF h201) ?_
   refine Ah (v := (.bool (A5 y.fQos 0 2))) s0 rfl (.cons .sc (.cons .sc (.cons .sc .nil))) (Dh (n + 8) _ y.fQos 0 2) ?_
   refine Ae (nF h201) ?_
   refine C5 ?_
   refine An (nF h201) ?_
   refine Ac ((A5 y.fQos 0 2)) (fun h202 => ?_) (fun h202 => ?_)
   ·refine Bf (nF h202) ?_
    refine Fj (by omega) (by omega) ?_
    have e203 : ((y :: t).all Bd && (A5 p.fId 1 65535 && A5 ((p.fWants.length : Nat) : Int) 1 4)) = (t.all Bd && (A5 p.fId 1 65535 && A5 ((p.fWants.length : Nat) : Int) 1 4)) := by
     clear s0
     simp only [List.all_cons, Bd, A9, h3, h33, h34, h47, h48, h54, h55, h56, h57, h201, h202, Bool.true_and, Bool.and_true, Bool.false_or, Bool.or_false, Bool.true_or, Bool.or_true, Bool.false_and, Bool.not_true, Bool.not_false]
    rw [e203]
    exact Lp n hn p hp h3 h33 h34 h47 h48 h54 h55 h56 h57  t (pre ++ [y]) m _ i1 _ (by rw [he]; simp) (by rw [hi]; simp) (by simpa using hm) (by simpa only [List.map_append, List.map_cons, List.map_nil] using (s0.sel (.cons (.here) .nil)))
   ·refine A0 (nT h202) ?_
    refine Aj rfl ?_
    have e : ((y :: t).all Bd && (A5 p.fId 1 65535 && A5 ((p.fWants.length : Nat) : Int) 1 4)) = false := by
     clear s0
     simp only [List.all_cons, List.all_nil, Bd, A9, h3, h33, h34, h47, h48, h54, h55, h56, h57, h201, h202, Bool.true_and, Bool.and_true, Bool.false_or, Bool.or_false, Bool.true_or, Bool.or_true, Bool.false_and, Bool.and_false, Bool.not_true, Bool.not_false]
    rw [e]
    first | done | rfl
  ·refine Aa (nT h201) ?_
   refine Aa (nT h201) ?_
   refine Aa (nT h201) ?_
   refine Aa (nT h201) ?_
   refine Aa (nT h201) ?_
   refine Aa (nT h201) ?_
   refine Aa (nT h201) ?_
   refine Aa (nT h201) ?_
   refine Bj (nT h201) ?_
   refine A0 rfl ?_
   refine Aj rfl ?_
   have e : ((y :: t).all Bd && (A5 p.fId 1 65535 && A5 ((p.fWants.length : Nat) : Int) 1 4)) = false := by
    clear s0
    simp only [List.all_cons, List.all_nil, Bd, A9, h3, h33, h34, h47, h48, h54, h55, h56, h57, h201, Bool.true_and, Bool.and_true, Bool.false_or, Bool.or_false, Bool.true_or, Bool.or_true, Bool.false_and, Bool.and_false, Bool.not_true, Bool.not_false]
   rw [e]
   first | done | rfl
theorem Iu (n : Nat) (hn : 1048576 < n) (p : Ar) (hp : Hi p) (h3 : (A5 p.fType 1 14) = true) (h33 : (A3 p (Aq true p)) = true) (h34 : (decide (p.fType = 1)) = false) (h47 : (decide (p.fType = 2)) = false) (h48 : (decide (p.fType = 3)) = false) (h54 : (decide (p.fType = 12)) = false) (h55 : (decide (p.fType = 13)) = false) (h56 : (decide (p.fType = 14)) = false) (h57 : (decide (p.fType = 8)) = false) (h58 : (decide (p.fType = 9)) = true)  : ∀ (t pre : List Int) (m : Nat) (i : Int) (i1 : Nat) (H : Af), p.fCodes = pre ++ t → i = ((pre.length : Nat) : Int) → t.length < m → Sep H [.blk i1 (A6 p) true] → Gd (· = some (.sc (.bool (t.all A9 && (A5 p.fId 1 65535 && A5 ((p.fCodes.length : Nat) : Int) 1 4))))) (Gn (PR (n + 9) AV) (n + 9) (fun x H => A7 As E0.tp 4 H x) m (.ptr i1 0) (.sc (.bool (A5 p.fId 1 65535))) (.sc (.int .i64 i)) H)
 | [], pre, m + 1, i, i1, H, he, hi, hm, s0 => by
  obtain rfl : pre = p.fCodes := by simpa using he.symm
  have hl1 := hp.l1
  have hl2 := hp.l2
  have hl3 := hp.l3
  have hlen := hp.l3
  rw [Gn]
  try simp only [A8, Az, A2, Cr, Ay, A1, Be, Bu, Bw]
  refine Ad (o' := 24) rfl ?_
  refine Al (c := Dl p.fCodes) s0 (.here) rfl ?_
  refine Cq ?_
  refine D4 ?_
  refine Bf (by simp [hi]) ?_
  refine Ac ((A5 p.fId 1 65535)) (fun h201 => ?_) (fun h201 => ?_)
  ·refine Ae h201 ?_
   refine Ad (o' := 24) rfl ?_
   refine Ae h201 ?_
   refine Al (c := Dl p.fCodes) s0 (.here) rfl ?_
   refine Ae h201 ?_
   refine Cq ?_
   refine Ae h201 ?_
   refine Ah (v := (.bool (A5 ((p.fCodes.length : Nat) : Int) 1 4))) s0 rfl (.cons .sc (.cons .sc (.cons .sc .nil))) (Dh (n + 8) _ ((p.fCodes.length : Nat) : Int) 1 4) ?_
   refine Bj h201 ?_
   refine Aj rfl ?_
   have e : ([].all A9 && (A5 p.fId 1 65535 && A5 ((p.fCodes.length : Nat) : Int) 1 4)) = (A5 ((p.fCodes.length : Nat) : Int) 1 4) := by
    clear s0
    simp only [List.all_cons, List.all_nil, Bd, A9, h3, h33, h34, h47, h48, h54, h55, h56, h57, h58, h201, Bool.true_and, Bool.and_true, Bool.false_or, Bool.or_false, Bool.true_or, Bool.or_true, Bool.false_and, Bool.and_false, Bool.not_true, Bool.not_false]
   rw [e]
   first | done | rfl
  ·refine Aa h201 ?_
   refine Aa h201 ?_
   refine Aa h201 ?_
   refine Aa h201 ?_
   refine An h201 ?_
   refine Aj rfl ?_
   have e : ([].all A9 && (A5 p.fId 1 65535 && A5 ((p.fCodes.length : Nat) : Int) 1 4)) = false := by
    clear s0
    simp only [List.all_cons, List.all_nil, Bd, A9, h3, h33, h34, h47, h48, h54, h55, h56, h57, h58, h201, Bool.true_and, Bool.and_true, Bool.false_or, Bool.or_false, Bool.true_or, Bool.or_true, Bool.false_and, Bool.and_false, Bool.not_true, Bool.not_false]
   rw [e]
   first | done | rfl
 | y :: t, pre, m + 1, i, i1, H, he, hi, hm, s0 => by
  have hlt : pre.length < p.fCodes.length := by rw [he]; simp
  have hl1 := hp.l1
  have hl2 := hp.l2
  have hl3 := hp.l3
  have hlen := hp.l3
  rw [Gn]
  try simp only [A8, Az, A2, Cr, Ay, A1, Be, Bu, Bw]
  refine Ad (o' := 24) rfl ?_
  refine Al (c := Dl p.fCodes) s0 (.here) rfl ?_
  refine Cq ?_
  refine D4 ?_
  refine A0 (by simp [hi]; omega) ?_
  refine Ad (o' := 24) rfl ?_
  refine Al (c := Dl p.fCodes) s0 (.here) rfl ?_
  refine I7 hi he ?_
  refine Ke (c := .sc (.int .i64 y)) rfl ?_
  refine Ah (v := (.bool (A5 y 0 2))) s0 rfl (.cons .sc (.cons .sc (.cons .sc .nil))) (Dh (n + 8) _ y 0 2) ?_
  refine C5 ?_
  refine Ac ((A5 y 0 2)) (fun h201 => ?_) (fun h201 => ?_)
  ·refine Aa (nF h201) ?_
   refine Aa (nF h201) ?_
   refine Aa (nF h201) ?_
   refine Aa (nF h201) ?_
   refine Aa (nF h201) ?_
   refine Aa (nF h201) ?_
   refine An (nF h201) ?_
   refine Bf rfl ?_
   refine Fj (by omega) (by omega) ?_
   have e202 : ((y :: t).all A9 && (A5 p.fId 1 65535 && A5 ((p.fCodes.length : Nat) : Int) 1 4)) = (t.all A9 && (A5 p.fId 1 65535 && A5 ((p.fCodes.length : Nat) : Int) 1 4)) := by
    clear s0
    simp only [List.all_cons, Bd, A9, h3, h33, h34, h47, h48, h54, h55, h56, h57, h58, h201, Bool.true_and, Bool.and_true, Bool.false_or, Bool.or_false, Bool.true_or, Bool.or_true, Bool.false_and, Bool.not_true, Bool.not_false]
   rw [e202]
   exact Iu n hn p hp h3 h33 h34 h47 h48 h54 h55 h56 h57 h58  t (pre ++ [y]) m _ i1 _ (by rw [he]; simp) (by rw [hi]; simp) (by simpa using hm) (by simpa only [List.map_append, List.map_cons, List.map_nil] using (s0.sel (.cons (.here) .nil)))
  ·refine Ae (nT h201) ?_
   refine Ad (o' := 24) rfl ?_
   refine Ae (nT h201) ?_
   refine Al (c := Dl p.fCodes) s0 (.here) rfl ?_
   refine Ae (nT h201) ?_
   refine Ae (nT h201) ?_
   refine I7 hi he ?_
   refine Ae (nT h201) ?_
   refine Ke (c := .sc (.int .i64 y)) rfl ?_
   refine Ae (nT h201) ?_
   refine N1 ?_
   refine Bj (nT h201) ?_
   refine Ac ((decide (y = 128))) (fun h203 => ?_) (fun h203 => ?_)
   ·refine Bf (nF h203) ?_
    refine Fj (by omega) (by omega) ?_
    have e204 : ((y :: t).all A9 && (A5 p.fId 1 65535 && A5 ((p.fCodes.length : Nat) : Int) 1 4)) = (t.all A9 && (A5 p.fId 1 65535 && A5 ((p.fCodes.length : Nat) : Int) 1 4)) := by
     clear s0
     simp only [List.all_cons, Bd, A9, h3, h33, h34, h47, h48, h54, h55, h56, h57, h58, h201, h203, Bool.true_and, Bool.and_true, Bool.false_or, Bool.or_false, Bool.true_or, Bool.or_true, Bool.false_and, Bool.not_true, Bool.not_false]
    rw [e204]
    exact Iu n hn p hp h3 h33 h34 h47 h48 h54 h55 h56 h57 h58  t (pre ++ [y]) m _ i1 _ (by rw [he]; simp) (by rw [hi]; simp) (by simpa using hm) (by simpa only [List.map_append, List.map_cons, List.map_nil] using (s0.sel (.cons (.here) .nil)))
   ·refine A0 (nT h203) ?_
    refine Aj rfl ?_
    have e : ((y :: t).all A9 && (A5 p.fId 1 65535 && A5 ((p.fCodes.length : Nat) : Int) 1 4)) = false := by
     clear s0
     simp only [List.all_cons, List.all_nil, Bd, A9, h3, h33, h34, h47, h48, h54, h55, h56, h57, h58, h201, h203, Bool.true_and, Bool.and_true, Bool.false_or, Bool.or_false, Bool.true_or, Bool.or_true, Bool.false_and, Bool.and_false, Bool.not_true, Bool.not_false]
    rw [e]
    first | done | rfl
theorem Lq (n : Nat) (hn : 1048576 < n) (p : Ar) (hp : Hi p) (h3 : (A5 p.fType 1 14) = true) (h33 : (A3 p (Aq true p)) = true) (h34 : (decide (p.fType = 1)) = false) (h47 : (decide (p.fType = 2)) = false) (h48 : (decide (p.fType = 3)) = false) (h54 : (decide (p.fType = 12)) = false) (h55 : (decide (p.fType = 13)) = false) (h56 : (decide (p.fType = 14)) = false) (h57 : (decide (p.fType = 8)) = false) (h58 : (decide (p.fType = 9)) = false) (h59 : (decide (p.fType = 10)) = true)  : ∀ (t pre : List ByteArray) (m : Nat) (i : Int) (i1 : Nat) (H : Af), p.fNames = pre ++ t → i = ((pre.length : Nat) : Int) → t.length < m → Sep H [.blk i1 (A6 p) true] → Gd (· = some (.sc (.bool (t.all Bm && (A5 p.fId 1 65535 && A5 ((p.fNames.length : Nat) : Int) 1 4))))) (Gp (PR (n + 9) AV) (n + 9) (fun x H => A7 As E0.tp 4 H x) m (.ptr i1 0) (.sc (.bool (A5 p.fId 1 65535))) (.sc (.int .i64 i)) H)
 | [], pre, m + 1, i, i1, H, he, hi, hm, s0 => by
  obtain rfl : pre = p.fNames := by simpa using he.symm
  have hl1 := hp.l1
  have hl2 := hp.l2
  have hl3 := hp.l3
  have hlen := hp.l2
  rw [Gp]
  try simp only [A8, Az, A2, Cr, Ay, A1, Be, Bu, Bw]
  refine Ad (o' := 23) rfl ?_
  refine Al (c := Dc p.fNames) s0 (.here) rfl ?_
  refine Cq ?_
  refine D4 ?_
  refine Bf (by simp [hi]) ?_
  refine Ac ((A5 p.fId 1 65535)) (fun h201 => ?_) (fun h201 => ?_)
  ·refine Ae h201 ?_
   refine Ad (o' := 23) rfl ?_
   refine Ae h201 ?_
   refine Al (c := Dc p.fNames) s0 (.here) rfl ?_
   refine Ae h201 ?_
   refine Cq ?_
   refine Ae h201 ?_
   refine Ah (v := (.bool (A5 ((p.fNames.length : Nat) : Int) 1 4))) s0 rfl (.cons .sc (.cons .sc (.cons .sc .nil))) (Dh (n + 8) _ ((p.fNames.length : Nat) : Int) 1 4) ?_
   refine Bj h201 ?_
   refine Aj rfl ?_
   have e : ([].all Bm && (A5 p.fId 1 65535 && A5 ((p.fNames.length : Nat) : Int) 1 4)) = (A5 ((p.fNames.length : Nat) : Int) 1 4) := by
    clear s0
    simp only [List.all_cons, List.all_nil, Bd, A9, h3, h33, h34, h47, h48, h54, h55, h56, h57, h58, h59, h201, Bool.true_and, Bool.and_true, Bool.false_or, Bool.or_false, Bool.true_or, Bool.or_true, Bool.false_and, Bool.and_false, Bool.not_true, Bool.not_false]
   rw [e]
   first | done | rfl
  ·refine Aa h201 ?_
   refine Aa h201 ?_
   refine Aa h201 ?_
   refine Aa h201 ?_
   refine An h201 ?_
   refine Aj rfl ?_
   have e : ([].all Bm && (A5 p.fId 1 65535 && A5 ((p.fNames.length : Nat) : Int) 1 4)) = false := by
    clear s0
    simp only [List.all_cons, List.all_nil, Bd, A9, h3, h33, h34, h47, h48, h54, h55, h56, h57, h58, h59, h201, Bool.true_and, Bool.and_true, Bool.false_or, Bool.or_false, Bool.true_or, Bool.or_true, Bool.false_and, Bool.and_false, Bool.not_true, Bool.not_false]
   rw [e]
   first | done | rfl
 | y :: t, pre, m + 1, i, i1, H, he, hi, hm, s0 => by
  have hlt : pre.length < p.fNames.length := by rw [he]; simp
  have hl1 := hp.l1
  have hl2 := hp.l2
  have hl3 := hp.l3
  have hlen := hp.l2
  rw [Gp]
  try simp only [A8, Az, A2, Cr, Ay, A1, Be, Bu, Bw]
  refine Ad (o' := 23) rfl ?_
  refine Al (c := Dc p.fNames) s0 (.here) rfl ?_
  refine Cq ?_
  refine D4 ?_
  refine A0 (by simp [hi]; omega) ?_
  refine Ad (o' := 23) rfl ?_
  refine Al (c := Dc p.fNames) s0 (.here) rfl ?_
  refine Nr hi he ?_
  refine Ke (c := .sc (.string y)) rfl ?_
  refine Ah (v := (.bool (Bm y))) s0 rfl (.cons .sc .nil) (Io (n + 3) (by omega) y (hp.w2 y (by rw [he]; simp)) (Gr (hp.w2 y (by rw [he]; simp)))) ?_
  refine C5 ?_
  refine Ac ((Bm y)) (fun h201 => ?_) (fun h201 => ?_)
  ·refine Bf (nF h201) ?_
   refine Fj (by omega) (by omega) ?_
   have e202 : ((y :: t).all Bm && (A5 p.fId 1 65535 && A5 ((p.fNames.length : Nat) : Int) 1 4)) = (t.all Bm && (A5 p.fId 1 65535 && A5 ((p.fNames.length : Nat) : Int) 1 4)) := by
    clear s0
    simp only [List.all_cons, Bd, A9, h3, h33, h34, h47, h48, h54, h55, h56, h57, h58, h59, h201, Bool.true_and, Bool.and_true, Bool.false_or, Bool.or_false, Bool.true_or, Bool.or_true, Bool.false_and, Bool.not_true, Bool.not_false]
   rw [e202]
   exact Lq n hn p hp h3 h33 h34 h47 h48 h54 h55 h56 h57 h58 h59  t (pre ++ [y]) m _ i1 _ (by rw [he]; simp) (by rw [hi]; simp) (by simpa using hm) (by simpa only [List.map_append, List.map_cons, List.map_nil] using (s0.sel (.cons (.here) .nil)))
  ·refine A0 (nT h201) ?_
   refine Aj rfl ?_
   have e : ((y :: t).all Bm && (A5 p.fId 1 65535 && A5 ((p.fNames.length : Nat) : Int) 1 4)) = false := by
    clear s0
    simp only [List.all_cons, List.all_nil, Bd, A9, h3, h33, h34, h47, h48, h54, h55, h56, h57, h58, h59, h201, Bool.true_and, Bool.and_true, Bool.false_or, Bool.or_false, Bool.true_or, Bool.or_true, Bool.false_and, Bool.and_false, Bool.not_true, Bool.not_false]
   rw [e]
   first | done | rfl
theorem Aaj (n : Nat) (hn : 1048576 < n) (p : Ar) (hp : Hi p) : Bv E0 (n + 10) 4 124 [.agg (A6 p)] = some (.sc (.bool (Ag p))) := by
 rw [Av, AcC, f124]
 refine De (G := (· = some (.sc (.bool (Ag p))))) ?_
 have hl1 := hp.l1
 have hl2 := hp.l2
 have hl3 := hp.l3
 try simp only [Cl, A8, Az, A2, Cr, Ay, A1, Be, Bu]
 have s0 : Sep [] [] := Dd
 refine Hz s0 (Dr (B4 _)) fun i1 H s2 => ?_
 refine Ad (o' := 0) rfl ?_
 refine Al (c := .sc (.int .i64 p.fType)) s2 (.here) rfl ?_
 refine Ah (v := (.bool (A5 p.fType 1 14))) s2 rfl (.cons .sc (.cons .sc (.cons .sc .nil))) (Dh (n + 8) _ p.fType 1 14) ?_
 refine C5 ?_
 refine Ac ((A5 p.fType 1 14)) (fun h3 => ?_) (fun h3 => ?_)
 ·refine Ae (nF h3) ?_
  refine Bo s2 (.here) rfl ?_
  refine Gd.bothE ?_ ?_
  ·refine Ae (nF h3) ?_
   refine Bo s2 (.here) rfl ?_
   refine Ae (nF h3) ?_
   refine AdG rfl rfl ?_
   refine Ql (n + 8) (by omega) p s2 fun Rs4 H hRs4 s4 => ?_
   refine Ae (nF h3) ?_
   refine Ah (v := (.bool (A3 p (Aq true p)))) s4 rfl (.aggF (B4 _) (.agg (hRs4 _) .nil)) (Fy (n + 7) (by omega) _ p (Aq true p) hp.l1 hp.l2 hp.l3) ?_
   refine Ae (nF h3) ?_
   refine C5 ?_
   refine An (nF h3) ?_
   refine Ac ((A3 p (Aq true p))) (fun h5 => ?_) (fun h5 => ?_)
   ·refine Bf (nF h5) ?_
    refine Ad (o' := 4) rfl ?_
    refine Al (c := .sc (.int .i64 p.fId)) s4 (.here) rfl ?_
    refine Ah (v := (.bool (A5 p.fId 1 65535))) s4 rfl (.cons .sc (.cons .sc (.cons .sc .nil))) (Dh (n + 8) _ p.fId 1 65535) ?_
    refine Ad (o' := 0) rfl ?_
    refine Al (c := .sc (.int .i64 p.fType)) s4 (.here) rfl ?_
    refine Au ?_
    refine Ac ((decide (p.fType = 1))) (fun h6 => ?_) (fun h6 => ?_)
    ·refine A0 h6 ?_
     refine Ad (o' := 11) rfl ?_
     refine Al (c := .sc (.bool p.fHasWill)) s4 (.here) rfl ?_
     refine Ac (p.fHasWill) (fun h7 => ?_) (fun h7 => ?_)
     ·refine Ae h7 ?_
      refine Ad (o' := 12) rfl ?_
      refine Ae h7 ?_
      refine Al (c := .sc (.string p.fWTopic)) s4 (.here) rfl ?_
      refine Ae h7 ?_
      refine Ah (v := (.bool (B5 p.fWTopic))) s4 rfl (.cons .sc .nil) (F8 (n + 4) (by omega) _ p.fWTopic hp.t3) ?_
      refine Ae h7 ?_
      refine C5 ?_
      refine Ae h7 ?_
      refine Ac ((B5 p.fWTopic)) (fun h8 => ?_) (fun h8 => ?_)
      ·refine Ae (nF h8) ?_
       refine Ad (o' := 13) rfl ?_
       refine Ae (nF h8) ?_
       refine Al (c := Ax p.fWBody) s4 (.here) rfl ?_
       refine Ae (nF h8) ?_
       refine Cq ?_
       refine Ae (nF h8) ?_
       refine Pt ?_
       refine Ae h7 ?_
       refine An (nF h8) ?_
       refine Ae h7 ?_
       refine Ac ((decide (40 < ((p.fWBody.size : Nat) : Int)))) (fun h9 => ?_) (fun h9 => ?_)
       ·refine Aa h9 ?_
        refine Aa h9 ?_
        refine Aa h9 ?_
        refine Aa h9 ?_
        refine Ae h7 ?_
        refine Bj h9 ?_
        refine Bj h7 ?_
        refine A0 rfl ?_
        refine Aj rfl ?_
        have e : Ag p = false := by
         clear s0 s2 s4
         try simp only [decide_eq_false_iff_not, decide_eq_true_eq] at h6 h9
         unfold Ag Br
         first | (simp only [h3, h5, h7, h8, Bool.true_and, Bool.and_true, Bool.false_and, Bool.and_false, Bool.true_or, Bool.or_true, Bool.false_or, Bool.or_false, Bool.not_true, Bool.not_false]; done) | (simp only [h3, h5, h7, h8, Bool.true_and, Bool.and_true, Bool.false_and, Bool.and_false, Bool.true_or, Bool.or_true, Bool.false_or, Bool.or_false, Bool.not_true, Bool.not_false]; simp [h6, h9]; done) | (simp [h6, h9]; done) | (simp only [h3, h5, h7, h8, Bool.true_and, Bool.and_true, Bool.false_and, Bool.and_false, Bool.true_or, Bool.or_true, Bool.false_or, Bool.or_false, Bool.not_true, Bool.not_false]; simp [h6, h9]; omega)
        rw [e]
        first | done | rfl
       ·refine Ae h9 ?_
        refine Ad (o' := 14) rfl ?_
        refine Ae h9 ?_
        refine Al (c := .sc (.int .i64 p.fWQos)) s4 (.here) rfl ?_
        refine Ae h9 ?_
        refine Ah (v := (.bool (A5 p.fWQos 0 2))) s4 rfl (.cons .sc (.cons .sc (.cons .sc .nil))) (Dh (n + 8) _ p.fWQos 0 2) ?_
        refine Ae h9 ?_
        refine C5 ?_
        refine Ae h7 ?_
        refine An h9 ?_
        refine Bj h7 ?_
        refine Ac ((A5 p.fWQos 0 2)) (fun h10 => ?_) (fun h10 => ?_)
        ·refine Bf (nF h10) ?_
         refine Ad (o' := 8) rfl ?_
         refine Al (c := .sc (.int .i64 p.fLevel)) s4 (.here) rfl ?_
         refine Ah (v := (.bool (A5 p.fLevel 0 255))) s4 rfl (.cons .sc (.cons .sc (.cons .sc .nil))) (Dh (n + 8) _ p.fLevel 0 255) ?_
         refine Ac ((A5 p.fLevel 0 255)) (fun h11 => ?_) (fun h11 => ?_)
         ·refine Ae h11 ?_
          refine Ad (o' := 7) rfl ?_
          refine Ae h11 ?_
          refine Al (c := .sc (.string p.fClient)) s4 (.here) rfl ?_
          refine Ae h11 ?_
          refine Ah (v := (.bool (Bi p.fClient))) s4 rfl (.cons .sc .nil) (Ef (n + 5) (by omega) _ p.fClient) ?_
          refine Bj h11 ?_
          refine Ac ((Bi p.fClient)) (fun h12 => ?_) (fun h12 => ?_)
          ·refine Ae h12 ?_
           refine Ad (o' := 10) rfl ?_
           refine Ae h12 ?_
           refine Al (c := .sc (.int .i64 p.fKeep)) s4 (.here) rfl ?_
           refine Ae h12 ?_
           refine Ah (v := (.bool (A5 p.fKeep 0 65535))) s4 rfl (.cons .sc (.cons .sc (.cons .sc .nil))) (Dh (n + 8) _ p.fKeep 0 65535) ?_
           refine Bj h12 ?_
           refine Ac ((A5 p.fKeep 0 65535)) (fun h13 => ?_) (fun h13 => ?_)
           ·refine Ae h13 ?_
            refine Ad (o' := 17) rfl ?_
            refine Ae h13 ?_
            refine Al (c := .sc (.string p.fUser)) s4 (.here) rfl ?_
            refine Ae h13 ?_
            refine Ah (v := (.bool (Bi p.fUser))) s4 rfl (.cons .sc .nil) (Ef (n + 5) (by omega) _ p.fUser) ?_
            refine Bj h13 ?_
            refine Ac ((Bi p.fUser)) (fun h14 => ?_) (fun h14 => ?_)
            ·refine Ae h14 ?_
             refine Ad (o' := 19) rfl ?_
             refine Ae h14 ?_
             refine Al (c := Ax p.fPass) s4 (.here) rfl ?_
             refine Ae h14 ?_
             refine Cq ?_
             refine Ae h14 ?_
             refine Hk ?_
             refine Bj h14 ?_
             refine Aj rfl ?_
             have e : Ag p = (decide (((p.fPass.size : Nat) : Int) ≤ 60)) := by
              clear s0 s2 s4
              try simp only [decide_eq_false_iff_not, decide_eq_true_eq] at h6 h9
              unfold Ag Br
              first | (simp only [h3, h5, h7, h8, h10, h11, h12, h13, h14, Bool.true_and, Bool.and_true, Bool.false_and, Bool.and_false, Bool.true_or, Bool.or_true, Bool.false_or, Bool.or_false, Bool.not_true, Bool.not_false]; done) | (simp only [h3, h5, h7, h8, h10, h11, h12, h13, h14, Bool.true_and, Bool.and_true, Bool.false_and, Bool.and_false, Bool.true_or, Bool.or_true, Bool.false_or, Bool.or_false, Bool.not_true, Bool.not_false]; simp [h6, h9]; done) | (simp [h6, h9]; done) | (simp only [h3, h5, h7, h8, h10, h11, h12, h13, h14, Bool.true_and, Bool.and_true, Bool.false_and, Bool.and_false, Bool.true_or, Bool.or_true, Bool.false_or, Bool.or_false, Bool.not_true, Bool.not_false]; simp [h6, h9]; omega)
             rw [e]
             first | done | rfl
            ·refine Aa h14 ?_
             refine Aa h14 ?_
             refine Aa h14 ?_
             refine Aa h14 ?_
             refine An h14 ?_
             refine Aj rfl ?_
             have e : Ag p = false := by
              clear s0 s2 s4
              try simp only [decide_eq_false_iff_not, decide_eq_true_eq] at h6 h9
              unfold Ag Br
              first | (simp only [h3, h5, h7, h8, h10, h11, h12, h13, h14, Bool.true_and, Bool.and_true, Bool.false_and, Bool.and_false, Bool.true_or, Bool.or_true, Bool.false_or, Bool.or_false, Bool.not_true, Bool.not_false]; done) | (simp only [h3, h5, h7, h8, h10, h11, h12, h13, h14, Bool.true_and, Bool.and_true, Bool.false_and, Bool.and_false, Bool.true_or, Bool.or_true, Bool.false_or, Bool.or_false, Bool.not_true, Bool.not_false]; simp [h6, h9]; done) | (simp [h6, h9]; done) | (simp only [h3, h5, h7, h8, h10, h11, h12, h13, h14, Bool.true_and, Bool.and_true, Bool.false_and, Bool.and_false, Bool.true_or, Bool.or_true, Bool.false_or, Bool.or_false, Bool.not_true, Bool.not_false]; simp [h6, h9]; omega)
             rw [e]
             first | done | rfl
           ·refine Aa h13 ?_
            refine Aa h13 ?_
            refine Aa h13 ?_
            refine An h13 ?_
            refine Aa rfl ?_
            refine Aa rfl ?_
            refine Aa rfl ?_
            refine Aa rfl ?_
            refine An rfl ?_
            refine Aj rfl ?_
            have e : Ag p = false := by
             clear s0 s2 s4
             try simp only [decide_eq_false_iff_not, decide_eq_true_eq] at h6 h9
             unfold Ag Br
             first | (simp only [h3, h5, h7, h8, h10, h11, h12, h13, Bool.true_and, Bool.and_true, Bool.false_and, Bool.and_false, Bool.true_or, Bool.or_true, Bool.false_or, Bool.or_false, Bool.not_true, Bool.not_false]; done) | (simp only [h3, h5, h7, h8, h10, h11, h12, h13, Bool.true_and, Bool.and_true, Bool.false_and, Bool.and_false, Bool.true_or, Bool.or_true, Bool.false_or, Bool.or_false, Bool.not_true, Bool.not_false]; simp [h6, h9]; done) | (simp [h6, h9]; done) | (simp only [h3, h5, h7, h8, h10, h11, h12, h13, Bool.true_and, Bool.and_true, Bool.false_and, Bool.and_false, Bool.true_or, Bool.or_true, Bool.false_or, Bool.or_false, Bool.not_true, Bool.not_false]; simp [h6, h9]; omega)
            rw [e]
            first | done | rfl
          ·refine Aa h12 ?_
           refine Aa h12 ?_
           refine Aa h12 ?_
           refine An h12 ?_
           refine Aa rfl ?_
           refine Aa rfl ?_
           refine Aa rfl ?_
           refine An rfl ?_
           refine Aa rfl ?_
           refine Aa rfl ?_
           refine Aa rfl ?_
           refine Aa rfl ?_
           refine An rfl ?_
           refine Aj rfl ?_
           have e : Ag p = false := by
            clear s0 s2 s4
            try simp only [decide_eq_false_iff_not, decide_eq_true_eq] at h6 h9
            unfold Ag Br
            first | (simp only [h3, h5, h7, h8, h10, h11, h12, Bool.true_and, Bool.and_true, Bool.false_and, Bool.and_false, Bool.true_or, Bool.or_true, Bool.false_or, Bool.or_false, Bool.not_true, Bool.not_false]; done) | (simp only [h3, h5, h7, h8, h10, h11, h12, Bool.true_and, Bool.and_true, Bool.false_and, Bool.and_false, Bool.true_or, Bool.or_true, Bool.false_or, Bool.or_false, Bool.not_true, Bool.not_false]; simp [h6, h9]; done) | (simp [h6, h9]; done) | (simp only [h3, h5, h7, h8, h10, h11, h12, Bool.true_and, Bool.and_true, Bool.false_and, Bool.and_false, Bool.true_or, Bool.or_true, Bool.false_or, Bool.or_false, Bool.not_true, Bool.not_false]; simp [h6, h9]; omega)
           rw [e]
           first | done | rfl
         ·refine Aa h11 ?_
          refine Aa h11 ?_
          refine Aa h11 ?_
          refine An h11 ?_
          refine Aa rfl ?_
          refine Aa rfl ?_
          refine Aa rfl ?_
          refine An rfl ?_
          refine Aa rfl ?_
          refine Aa rfl ?_
          refine Aa rfl ?_
          refine An rfl ?_
          refine Aa rfl ?_
          refine Aa rfl ?_
          refine Aa rfl ?_
          refine Aa rfl ?_
          refine An rfl ?_
          refine Aj rfl ?_
          have e : Ag p = false := by
           clear s0 s2 s4
           try simp only [decide_eq_false_iff_not, decide_eq_true_eq] at h6 h9
           unfold Ag Br
           first | (simp only [h3, h5, h7, h8, h10, h11, Bool.true_and, Bool.and_true, Bool.false_and, Bool.and_false, Bool.true_or, Bool.or_true, Bool.false_or, Bool.or_false, Bool.not_true, Bool.not_false]; done) | (simp only [h3, h5, h7, h8, h10, h11, Bool.true_and, Bool.and_true, Bool.false_and, Bool.and_false, Bool.true_or, Bool.or_true, Bool.false_or, Bool.or_false, Bool.not_true, Bool.not_false]; simp [h6, h9]; done) | (simp [h6, h9]; done) | (simp only [h3, h5, h7, h8, h10, h11, Bool.true_and, Bool.and_true, Bool.false_and, Bool.and_false, Bool.true_or, Bool.or_true, Bool.false_or, Bool.or_false, Bool.not_true, Bool.not_false]; simp [h6, h9]; omega)
          rw [e]
          first | done | rfl
        ·refine A0 (nT h10) ?_
         refine Aj rfl ?_
         have e : Ag p = false := by
          clear s0 s2 s4
          try simp only [decide_eq_false_iff_not, decide_eq_true_eq] at h6 h9
          unfold Ag Br
          first | (simp only [h3, h5, h7, h8, h10, Bool.true_and, Bool.and_true, Bool.false_and, Bool.and_false, Bool.true_or, Bool.or_true, Bool.false_or, Bool.or_false, Bool.not_true, Bool.not_false]; done) | (simp only [h3, h5, h7, h8, h10, Bool.true_and, Bool.and_true, Bool.false_and, Bool.and_false, Bool.true_or, Bool.or_true, Bool.false_or, Bool.or_false, Bool.not_true, Bool.not_false]; simp [h6, h9]; done) | (simp [h6, h9]; done) | (simp only [h3, h5, h7, h8, h10, Bool.true_and, Bool.and_true, Bool.false_and, Bool.and_false, Bool.true_or, Bool.or_true, Bool.false_or, Bool.or_false, Bool.not_true, Bool.not_false]; simp [h6, h9]; omega)
         rw [e]
         first | done | rfl
      ·refine Aa (nT h8) ?_
       refine Aa (nT h8) ?_
       refine Aa (nT h8) ?_
       refine Aa (nT h8) ?_
       refine Ae h7 ?_
       refine Bj (nT h8) ?_
       refine Ae h7 ?_
       refine Aa rfl ?_
       refine Aa rfl ?_
       refine Aa rfl ?_
       refine Aa rfl ?_
       refine Ae h7 ?_
       refine Bj rfl ?_
       refine Bj h7 ?_
       refine A0 rfl ?_
       refine Aj rfl ?_
       have e : Ag p = false := by
        clear s0 s2 s4
        try simp only [decide_eq_false_iff_not, decide_eq_true_eq] at h6
        unfold Ag Br
        first | (simp only [h3, h5, h7, h8, Bool.true_and, Bool.and_true, Bool.false_and, Bool.and_false, Bool.true_or, Bool.or_true, Bool.false_or, Bool.or_false, Bool.not_true, Bool.not_false]; done) | (simp only [h3, h5, h7, h8, Bool.true_and, Bool.and_true, Bool.false_and, Bool.and_false, Bool.true_or, Bool.or_true, Bool.false_or, Bool.or_false, Bool.not_true, Bool.not_false]; simp [h6]; done) | (simp [h6]; done) | (simp only [h3, h5, h7, h8, Bool.true_and, Bool.and_true, Bool.false_and, Bool.and_false, Bool.true_or, Bool.or_true, Bool.false_or, Bool.or_false, Bool.not_true, Bool.not_false]; simp [h6]; omega)
       rw [e]
       first | done | rfl
     ·refine Aa h7 ?_
      refine Aa h7 ?_
      refine Aa h7 ?_
      refine Aa h7 ?_
      refine Aa h7 ?_
      refine Bt ?_
      refine Bt ?_
      refine Bt ?_
      refine Bt ?_
      refine Aa h7 ?_
      refine Aa h7 ?_
      refine Bt ?_
      refine Bt ?_
      refine Bt ?_
      refine Bt ?_
      refine Aa h7 ?_
      refine An h7 ?_
      refine Bf rfl ?_
      refine Ad (o' := 8) rfl ?_
      refine Al (c := .sc (.int .i64 p.fLevel)) s4 (.here) rfl ?_
      refine Ah (v := (.bool (A5 p.fLevel 0 255))) s4 rfl (.cons .sc (.cons .sc (.cons .sc .nil))) (Dh (n + 8) _ p.fLevel 0 255) ?_
      refine Ac ((A5 p.fLevel 0 255)) (fun h15 => ?_) (fun h15 => ?_)
      ·refine Ae h15 ?_
       refine Ad (o' := 7) rfl ?_
       refine Ae h15 ?_
       refine Al (c := .sc (.string p.fClient)) s4 (.here) rfl ?_
       refine Ae h15 ?_
       refine Ah (v := (.bool (Bi p.fClient))) s4 rfl (.cons .sc .nil) (Ef (n + 5) (by omega) _ p.fClient) ?_
       refine Bj h15 ?_
       refine Ac ((Bi p.fClient)) (fun h16 => ?_) (fun h16 => ?_)
       ·refine Ae h16 ?_
        refine Ad (o' := 10) rfl ?_
        refine Ae h16 ?_
        refine Al (c := .sc (.int .i64 p.fKeep)) s4 (.here) rfl ?_
        refine Ae h16 ?_
        refine Ah (v := (.bool (A5 p.fKeep 0 65535))) s4 rfl (.cons .sc (.cons .sc (.cons .sc .nil))) (Dh (n + 8) _ p.fKeep 0 65535) ?_
        refine Bj h16 ?_
        refine Ac ((A5 p.fKeep 0 65535)) (fun h17 => ?_) (fun h17 => ?_)
        ·refine Ae h17 ?_
         refine Ad (o' := 17) rfl ?_
         refine Ae h17 ?_
         refine Al (c := .sc (.string p.fUser)) s4 (.here) rfl ?_
         refine Ae h17 ?_
         refine Ah (v := (.bool (Bi p.fUser))) s4 rfl (.cons .sc .nil) (Ef (n + 5) (by omega) _ p.fUser) ?_
         refine Bj h17 ?_
         refine Ac ((Bi p.fUser)) (fun h18 => ?_) (fun h18 => ?_)
         ·refine Ae h18 ?_
          refine Ad (o' := 19) rfl ?_
          refine Ae h18 ?_
          refine Al (c := Ax p.fPass) s4 (.here) rfl ?_
          refine Ae h18 ?_
          refine Cq ?_
          refine Ae h18 ?_
          refine Hk ?_
          refine Bj h18 ?_
          refine Aj rfl ?_
          have e : Ag p = (decide (((p.fPass.size : Nat) : Int) ≤ 60)) := by
           clear s0 s2 s4
           try simp only [decide_eq_false_iff_not, decide_eq_true_eq] at h6
           unfold Ag Br
           first | (simp only [h3, h5, h7, h15, h16, h17, h18, Bool.true_and, Bool.and_true, Bool.false_and, Bool.and_false, Bool.true_or, Bool.or_true, Bool.false_or, Bool.or_false, Bool.not_true, Bool.not_false]; done) | (simp only [h3, h5, h7, h15, h16, h17, h18, Bool.true_and, Bool.and_true, Bool.false_and, Bool.and_false, Bool.true_or, Bool.or_true, Bool.false_or, Bool.or_false, Bool.not_true, Bool.not_false]; simp [h6]; done) | (simp [h6]; done) | (simp only [h3, h5, h7, h15, h16, h17, h18, Bool.true_and, Bool.and_true, Bool.false_and, Bool.and_false, Bool.true_or, Bool.or_true, Bool.false_or, Bool.or_false, Bool.not_true, Bool.not_false]; simp [h6]; omega)
          rw [e]
          first | done | rfl
         ·refine Aa h18 ?_
          refine Aa h18 ?_
          refine Aa h18 ?_
          refine Aa h18 ?_
          refine An h18 ?_
          refine Aj rfl ?_
          have e : Ag p = false := by
           clear s0 s2 s4
           try simp only [decide_eq_false_iff_not, decide_eq_true_eq] at h6
           unfold Ag Br
           first | (simp only [h3, h5, h7, h15, h16, h17, h18, Bool.true_and, Bool.and_true, Bool.false_and, Bool.and_false, Bool.true_or, Bool.or_true, Bool.false_or, Bool.or_false, Bool.not_true, Bool.not_false]; done) | (simp only [h3, h5, h7, h15, h16, h17, h18, Bool.true_and, Bool.and_true, Bool.false_and, Bool.and_false, Bool.true_or, Bool.or_true, Bool.false_or, Bool.or_false, Bool.not_true, Bool.not_false]; simp [h6]; done) | (simp [h6]; done) | (simp only [h3, h5, h7, h15, h16, h17, h18, Bool.true_and, Bool.and_true, Bool.false_and, Bool.and_false, Bool.true_or, Bool.or_true, Bool.false_or, Bool.or_false, Bool.not_true, Bool.not_false]; simp [h6]; omega)
          rw [e]
          first | done | rfl
        ·refine Aa h17 ?_
         refine Aa h17 ?_
         refine Aa h17 ?_
         refine An h17 ?_
         refine Aa rfl ?_
         refine Aa rfl ?_
         refine Aa rfl ?_
         refine Aa rfl ?_
         refine An rfl ?_
         refine Aj rfl ?_
         have e : Ag p = false := by
          clear s0 s2 s4
          try simp only [decide_eq_false_iff_not, decide_eq_true_eq] at h6
          unfold Ag Br
          first | (simp only [h3, h5, h7, h15, h16, h17, Bool.true_and, Bool.and_true, Bool.false_and, Bool.and_false, Bool.true_or, Bool.or_true, Bool.false_or, Bool.or_false, Bool.not_true, Bool.not_false]; done) | (simp only [h3, h5, h7, h15, h16, h17, Bool.true_and, Bool.and_true, Bool.false_and, Bool.and_false, Bool.true_or, Bool.or_true, Bool.false_or, Bool.or_false, Bool.not_true, Bool.not_false]; simp [h6]; done) | (simp [h6]; done) | (simp only [h3, h5, h7, h15, h16, h17, Bool.true_and, Bool.and_true, Bool.false_and, Bool.and_false, Bool.true_or, Bool.or_true, Bool.false_or, Bool.or_false, Bool.not_true, Bool.not_false]; simp [h6]; omega)
         rw [e]
         first | done | rfl
       ·refine Aa h16 ?_
        refine Aa h16 ?_
        refine Aa h16 ?_
        refine An h16 ?_
        refine Aa rfl ?_
        refine Aa rfl ?_
        refine Aa rfl ?_
        refine An rfl ?_
        refine Aa rfl ?_
        refine Aa rfl ?_
        refine Aa rfl ?_
        refine Aa rfl ?_
        refine An rfl ?_
        refine Aj rfl ?_
        have e : Ag p = false := by
         clear s0 s2 s4
         try simp only [decide_eq_false_iff_not, decide_eq_true_eq] at h6
         unfold Ag Br
         first | (simp only [h3, h5, h7, h15, h16, Bool.true_and, Bool.and_true, Bool.false_and, Bool.and_false, Bool.true_or, Bool.or_true, Bool.false_or, Bool.or_false, Bool.not_true, Bool.not_false]; done) | (simp only [h3, h5, h7, h15, h16, Bool.true_and, Bool.and_true, Bool.false_and, Bool.and_false, Bool.true_or, Bool.or_true, Bool.false_or, Bool.or_false, Bool.not_true, Bool.not_false]; simp [h6]; done) | (simp [h6]; done) | (simp only [h3, h5, h7, h15, h16, Bool.true_and, Bool.and_true, Bool.false_and, Bool.and_false, Bool.true_or, Bool.or_true, Bool.false_or, Bool.or_false, Bool.not_true, Bool.not_false]; simp [h6]; omega)
        rw [e]
        first | done | rfl
      ·refine Aa h15 ?_
       refine Aa h15 ?_
       refine Aa h15 ?_
       refine An h15 ?_
       refine Aa rfl ?_
       refine Aa rfl ?_
       refine Aa rfl ?_
       refine An rfl ?_
       refine Aa rfl ?_
       refine Aa rfl ?_
       refine Aa rfl ?_
       refine An rfl ?_
       refine Aa rfl ?_
       refine Aa rfl ?_
       refine Aa rfl ?_
       refine Aa rfl ?_
       refine An rfl ?_
       refine Aj rfl ?_
       have e : Ag p = false := by
        clear s0 s2 s4
        try simp only [decide_eq_false_iff_not, decide_eq_true_eq] at h6
        unfold Ag Br
        first | (simp only [h3, h5, h7, h15, Bool.true_and, Bool.and_true, Bool.false_and, Bool.and_false, Bool.true_or, Bool.or_true, Bool.false_or, Bool.or_false, Bool.not_true, Bool.not_false]; done) | (simp only [h3, h5, h7, h15, Bool.true_and, Bool.and_true, Bool.false_and, Bool.and_false, Bool.true_or, Bool.or_true, Bool.false_or, Bool.or_false, Bool.not_true, Bool.not_false]; simp [h6]; done) | (simp [h6]; done) | (simp only [h3, h5, h7, h15, Bool.true_and, Bool.and_true, Bool.false_and, Bool.and_false, Bool.true_or, Bool.or_true, Bool.false_or, Bool.or_false, Bool.not_true, Bool.not_false]; simp [h6]; omega)
       rw [e]
       first | done | rfl
    ·refine Bf h6 ?_
     refine Au ?_
     refine Ac ((decide (p.fType = 2))) (fun h19 => ?_) (fun h19 => ?_)
     ·refine A0 h19 ?_
      refine Ad (o' := 20) rfl ?_
      refine Al (c := .sc (.int .i64 p.fCode)) s4 (.here) rfl ?_
      refine Ah (v := (.bool (A5 p.fCode 0 5))) s4 rfl (.cons .sc (.cons .sc (.cons .sc .nil))) (Dh (n + 8) _ p.fCode 0 5) ?_
      refine Aj rfl ?_
      have e : Ag p = (A5 p.fCode 0 5) := by
       clear s0 s2 s4
       try simp only [decide_eq_false_iff_not, decide_eq_true_eq] at h6 h19
       unfold Ag Br
       first | (simp only [h3, h5, Bool.true_and, Bool.and_true, Bool.false_and, Bool.and_false, Bool.true_or, Bool.or_true, Bool.false_or, Bool.or_false, Bool.not_true, Bool.not_false]; done) | (simp only [h3, h5, Bool.true_and, Bool.and_true, Bool.false_and, Bool.and_false, Bool.true_or, Bool.or_true, Bool.false_or, Bool.or_false, Bool.not_true, Bool.not_false]; simp [h6, h19]; done) | (simp [h6, h19]; done) | (simp only [h3, h5, Bool.true_and, Bool.and_true, Bool.false_and, Bool.and_false, Bool.true_or, Bool.or_true, Bool.false_or, Bool.or_false, Bool.not_true, Bool.not_false]; simp [h6, h19]; omega)
      rw [e]
      first | done | rfl
     ·refine Bf h19 ?_
      refine Au ?_
      refine Ac ((decide (p.fType = 3))) (fun h20 => ?_) (fun h20 => ?_)
      ·refine A0 h20 ?_
       refine Ad (o' := 2) rfl ?_
       refine Al (c := .sc (.int .i64 p.fQos)) s4 (.here) rfl ?_
       refine Ah (v := (.bool (A5 p.fQos 0 2))) s4 rfl (.cons .sc (.cons .sc (.cons .sc .nil))) (Dh (n + 8) _ p.fQos 0 2) ?_
       refine Ac ((A5 p.fQos 0 2)) (fun h21 => ?_) (fun h21 => ?_)
       ·refine Ae h21 ?_
        refine Ad (o' := 2) rfl ?_
        refine Ae h21 ?_
        refine Al (c := .sc (.int .i64 p.fQos)) s4 (.here) rfl ?_
        refine Ae h21 ?_
        refine Au ?_
        refine Ae h21 ?_
        refine Ac ((decide (p.fQos = 0))) (fun h22 => ?_) (fun h22 => ?_)
        ·refine Aa h22 ?_
         refine Ae h21 ?_
         refine Bj h22 ?_
         refine Bj h21 ?_
         refine Ae rfl ?_
         refine Ad (o' := 5) rfl ?_
         refine Ae rfl ?_
         refine Al (c := .sc (.string p.fTopic)) s4 (.here) rfl ?_
         refine Ae rfl ?_
         refine Ah (v := (.bool (B5 p.fTopic))) s4 rfl (.cons .sc .nil) (F8 (n + 4) (by omega) _ p.fTopic hp.t1) ?_
         refine Bj rfl ?_
         refine Ac ((B5 p.fTopic)) (fun h23 => ?_) (fun h23 => ?_)
         ·refine Ae h23 ?_
          refine Ad (o' := 6) rfl ?_
          refine Ae h23 ?_
          refine Al (c := Ax p.fBody) s4 (.here) rfl ?_
          refine Ae h23 ?_
          refine Cq ?_
          refine Ae h23 ?_
          refine Hk ?_
          refine Bj h23 ?_
          refine Aj rfl ?_
          have e : Ag p = (decide (((p.fBody.size : Nat) : Int) ≤ 40)) := by
           clear s0 s2 s4
           try simp only [decide_eq_false_iff_not, decide_eq_true_eq] at h6 h19 h20 h22
           unfold Ag Br
           first | (simp only [h3, h5, h21, h23, Bool.true_and, Bool.and_true, Bool.false_and, Bool.and_false, Bool.true_or, Bool.or_true, Bool.false_or, Bool.or_false, Bool.not_true, Bool.not_false]; done) | (simp only [h3, h5, h21, h23, Bool.true_and, Bool.and_true, Bool.false_and, Bool.and_false, Bool.true_or, Bool.or_true, Bool.false_or, Bool.or_false, Bool.not_true, Bool.not_false]; simp [h6, h19, h20, h22]; done) | (simp [h6, h19, h20, h22]; done) | (simp only [h3, h5, h21, h23, Bool.true_and, Bool.and_true, Bool.false_and, Bool.and_false, Bool.true_or, Bool.or_true, Bool.false_or, Bool.or_false, Bool.not_true, Bool.not_false]; simp [h6, h19, h20, h22]; omega)
          rw [e]
          first | done | rfl
         ·refine Aa h23 ?_
          refine Aa h23 ?_
          refine Aa h23 ?_
          refine Aa h23 ?_
          refine An h23 ?_
          refine Aj rfl ?_
          have e : Ag p = false := by
           clear s0 s2 s4
           try simp only [decide_eq_false_iff_not, decide_eq_true_eq] at h6 h19 h20 h22
           unfold Ag Br
           first | (simp only [h3, h5, h21, h23, Bool.true_and, Bool.and_true, Bool.false_and, Bool.and_false, Bool.true_or, Bool.or_true, Bool.false_or, Bool.or_false, Bool.not_true, Bool.not_false]; done) | (simp only [h3, h5, h21, h23, Bool.true_and, Bool.and_true, Bool.false_and, Bool.and_false, Bool.true_or, Bool.or_true, Bool.false_or, Bool.or_false, Bool.not_true, Bool.not_false]; simp [h6, h19, h20, h22]; done) | (simp [h6, h19, h20, h22]; done) | (simp only [h3, h5, h21, h23, Bool.true_and, Bool.and_true, Bool.false_and, Bool.and_false, Bool.true_or, Bool.or_true, Bool.false_or, Bool.or_false, Bool.not_true, Bool.not_false]; simp [h6, h19, h20, h22]; omega)
          rw [e]
          first | done | rfl
        ·refine Ae h22 ?_
         refine Ae h21 ?_
         refine An h22 ?_
         refine Bj h21 ?_
         refine Ac ((A5 p.fId 1 65535)) (fun h24 => ?_) (fun h24 => ?_)
         ·refine Ae h24 ?_
          refine Ad (o' := 5) rfl ?_
          refine Ae h24 ?_
          refine Al (c := .sc (.string p.fTopic)) s4 (.here) rfl ?_
          refine Ae h24 ?_
          refine Ah (v := (.bool (B5 p.fTopic))) s4 rfl (.cons .sc .nil) (F8 (n + 4) (by omega) _ p.fTopic hp.t1) ?_
          refine Bj h24 ?_
          refine Ac ((B5 p.fTopic)) (fun h25 => ?_) (fun h25 => ?_)
          ·refine Ae h25 ?_
           refine Ad (o' := 6) rfl ?_
           refine Ae h25 ?_
           refine Al (c := Ax p.fBody) s4 (.here) rfl ?_
           refine Ae h25 ?_
           refine Cq ?_
           refine Ae h25 ?_
           refine Hk ?_
           refine Bj h25 ?_
           refine Aj rfl ?_
           have e : Ag p = (decide (((p.fBody.size : Nat) : Int) ≤ 40)) := by
            clear s0 s2 s4
            try simp only [decide_eq_false_iff_not, decide_eq_true_eq] at h6 h19 h20 h22
            unfold Ag Br
            first | (simp only [h3, h5, h21, h24, h25, Bool.true_and, Bool.and_true, Bool.false_and, Bool.and_false, Bool.true_or, Bool.or_true, Bool.false_or, Bool.or_false, Bool.not_true, Bool.not_false]; done) | (simp only [h3, h5, h21, h24, h25, Bool.true_and, Bool.and_true, Bool.false_and, Bool.and_false, Bool.true_or, Bool.or_true, Bool.false_or, Bool.or_false, Bool.not_true, Bool.not_false]; simp [h6, h19, h20, h22]; done) | (simp [h6, h19, h20, h22]; done) | (simp only [h3, h5, h21, h24, h25, Bool.true_and, Bool.and_true, Bool.false_and, Bool.and_false, Bool.true_or, Bool.or_true, Bool.false_or, Bool.or_false, Bool.not_true, Bool.not_false]; simp [h6, h19, h20, h22]; omega)
           rw [e]
           first | done | rfl
          ·refine Aa h25 ?_
           refine Aa h25 ?_
           refine Aa h25 ?_
           refine Aa h25 ?_
           refine An h25 ?_
           refine Aj rfl ?_
           have e : Ag p = false := by
            clear s0 s2 s4
            try simp only [decide_eq_false_iff_not, decide_eq_true_eq] at h6 h19 h20 h22
            unfold Ag Br
            first | (simp only [h3, h5, h21, h24, h25, Bool.true_and, Bool.and_true, Bool.false_and, Bool.and_false, Bool.true_or, Bool.or_true, Bool.false_or, Bool.or_false, Bool.not_true, Bool.not_false]; done) | (simp only [h3, h5, h21, h24, h25, Bool.true_and, Bool.and_true, Bool.false_and, Bool.and_false, Bool.true_or, Bool.or_true, Bool.false_or, Bool.or_false, Bool.not_true, Bool.not_false]; simp [h6, h19, h20, h22]; done) | (simp [h6, h19, h20, h22]; done) | (simp only [h3, h5, h21, h24, h25, Bool.true_and, Bool.and_true, Bool.false_and, Bool.and_false, Bool.true_or, Bool.or_true, Bool.false_or, Bool.or_false, Bool.not_true, Bool.not_false]; simp [h6, h19, h20, h22]; omega)
           rw [e]
           first | done | rfl
         ·refine Aa h24 ?_
          refine Aa h24 ?_
          refine Aa h24 ?_
          refine An h24 ?_
          refine Aa rfl ?_
          refine Aa rfl ?_
          refine Aa rfl ?_
          refine Aa rfl ?_
          refine An rfl ?_
          refine Aj rfl ?_
          have e : Ag p = false := by
           clear s0 s2 s4
           try simp only [decide_eq_false_iff_not, decide_eq_true_eq] at h6 h19 h20 h22
           unfold Ag Br
           first | (simp only [h3, h5, h21, h24, Bool.true_and, Bool.and_true, Bool.false_and, Bool.and_false, Bool.true_or, Bool.or_true, Bool.false_or, Bool.or_false, Bool.not_true, Bool.not_false]; done) | (simp only [h3, h5, h21, h24, Bool.true_and, Bool.and_true, Bool.false_and, Bool.and_false, Bool.true_or, Bool.or_true, Bool.false_or, Bool.or_false, Bool.not_true, Bool.not_false]; simp [h6, h19, h20, h22]; done) | (simp [h6, h19, h20, h22]; done) | (simp only [h3, h5, h21, h24, Bool.true_and, Bool.and_true, Bool.false_and, Bool.and_false, Bool.true_or, Bool.or_true, Bool.false_or, Bool.or_false, Bool.not_true, Bool.not_false]; simp [h6, h19, h20, h22]; omega)
          rw [e]
          first | done | rfl
       ·refine Aa h21 ?_
        refine Aa h21 ?_
        refine Aa h21 ?_
        refine Aa h21 ?_
        refine Bt ?_
        refine Aa h21 ?_
        refine An h21 ?_
        refine Aa rfl ?_
        refine Aa rfl ?_
        refine Aa rfl ?_
        refine An rfl ?_
        refine Aa rfl ?_
        refine Aa rfl ?_
        refine Aa rfl ?_
        refine Aa rfl ?_
        refine An rfl ?_
        refine Aj rfl ?_
        have e : Ag p = false := by
         clear s0 s2 s4
         try simp only [decide_eq_false_iff_not, decide_eq_true_eq] at h6 h19 h20
         unfold Ag Br
         first | (simp only [h3, h5, h21, Bool.true_and, Bool.and_true, Bool.false_and, Bool.and_false, Bool.true_or, Bool.or_true, Bool.false_or, Bool.or_false, Bool.not_true, Bool.not_false]; done) | (simp only [h3, h5, h21, Bool.true_and, Bool.and_true, Bool.false_and, Bool.and_false, Bool.true_or, Bool.or_true, Bool.false_or, Bool.or_false, Bool.not_true, Bool.not_false]; simp [h6, h19, h20]; done) | (simp [h6, h19, h20]; done) | (simp only [h3, h5, h21, Bool.true_and, Bool.and_true, Bool.false_and, Bool.and_false, Bool.true_or, Bool.or_true, Bool.false_or, Bool.or_false, Bool.not_true, Bool.not_false]; simp [h6, h19, h20]; omega)
        rw [e]
        first | done | rfl
      ·refine Bf h20 ?_
       refine Au ?_
       refine Fm ?_
       refine Ac ((decide (p.fType = 12))) (fun h26 => ?_) (fun h26 => ?_)
       ·refine A0 h26 ?_
        refine A0 h26 ?_
        refine Aj rfl ?_
        have e : Ag p = true := by
         clear s0 s2 s4
         try simp only [decide_eq_false_iff_not, decide_eq_true_eq] at h6 h19 h20 h26
         unfold Ag Br
         first | (simp only [h3, h5, Bool.true_and, Bool.and_true, Bool.false_and, Bool.and_false, Bool.true_or, Bool.or_true, Bool.false_or, Bool.or_false, Bool.not_true, Bool.not_false]; done) | (simp only [h3, h5, Bool.true_and, Bool.and_true, Bool.false_and, Bool.and_false, Bool.true_or, Bool.or_true, Bool.false_or, Bool.or_false, Bool.not_true, Bool.not_false]; simp [h6, h19, h20, h26]; done) | (simp [h6, h19, h20, h26]; done) | (simp only [h3, h5, Bool.true_and, Bool.and_true, Bool.false_and, Bool.and_false, Bool.true_or, Bool.or_true, Bool.false_or, Bool.or_false, Bool.not_true, Bool.not_false]; simp [h6, h19, h20, h26]; omega)
        rw [e]
        first | done | rfl
       ·refine Bf h26 ?_
        refine Au ?_
        refine Ac ((decide (p.fType = 13))) (fun h27 => ?_) (fun h27 => ?_)
        ·refine A0 h27 ?_
         refine A0 h27 ?_
         refine Aj rfl ?_
         have e : Ag p = true := by
          clear s0 s2 s4
          try simp only [decide_eq_false_iff_not, decide_eq_true_eq] at h6 h19 h20 h26 h27
          unfold Ag Br
          first | (simp only [h3, h5, Bool.true_and, Bool.and_true, Bool.false_and, Bool.and_false, Bool.true_or, Bool.or_true, Bool.false_or, Bool.or_false, Bool.not_true, Bool.not_false]; done) | (simp only [h3, h5, Bool.true_and, Bool.and_true, Bool.false_and, Bool.and_false, Bool.true_or, Bool.or_true, Bool.false_or, Bool.or_false, Bool.not_true, Bool.not_false]; simp [h6, h19, h20, h26, h27]; done) | (simp [h6, h19, h20, h26, h27]; done) | (simp only [h3, h5, Bool.true_and, Bool.and_true, Bool.false_and, Bool.and_false, Bool.true_or, Bool.or_true, Bool.false_or, Bool.or_false, Bool.not_true, Bool.not_false]; simp [h6, h19, h20, h26, h27]; omega)
         rw [e]
         first | done | rfl
        ·refine Bf h27 ?_
         refine Au ?_
         refine Ac ((decide (p.fType = 14))) (fun h28 => ?_) (fun h28 => ?_)
         ·refine A0 h28 ?_
          refine Aj rfl ?_
          have e : Ag p = true := by
           clear s0 s2 s4
           try simp only [decide_eq_false_iff_not, decide_eq_true_eq] at h6 h19 h20 h26 h27 h28
           unfold Ag Br
           first | (simp only [h3, h5, Bool.true_and, Bool.and_true, Bool.false_and, Bool.and_false, Bool.true_or, Bool.or_true, Bool.false_or, Bool.or_false, Bool.not_true, Bool.not_false]; done) | (simp only [h3, h5, Bool.true_and, Bool.and_true, Bool.false_and, Bool.and_false, Bool.true_or, Bool.or_true, Bool.false_or, Bool.or_false, Bool.not_true, Bool.not_false]; simp [h6, h19, h20, h26, h27, h28]; done) | (simp [h6, h19, h20, h26, h27, h28]; done) | (simp only [h3, h5, Bool.true_and, Bool.and_true, Bool.false_and, Bool.and_false, Bool.true_or, Bool.or_true, Bool.false_or, Bool.or_false, Bool.not_true, Bool.not_false]; simp [h6, h19, h20, h26, h27, h28]; omega)
          rw [e]
          first | done | rfl
         ·refine Bf h28 ?_
          refine Au ?_
          refine Ac ((decide (p.fType = 8))) (fun h29 => ?_) (fun h29 => ?_)
          ·refine A0 h29 ?_
           have hv : Ag p = (p.fWants.all Bd && (A5 p.fId 1 65535 && A5 ((p.fWants.length : Nat) : Int) 1 4)) := by
            clear s0 s2 s4
            try simp only [decide_eq_false_iff_not, decide_eq_true_eq] at h6 h19 h20 h26 h27 h28 h29
            unfold Ag Br
            first | (simp only [h3, h5, Bool.true_and, Bool.and_true, Bool.false_and, Bool.and_false, Bool.true_or, Bool.or_true, Bool.false_or, Bool.or_false, Bool.not_true, Bool.not_false]; done) | (simp only [h3, h5, Bool.true_and, Bool.and_true, Bool.false_and, Bool.and_false, Bool.true_or, Bool.or_true, Bool.false_or, Bool.or_false, Bool.not_true, Bool.not_false]; simp [h6, h19, h20, h26, h27, h28, h29]; done) | (simp [h6, h19, h20, h26, h27, h28, h29]; done) | (simp only [h3, h5, Bool.true_and, Bool.and_true, Bool.false_and, Bool.and_false, Bool.true_or, Bool.or_true, Bool.false_or, Bool.or_false, Bool.not_true, Bool.not_false]; simp [h6, h19, h20, h26, h27, h28, h29]; omega)
           rw [hv]
           exact M0 n hn p hp h3 h5 h6 h19 h20 h26 h27 h28 h29  p.fWants [] _ 0 i1 _ rfl rfl (by omega) s4
          ·refine Bf h29 ?_
           refine Au ?_
           refine Ac ((decide (p.fType = 9))) (fun h30 => ?_) (fun h30 => ?_)
           ·refine A0 h30 ?_
            have hv : Ag p = (p.fCodes.all A9 && (A5 p.fId 1 65535 && A5 ((p.fCodes.length : Nat) : Int) 1 4)) := by
             clear s0 s2 s4
             try simp only [decide_eq_false_iff_not, decide_eq_true_eq] at h6 h19 h20 h26 h27 h28 h29 h30
             unfold Ag Br
             first | (simp only [h3, h5, Bool.true_and, Bool.and_true, Bool.false_and, Bool.and_false, Bool.true_or, Bool.or_true, Bool.false_or, Bool.or_false, Bool.not_true, Bool.not_false]; done) | (simp only [h3, h5, Bool.true_and, Bool.and_true, Bool.false_and, Bool.and_false, Bool.true_or, Bool.or_true, Bool.false_or, Bool.or_false, Bool.not_true, Bool.not_false]; simp [h6, h19, h20, h26, h27, h28, h29, h30]; done) | (simp [h6, h19, h20, h26, h27, h28, h29, h30]; done) | (simp only [h3, h5, Bool.true_and, Bool.and_true, Bool.false_and, Bool.and_false, Bool.true_or, Bool.or_true, Bool.false_or, Bool.or_false, Bool.not_true, Bool.not_false]; simp [h6, h19, h20, h26, h27, h28, h29, h30]; omega)
            rw [hv]
            exact J9 n hn p hp h3 h5 h6 h19 h20 h26 h27 h28 h29 h30  p.fCodes [] _ 0 i1 _ rfl rfl (by omega) s4
           ·refine Bf h30 ?_
            refine Au ?_
            refine Ac ((decide (p.fType = 10))) (fun h31 => ?_) (fun h31 => ?_)
            ·refine A0 h31 ?_
             have hv : Ag p = (p.fNames.all Bm && (A5 p.fId 1 65535 && A5 ((p.fNames.length : Nat) : Int) 1 4)) := by
              clear s0 s2 s4
              try simp only [decide_eq_false_iff_not, decide_eq_true_eq] at h6 h19 h20 h26 h27 h28 h29 h30 h31
              unfold Ag Br
              first | (simp only [h3, h5, Bool.true_and, Bool.and_true, Bool.false_and, Bool.and_false, Bool.true_or, Bool.or_true, Bool.false_or, Bool.or_false, Bool.not_true, Bool.not_false]; done) | (simp only [h3, h5, Bool.true_and, Bool.and_true, Bool.false_and, Bool.and_false, Bool.true_or, Bool.or_true, Bool.false_or, Bool.or_false, Bool.not_true, Bool.not_false]; simp [h6, h19, h20, h26, h27, h28, h29, h30, h31]; done) | (simp [h6, h19, h20, h26, h27, h28, h29, h30, h31]; done) | (simp only [h3, h5, Bool.true_and, Bool.and_true, Bool.false_and, Bool.and_false, Bool.true_or, Bool.or_true, Bool.false_or, Bool.or_false, Bool.not_true, Bool.not_false]; simp [h6, h19, h20, h26, h27, h28, h29, h30, h31]; omega)
             rw [hv]
             exact M1 n hn p hp h3 h5 h6 h19 h20 h26 h27 h28 h29 h30 h31  p.fNames [] _ 0 i1 _ rfl rfl (by omega) s4
            ·refine Bf h31 ?_
             refine Aj rfl ?_
             have e : Ag p = (A5 p.fId 1 65535) := by
              clear s0 s2 s4
              try simp only [decide_eq_false_iff_not, decide_eq_true_eq] at h6 h19 h20 h26 h27 h28 h29 h30 h31
              unfold Ag Br
              first | (simp only [h3, h5, Bool.true_and, Bool.and_true, Bool.false_and, Bool.and_false, Bool.true_or, Bool.or_true, Bool.false_or, Bool.or_false, Bool.not_true, Bool.not_false]; done) | (simp only [h3, h5, Bool.true_and, Bool.and_true, Bool.false_and, Bool.and_false, Bool.true_or, Bool.or_true, Bool.false_or, Bool.or_false, Bool.not_true, Bool.not_false]; simp [h6, h19, h20, h26, h27, h28, h29, h30, h31]; done) | (simp [h6, h19, h20, h26, h27, h28, h29, h30, h31]; done) | (simp only [h3, h5, Bool.true_and, Bool.and_true, Bool.false_and, Bool.and_false, Bool.true_or, Bool.or_true, Bool.false_or, Bool.or_false, Bool.not_true, Bool.not_false]; simp [h6, h19, h20, h26, h27, h28, h29, h30, h31]; omega)
             rw [e]
             first | done | rfl
   ·refine A0 (nT h5) ?_
    refine Aj rfl ?_
    have e : Ag p = false := by
     clear s0 s2 s4
     unfold Ag Br
     first | (simp only [h3, h5, Bool.true_and, Bool.and_true, Bool.false_and, Bool.and_false, Bool.true_or, Bool.or_true, Bool.false_or, Bool.or_false, Bool.not_true, Bool.not_false]; done) | (simp only [h3, h5, Bool.true_and, Bool.and_true, Bool.false_and, Bool.and_false, Bool.true_or, Bool.or_true, Bool.false_or, Bool.or_false, Bool.not_true, Bool.not_false]; simp; done) | (simp; done) | (simp only [h3, h5, Bool.true_and, Bool.and_true, Bool.false_and, Bool.and_false, Bool.true_or, Bool.or_true, Bool.false_or, Bool.or_false, Bool.not_true, Bool.not_false]; simp; omega)
    rw [e]
    first | done | rfl
  ·refine Ae (nF h3) ?_
   refine AdG rfl rfl ?_
   refine Ql (n + 8) (by omega) p s2 fun Rs32 H hRs32 s32 => ?_
   refine Ae (nF h3) ?_
   refine Bo s32 (.here) rfl ?_
   refine Ae (nF h3) ?_
   refine Ah (v := (.bool (A3 p (Aq true p)))) s32 rfl (.aggF (B4 _) (.agg (hRs32 _) .nil)) (Fy (n + 7) (by omega) _ p (Aq true p) hp.l1 hp.l2 hp.l3) ?_
   refine Ae (nF h3) ?_
   refine C5 ?_
   refine An (nF h3) ?_
   refine Ac ((A3 p (Aq true p))) (fun h33 => ?_) (fun h33 => ?_)
   ·refine Bf (nF h33) ?_
    refine Ad (o' := 4) rfl ?_
    refine Al (c := .sc (.int .i64 p.fId)) s32 (.here) rfl ?_
    refine Ah (v := (.bool (A5 p.fId 1 65535))) s32 rfl (.cons .sc (.cons .sc (.cons .sc .nil))) (Dh (n + 8) _ p.fId 1 65535) ?_
    refine Ad (o' := 0) rfl ?_
    refine Al (c := .sc (.int .i64 p.fType)) s32 (.here) rfl ?_
    refine Au ?_
    refine Ac ((decide (p.fType = 1))) (fun h34 => ?_) (fun h34 => ?_)
    ·refine A0 h34 ?_
     refine Ad (o' := 11) rfl ?_
     refine Al (c := .sc (.bool p.fHasWill)) s32 (.here) rfl ?_
     refine Ac (p.fHasWill) (fun h35 => ?_) (fun h35 => ?_)
     ·refine Ae h35 ?_
      refine Ad (o' := 12) rfl ?_
      refine Ae h35 ?_
      refine Al (c := .sc (.string p.fWTopic)) s32 (.here) rfl ?_
      refine Ae h35 ?_
      refine Ah (v := (.bool (B5 p.fWTopic))) s32 rfl (.cons .sc .nil) (F8 (n + 4) (by omega) _ p.fWTopic hp.t3) ?_
      refine Ae h35 ?_
      refine C5 ?_
      refine Ae h35 ?_
      refine Ac ((B5 p.fWTopic)) (fun h36 => ?_) (fun h36 => ?_)
      ·refine Ae (nF h36) ?_
       refine Ad (o' := 13) rfl ?_
       refine Ae (nF h36) ?_
       refine Al (c := Ax p.fWBody) s32 (.here) rfl ?_
       refine Ae (nF h36) ?_
       refine Cq ?_
       refine Ae (nF h36) ?_
       refine Pt ?_
       refine Ae h35 ?_
       refine An (nF h36) ?_
       refine Ae h35 ?_
       refine Ac ((decide (40 < ((p.fWBody.size : Nat) : Int)))) (fun h37 => ?_) (fun h37 => ?_)
       ·refine Aa h37 ?_
        refine Aa h37 ?_
        refine Aa h37 ?_
        refine Aa h37 ?_
        refine Ae h35 ?_
        refine Bj h37 ?_
        refine Bj h35 ?_
        refine A0 rfl ?_
        refine Aj rfl ?_
        have e : Ag p = false := by
         clear s0 s2 s32
         try simp only [decide_eq_false_iff_not, decide_eq_true_eq] at h34 h37
         unfold Ag Br
         first | (simp only [h3, h33, h35, h36, Bool.true_and, Bool.and_true, Bool.false_and, Bool.and_false, Bool.true_or, Bool.or_true, Bool.false_or, Bool.or_false, Bool.not_true, Bool.not_false]; done) | (simp only [h3, h33, h35, h36, Bool.true_and, Bool.and_true, Bool.false_and, Bool.and_false, Bool.true_or, Bool.or_true, Bool.false_or, Bool.or_false, Bool.not_true, Bool.not_false]; simp [h34, h37]; done) | (simp [h34, h37]; done) | (simp only [h3, h33, h35, h36, Bool.true_and, Bool.and_true, Bool.false_and, Bool.and_false, Bool.true_or, Bool.or_true, Bool.false_or, Bool.or_false, Bool.not_true, Bool.not_false]; simp [h34, h37]; omega)
        rw [e]
        first | done | rfl
       ·refine Ae h37 ?_
        refine Ad (o' := 14) rfl ?_
        refine Ae h37 ?_
        refine Al (c := .sc (.int .i64 p.fWQos)) s32 (.here) rfl ?_
        refine Ae h37 ?_
        refine Ah (v := (.bool (A5 p.fWQos 0 2))) s32 rfl (.cons .sc (.cons .sc (.cons .sc .nil))) (Dh (n + 8) _ p.fWQos 0 2) ?_
        refine Ae h37 ?_
        refine C5 ?_
        refine Ae h35 ?_
        refine An h37 ?_
        refine Bj h35 ?_
        refine Ac ((A5 p.fWQos 0 2)) (fun h38 => ?_) (fun h38 => ?_)
        ·refine Bf (nF h38) ?_
         refine Ad (o' := 8) rfl ?_
         refine Al (c := .sc (.int .i64 p.fLevel)) s32 (.here) rfl ?_
         refine Ah (v := (.bool (A5 p.fLevel 0 255))) s32 rfl (.cons .sc (.cons .sc (.cons .sc .nil))) (Dh (n + 8) _ p.fLevel 0 255) ?_
         refine Ac ((A5 p.fLevel 0 255)) (fun h39 => ?_) (fun h39 => ?_)
         ·refine Ae h39 ?_
          refine Ad (o' := 7) rfl ?_
          refine Ae h39 ?_
          refine Al (c := .sc (.string p.fClient)) s32 (.here) rfl ?_
          refine Ae h39 ?_
          refine Ah (v := (.bool (Bi p.fClient))) s32 rfl (.cons .sc .nil) (Ef (n + 5) (by omega) _ p.fClient) ?_
          refine Bj h39 ?_
          refine Ac ((Bi p.fClient)) (fun h40 => ?_) (fun h40 => ?_)
          ·refine Ae h40 ?_
           refine Ad (o' := 10) rfl ?_
           refine Ae h40 ?_
           refine Al (c := .sc (.int .i64 p.fKeep)) s32 (.here) rfl ?_
           refine Ae h40 ?_
           refine Ah (v := (.bool (A5 p.fKeep 0 65535))) s32 rfl (.cons .sc (.cons .sc (.cons .sc .nil))) (Dh (n + 8) _ p.fKeep 0 65535) ?_
           refine Bj h40 ?_
           refine Ac ((A5 p.fKeep 0 65535)) (fun h41 => ?_) (fun h41 => ?_)
           ·refine Ae h41 ?_
            refine Ad (o' := 17) rfl ?_
            refine Ae h41 ?_
            refine Al (c := .sc (.string p.fUser)) s32 (.here) rfl ?_
            refine Ae h41 ?_
            refine Ah (v := (.bool (Bi p.fUser))) s32 rfl (.cons .sc .nil) (Ef (n + 5) (by omega) _ p.fUser) ?_
            refine Bj h41 ?_
            refine Ac ((Bi p.fUser)) (fun h42 => ?_) (fun h42 => ?_)
            ·refine Ae h42 ?_
             refine Ad (o' := 19) rfl ?_
             refine Ae h42 ?_
             refine Al (c := Ax p.fPass) s32 (.here) rfl ?_
             refine Ae h42 ?_
             refine Cq ?_
             refine Ae h42 ?_
             refine Hk ?_
             refine Bj h42 ?_
             refine Aj rfl ?_
             have e : Ag p = (decide (((p.fPass.size : Nat) : Int) ≤ 60)) := by
              clear s0 s2 s32
              try simp only [decide_eq_false_iff_not, decide_eq_true_eq] at h34 h37
              unfold Ag Br
              first | (simp only [h3, h33, h35, h36, h38, h39, h40, h41, h42, Bool.true_and, Bool.and_true, Bool.false_and, Bool.and_false, Bool.true_or, Bool.or_true, Bool.false_or, Bool.or_false, Bool.not_true, Bool.not_false]; done) | (simp only [h3, h33, h35, h36, h38, h39, h40, h41, h42, Bool.true_and, Bool.and_true, Bool.false_and, Bool.and_false, Bool.true_or, Bool.or_true, Bool.false_or, Bool.or_false, Bool.not_true, Bool.not_false]; simp [h34, h37]; done) | (simp [h34, h37]; done) | (simp only [h3, h33, h35, h36, h38, h39, h40, h41, h42, Bool.true_and, Bool.and_true, Bool.false_and, Bool.and_false, Bool.true_or, Bool.or_true, Bool.false_or, Bool.or_false, Bool.not_true, Bool.not_false]; simp [h34, h37]; omega)
             rw [e]
             first | done | rfl
            ·refine Aa h42 ?_
             refine Aa h42 ?_
             refine Aa h42 ?_
             refine Aa h42 ?_
             refine An h42 ?_
             refine Aj rfl ?_
             have e : Ag p = false := by
              clear s0 s2 s32
              try simp only [decide_eq_false_iff_not, decide_eq_true_eq] at h34 h37
              unfold Ag Br
              first | (simp only [h3, h33, h35, h36, h38, h39, h40, h41, h42, Bool.true_and, Bool.and_true, Bool.false_and, Bool.and_false, Bool.true_or, Bool.or_true, Bool.false_or, Bool.or_false, Bool.not_true, Bool.not_false]; done) | (simp only [h3, h33, h35, h36, h38, h39, h40, h41, h42, Bool.true_and, Bool.and_true, Bool.false_and, Bool.and_false, Bool.true_or, Bool.or_true, Bool.false_or, Bool.or_false, Bool.not_true, Bool.not_false]; simp [h34, h37]; done) | (simp [h34, h37]; done) | (simp only [h3, h33, h35, h36, h38, h39, h40, h41, h42, Bool.true_and, Bool.and_true, Bool.false_and, Bool.and_false, Bool.true_or, Bool.or_true, Bool.false_or, Bool.or_false, Bool.not_true, Bool.not_false]; simp [h34, h37]; omega)
             rw [e]
             first | done | rfl
           ·refine Aa h41 ?_
            refine Aa h41 ?_
            refine Aa h41 ?_
            refine An h41 ?_
            refine Aa rfl ?_
            refine Aa rfl ?_
            refine Aa rfl ?_
            refine Aa rfl ?_
            refine An rfl ?_
            refine Aj rfl ?_
            have e : Ag p = false := by
             clear s0 s2 s32
             try simp only [decide_eq_false_iff_not, decide_eq_true_eq] at h34 h37
             unfold Ag Br
             first | (simp only [h3, h33, h35, h36, h38, h39, h40, h41, Bool.true_and, Bool.and_true, Bool.false_and, Bool.and_false, Bool.true_or, Bool.or_true, Bool.false_or, Bool.or_false, Bool.not_true, Bool.not_false]; done) | (simp only [h3, h33, h35, h36, h38, h39, h40, h41, Bool.true_and, Bool.and_true, Bool.false_and, Bool.and_false, Bool.true_or, Bool.or_true, Bool.false_or, Bool.or_false, Bool.not_true, Bool.not_false]; simp [h34, h37]; done) | (simp [h34, h37]; done) | (simp only [h3, h33, h35, h36, h38, h39, h40, h41, Bool.true_and, Bool.and_true, Bool.false_and, Bool.and_false, Bool.true_or, Bool.or_true, Bool.false_or, Bool.or_false, Bool.not_true, Bool.not_false]; simp [h34, h37]; omega)
            rw [e]
            first | done | rfl
          ·refine Aa h40 ?_
           refine Aa h40 ?_
           refine Aa h40 ?_
           refine An h40 ?_
           refine Aa rfl ?_
           refine Aa rfl ?_
           refine Aa rfl ?_
           refine An rfl ?_
           refine Aa rfl ?_
           refine Aa rfl ?_
           refine Aa rfl ?_
           refine Aa rfl ?_
           refine An rfl ?_
           refine Aj rfl ?_
           have e : Ag p = false := by
            clear s0 s2 s32
            try simp only [decide_eq_false_iff_not, decide_eq_true_eq] at h34 h37
            unfold Ag Br
            first | (simp only [h3, h33, h35, h36, h38, h39, h40, Bool.true_and, Bool.and_true, Bool.false_and, Bool.and_false, Bool.true_or, Bool.or_true, Bool.false_or, Bool.or_false, Bool.not_true, Bool.not_false]; done) | (simp only [h3, h33, h35, h36, h38, h39, h40, Bool.true_and, Bool.and_true, Bool.false_and, Bool.and_false, Bool.true_or, Bool.or_true, Bool.false_or, Bool.or_false, Bool.not_true, Bool.not_false]; simp [h34, h37]; done) | (simp [h34, h37]; done) | (simp only [h3, h33, h35, h36, h38, h39, h40, Bool.true_and, Bool.and_true, Bool.false_and, Bool.and_false, Bool.true_or, Bool.or_true, Bool.false_or, Bool.or_false, Bool.not_true, Bool.not_false]; simp [h34, h37]; omega)
           rw [e]
           first | done | rfl
         ·refine Aa h39 ?_
          refine Aa h39 ?_
          refine Aa h39 ?_
          refine An h39 ?_
          refine Aa rfl ?_
          refine Aa rfl ?_
          refine Aa rfl ?_
          refine An rfl ?_
          refine Aa rfl ?_
          refine Aa rfl ?_
          refine Aa rfl ?_
          refine An rfl ?_
          refine Aa rfl ?_
          refine Aa rfl ?_
          refine Aa rfl ?_
          refine Aa rfl ?_
          refine An rfl ?_
          refine Aj rfl ?_
          have e : Ag p = false := by
           clear s0 s2 s32
           try simp only [decide_eq_false_iff_not, decide_eq_true_eq] at h34 h37
           unfold Ag Br
           first | (simp only [h3, h33, h35, h36, h38, h39, Bool.true_and, Bool.and_true, Bool.false_and, Bool.and_false, Bool.true_or, Bool.or_true, Bool.false_or, Bool.or_false, Bool.not_true, Bool.not_false]; done) | (simp only [h3, h33, h35, h36, h38, h39, Bool.true_and, Bool.and_true, Bool.false_and, Bool.and_false, Bool.true_or, Bool.or_true, Bool.false_or, Bool.or_false, Bool.not_true, Bool.not_false]; simp [h34, h37]; done) | (simp [h34, h37]; done) | (simp only [h3, h33, h35, h36, h38, h39, Bool.true_and, Bool.and_true, Bool.false_and, Bool.and_false, Bool.true_or, Bool.or_true, Bool.false_or, Bool.or_false, Bool.not_true, Bool.not_false]; simp [h34, h37]; omega)
          rw [e]
          first | done | rfl
        ·refine A0 (nT h38) ?_
         refine Aj rfl ?_
         have e : Ag p = false := by
          clear s0 s2 s32
          try simp only [decide_eq_false_iff_not, decide_eq_true_eq] at h34 h37
          unfold Ag Br
          first | (simp only [h3, h33, h35, h36, h38, Bool.true_and, Bool.and_true, Bool.false_and, Bool.and_false, Bool.true_or, Bool.or_true, Bool.false_or, Bool.or_false, Bool.not_true, Bool.not_false]; done) | (simp only [h3, h33, h35, h36, h38, Bool.true_and, Bool.and_true, Bool.false_and, Bool.and_false, Bool.true_or, Bool.or_true, Bool.false_or, Bool.or_false, Bool.not_true, Bool.not_false]; simp [h34, h37]; done) | (simp [h34, h37]; done) | (simp only [h3, h33, h35, h36, h38, Bool.true_and, Bool.and_true, Bool.false_and, Bool.and_false, Bool.true_or, Bool.or_true, Bool.false_or, Bool.or_false, Bool.not_true, Bool.not_false]; simp [h34, h37]; omega)
         rw [e]
         first | done | rfl
      ·refine Aa (nT h36) ?_
       refine Aa (nT h36) ?_
       refine Aa (nT h36) ?_
       refine Aa (nT h36) ?_
       refine Ae h35 ?_
       refine Bj (nT h36) ?_
       refine Ae h35 ?_
       refine Aa rfl ?_
       refine Aa rfl ?_
       refine Aa rfl ?_
       refine Aa rfl ?_
       refine Ae h35 ?_
       refine Bj rfl ?_
       refine Bj h35 ?_
       refine A0 rfl ?_
       refine Aj rfl ?_
       have e : Ag p = false := by
        clear s0 s2 s32
        try simp only [decide_eq_false_iff_not, decide_eq_true_eq] at h34
        unfold Ag Br
        first | (simp only [h3, h33, h35, h36, Bool.true_and, Bool.and_true, Bool.false_and, Bool.and_false, Bool.true_or, Bool.or_true, Bool.false_or, Bool.or_false, Bool.not_true, Bool.not_false]; done) | (simp only [h3, h33, h35, h36, Bool.true_and, Bool.and_true, Bool.false_and, Bool.and_false, Bool.true_or, Bool.or_true, Bool.false_or, Bool.or_false, Bool.not_true, Bool.not_false]; simp [h34]; done) | (simp [h34]; done) | (simp only [h3, h33, h35, h36, Bool.true_and, Bool.and_true, Bool.false_and, Bool.and_false, Bool.true_or, Bool.or_true, Bool.false_or, Bool.or_false, Bool.not_true, Bool.not_false]; simp [h34]; omega)
       rw [e]
       first | done | rfl
     ·refine Aa h35 ?_
      refine Aa h35 ?_
      refine Aa h35 ?_
      refine Aa h35 ?_
      refine Aa h35 ?_
      refine Bt ?_
      refine Bt ?_
      refine Bt ?_
      refine Bt ?_
      refine Aa h35 ?_
      refine Aa h35 ?_
      refine Bt ?_
      refine Bt ?_
      refine Bt ?_
      refine Bt ?_
      refine Aa h35 ?_
      refine An h35 ?_
      refine Bf rfl ?_
      refine Ad (o' := 8) rfl ?_
      refine Al (c := .sc (.int .i64 p.fLevel)) s32 (.here) rfl ?_
      refine Ah (v := (.bool (A5 p.fLevel 0 255))) s32 rfl (.cons .sc (.cons .sc (.cons .sc .nil))) (Dh (n + 8) _ p.fLevel 0 255) ?_
      refine Ac ((A5 p.fLevel 0 255)) (fun h43 => ?_) (fun h43 => ?_)
      ·refine Ae h43 ?_
       refine Ad (o' := 7) rfl ?_
       refine Ae h43 ?_
       refine Al (c := .sc (.string p.fClient)) s32 (.here) rfl ?_
       refine Ae h43 ?_
       refine Ah (v := (.bool (Bi p.fClient))) s32 rfl (.cons .sc .nil) (Ef (n + 5) (by omega) _ p.fClient) ?_
       refine Bj h43 ?_
       refine Ac ((Bi p.fClient)) (fun h44 => ?_) (fun h44 => ?_)
       ·refine Ae h44 ?_
        refine Ad (o' := 10) rfl ?_
        refine Ae h44 ?_
        refine Al (c := .sc (.int .i64 p.fKeep)) s32 (.here) rfl ?_
        refine Ae h44 ?_
        refine Ah (v := (.bool (A5 p.fKeep 0 65535))) s32 rfl (.cons .sc (.cons .sc (.cons .sc .nil))) (Dh (n + 8) _ p.fKeep 0 65535) ?_
        refine Bj h44 ?_
        refine Ac ((A5 p.fKeep 0 65535)) (fun h45 => ?_) (fun h45 => ?_)
        ·refine Ae h45 ?_
         refine Ad (o' := 17) rfl ?_
         refine Ae h45 ?_
         refine Al (c := .sc (.string p.fUser)) s32 (.here) rfl ?_
         refine Ae h45 ?_
         refine Ah (v := (.bool (Bi p.fUser))) s32 rfl (.cons .sc .nil) (Ef (n + 5) (by omega) _ p.fUser) ?_
         refine Bj h45 ?_
         refine Ac ((Bi p.fUser)) (fun h46 => ?_) (fun h46 => ?_)
         ·refine Ae h46 ?_
          refine Ad (o' := 19) rfl ?_
          refine Ae h46 ?_
          refine Al (c := Ax p.fPass) s32 (.here) rfl ?_
          refine Ae h46 ?_
          refine Cq ?_
          refine Ae h46 ?_
          refine Hk ?_
          refine Bj h46 ?_
          refine Aj rfl ?_
          have e : Ag p = (decide (((p.fPass.size : Nat) : Int) ≤ 60)) := by
           clear s0 s2 s32
           try simp only [decide_eq_false_iff_not, decide_eq_true_eq] at h34
           unfold Ag Br
           first | (simp only [h3, h33, h35, h43, h44, h45, h46, Bool.true_and, Bool.and_true, Bool.false_and, Bool.and_false, Bool.true_or, Bool.or_true, Bool.false_or, Bool.or_false, Bool.not_true, Bool.not_false]; done) | (simp only [h3, h33, h35, h43, h44, h45, h46, Bool.true_and, Bool.and_true, Bool.false_and, Bool.and_false, Bool.true_or, Bool.or_true, Bool.false_or, Bool.or_false, Bool.not_true, Bool.not_false]; simp [h34]; done) | (simp [h34]; done) | (simp only [h3, h33, h35, h43, h44, h45, h46, Bool.true_and, Bool.and_true, Bool.false_and, Bool.and_false, Bool.true_or, Bool.or_true, Bool.false_or, Bool.or_false, Bool.not_true, Bool.not_false]; simp [h34]; omega)
          rw [e]
          first | done | rfl
         ·refine Aa h46 ?_
          refine Aa h46 ?_
          refine Aa h46 ?_
          refine Aa h46 ?_
          refine An h46 ?_
          refine Aj rfl ?_
          have e : Ag p = false := by
           clear s0 s2 s32
           try simp only [decide_eq_false_iff_not, decide_eq_true_eq] at h34
           unfold Ag Br
           first | (simp only [h3, h33, h35, h43, h44, h45, h46, Bool.true_and, Bool.and_true, Bool.false_and, Bool.and_false, Bool.true_or, Bool.or_true, Bool.false_or, Bool.or_false, Bool.not_true, Bool.not_false]; done) | (simp only [h3, h33, h35, h43, h44, h45, h46, Bool.true_and, Bool.and_true, Bool.false_and, Bool.and_false, Bool.true_or, Bool.or_true, Bool.false_or, Bool.or_false, Bool.not_true, Bool.not_false]; simp [h34]; done) | (simp [h34]; done) | (simp only [h3, h33, h35, h43, h44, h45, h46, Bool.true_and, Bool.and_true, Bool.false_and, Bool.and_false, Bool.true_or, Bool.or_true, Bool.false_or, Bool.or_false, Bool.not_true, Bool.not_false]; simp [h34]; omega)
          rw [e]
          first | done | rfl
        ·refine Aa h45 ?_
         refine Aa h45 ?_
         refine Aa h45 ?_
         refine An h45 ?_
         refine Aa rfl ?_
         refine Aa rfl ?_
         refine Aa rfl ?_
         refine Aa rfl ?_
         refine An rfl ?_
         refine Aj rfl ?_
         have e : Ag p = false := by
          clear s0 s2 s32
          try simp only [decide_eq_false_iff_not, decide_eq_true_eq] at h34
          unfold Ag Br
          first | (simp only [h3, h33, h35, h43, h44, h45, Bool.true_and, Bool.and_true, Bool.false_and, Bool.and_false, Bool.true_or, Bool.or_true, Bool.false_or, Bool.or_false, Bool.not_true, Bool.not_false]; done) | (simp only [h3, h33, h35, h43, h44, h45, Bool.true_and, Bool.and_true, Bool.false_and, Bool.and_false, Bool.true_or, Bool.or_true, Bool.false_or, Bool.or_false, Bool.not_true, Bool.not_false]; simp [h34]; done) | (simp [h34]; done) | (simp only [h3, h33, h35, h43, h44, h45, Bool.true_and, Bool.and_true, Bool.false_and, Bool.and_false, Bool.true_or, Bool.or_true, Bool.false_or, Bool.or_false, Bool.not_true, Bool.not_false]; simp [h34]; omega)
         rw [e]
         first | done | rfl
       ·refine Aa h44 ?_
        refine Aa h44 ?_
        refine Aa h44 ?_
        refine An h44 ?_
        refine Aa rfl ?_
        refine Aa rfl ?_
        refine Aa rfl ?_
        refine An rfl ?_
        refine Aa rfl ?_
        refine Aa rfl ?_
        refine Aa rfl ?_
        refine Aa rfl ?_
        refine An rfl ?_
        refine Aj rfl ?_
        have e : Ag p = false := by
         clear s0 s2 s32
         try simp only [decide_eq_false_iff_not, decide_eq_true_eq] at h34
         unfold Ag Br
         first | (simp only [h3, h33, h35, h43, h44, Bool.true_and, Bool.and_true, Bool.false_and, Bool.and_false, Bool.true_or, Bool.or_true, Bool.false_or, Bool.or_false, Bool.not_true, Bool.not_false]; done) | (simp only [h3, h33, h35, h43, h44, Bool.true_and, Bool.and_true, Bool.false_and, Bool.and_false, Bool.true_or, Bool.or_true, Bool.false_or, Bool.or_false, Bool.not_true, Bool.not_false]; simp [h34]; done) | (simp [h34]; done) | (simp only [h3, h33, h35, h43, h44, Bool.true_and, Bool.and_true, Bool.false_and, Bool.and_false, Bool.true_or, Bool.or_true, Bool.false_or, Bool.or_false, Bool.not_true, Bool.not_false]; simp [h34]; omega)
        rw [e]
        first | done | rfl
      ·refine Aa h43 ?_
       refine Aa h43 ?_
       refine Aa h43 ?_
       refine An h43 ?_
       refine Aa rfl ?_
       refine Aa rfl ?_
       refine Aa rfl ?_
       refine An rfl ?_
       refine Aa rfl ?_
       refine Aa rfl ?_
       refine Aa rfl ?_
       refine An rfl ?_
       refine Aa rfl ?_
       refine Aa rfl ?_
       refine Aa rfl ?_
       refine Aa rfl ?_
       refine An rfl ?_
       refine Aj rfl ?_
       have e : Ag p = false := by
        clear s0 s2 s32
        try simp only [decide_eq_false_iff_not, decide_eq_true_eq] at h34
        unfold Ag Br
        first | (simp only [h3, h33, h35, h43, Bool.true_and, Bool.and_true, Bool.false_and, Bool.and_false, Bool.true_or, Bool.or_true, Bool.false_or, Bool.or_false, Bool.not_true, Bool.not_false]; done) | (simp only [h3, h33, h35, h43, Bool.true_and, Bool.and_true, Bool.false_and, Bool.and_false, Bool.true_or, Bool.or_true, Bool.false_or, Bool.or_false, Bool.not_true, Bool.not_false]; simp [h34]; done) | (simp [h34]; done) | (simp only [h3, h33, h35, h43, Bool.true_and, Bool.and_true, Bool.false_and, Bool.and_false, Bool.true_or, Bool.or_true, Bool.false_or, Bool.or_false, Bool.not_true, Bool.not_false]; simp [h34]; omega)
       rw [e]
       first | done | rfl
    ·refine Bf h34 ?_
     refine Au ?_
     refine Ac ((decide (p.fType = 2))) (fun h47 => ?_) (fun h47 => ?_)
     ·refine A0 h47 ?_
      refine Ad (o' := 20) rfl ?_
      refine Al (c := .sc (.int .i64 p.fCode)) s32 (.here) rfl ?_
      refine Ah (v := (.bool (A5 p.fCode 0 5))) s32 rfl (.cons .sc (.cons .sc (.cons .sc .nil))) (Dh (n + 8) _ p.fCode 0 5) ?_
      refine Aj rfl ?_
      have e : Ag p = (A5 p.fCode 0 5) := by
       clear s0 s2 s32
       try simp only [decide_eq_false_iff_not, decide_eq_true_eq] at h34 h47
       unfold Ag Br
       first | (simp only [h3, h33, Bool.true_and, Bool.and_true, Bool.false_and, Bool.and_false, Bool.true_or, Bool.or_true, Bool.false_or, Bool.or_false, Bool.not_true, Bool.not_false]; done) | (simp only [h3, h33, Bool.true_and, Bool.and_true, Bool.false_and, Bool.and_false, Bool.true_or, Bool.or_true, Bool.false_or, Bool.or_false, Bool.not_true, Bool.not_false]; simp [h34, h47]; done) | (simp [h34, h47]; done) | (simp only [h3, h33, Bool.true_and, Bool.and_true, Bool.false_and, Bool.and_false, Bool.true_or, Bool.or_true, Bool.false_or, Bool.or_false, Bool.not_true, Bool.not_false]; simp [h34, h47]; omega)
      rw [e]
      first | done | rfl
     ·refine Bf h47 ?_
      refine Au ?_
      refine Ac ((decide (p.fType = 3))) (fun h48 => ?_) (fun h48 => ?_)
      ·refine A0 h48 ?_
       refine Ad (o' := 2) rfl ?_
       refine Al (c := .sc (.int .i64 p.fQos)) s32 (.here) rfl ?_
       refine Ah (v := (.bool (A5 p.fQos 0 2))) s32 rfl (.cons .sc (.cons .sc (.cons .sc .nil))) (Dh (n + 8) _ p.fQos 0 2) ?_
       refine Ac ((A5 p.fQos 0 2)) (fun h49 => ?_) (fun h49 => ?_)
       ·refine Ae h49 ?_
        refine Ad (o' := 2) rfl ?_
        refine Ae h49 ?_
        refine Al (c := .sc (.int .i64 p.fQos)) s32 (.here) rfl ?_
        refine Ae h49 ?_
        refine Au ?_
        refine Ae h49 ?_
        refine Ac ((decide (p.fQos = 0))) (fun h50 => ?_) (fun h50 => ?_)
        ·refine Aa h50 ?_
         refine Ae h49 ?_
         refine Bj h50 ?_
         refine Bj h49 ?_
         refine Ae rfl ?_
         refine Ad (o' := 5) rfl ?_
         refine Ae rfl ?_
         refine Al (c := .sc (.string p.fTopic)) s32 (.here) rfl ?_
         refine Ae rfl ?_
         refine Ah (v := (.bool (B5 p.fTopic))) s32 rfl (.cons .sc .nil) (F8 (n + 4) (by omega) _ p.fTopic hp.t1) ?_
         refine Bj rfl ?_
         refine Ac ((B5 p.fTopic)) (fun h51 => ?_) (fun h51 => ?_)
         ·refine Ae h51 ?_
          refine Ad (o' := 6) rfl ?_
          refine Ae h51 ?_
          refine Al (c := Ax p.fBody) s32 (.here) rfl ?_
          refine Ae h51 ?_
          refine Cq ?_
          refine Ae h51 ?_
          refine Hk ?_
          refine Bj h51 ?_
          refine Aj rfl ?_
          have e : Ag p = (decide (((p.fBody.size : Nat) : Int) ≤ 40)) := by
           clear s0 s2 s32
           try simp only [decide_eq_false_iff_not, decide_eq_true_eq] at h34 h47 h48 h50
           unfold Ag Br
           first | (simp only [h3, h33, h49, h51, Bool.true_and, Bool.and_true, Bool.false_and, Bool.and_false, Bool.true_or, Bool.or_true, Bool.false_or, Bool.or_false, Bool.not_true, Bool.not_false]; done) | (simp only [h3, h33, h49, h51, Bool.true_and, Bool.and_true, Bool.false_and, Bool.and_false, Bool.true_or, Bool.or_true, Bool.false_or, Bool.or_false, Bool.not_true, Bool.not_false]; simp [h34, h47, h48, h50]; done) | (simp [h34, h47, h48, h50]; done) | (simp only [h3, h33, h49, h51, Bool.true_and, Bool.and_true, Bool.false_and, Bool.and_false, Bool.true_or, Bool.or_true, Bool.false_or, Bool.or_false, Bool.not_true, Bool.not_false]; simp [h34, h47, h48, h50]; omega)
          rw [e]
          first | done | rfl
         ·refine Aa h51 ?_
          refine Aa h51 ?_
          refine Aa h51 ?_
          refine Aa h51 ?_
          refine An h51 ?_
          refine Aj rfl ?_
          have e : Ag p = false := by
           clear s0 s2 s32
           try simp only [decide_eq_false_iff_not, decide_eq_true_eq] at h34 h47 h48 h50
           unfold Ag Br
           first | (simp only [h3, h33, h49, h51, Bool.true_and, Bool.and_true, Bool.false_and, Bool.and_false, Bool.true_or, Bool.or_true, Bool.false_or, Bool.or_false, Bool.not_true, Bool.not_false]; done) | (simp only [h3, h33, h49, h51, Bool.true_and, Bool.and_true, Bool.false_and, Bool.and_false, Bool.true_or, Bool.or_true, Bool.false_or, Bool.or_false, Bool.not_true, Bool.not_false]; simp [h34, h47, h48, h50]; done) | (simp [h34, h47, h48, h50]; done) | (simp only [h3, h33, h49, h51, Bool.true_and, Bool.and_true, Bool.false_and, Bool.and_false, Bool.true_or, Bool.or_true, Bool.false_or, Bool.or_false, Bool.not_true, Bool.not_false]; simp [h34, h47, h48, h50]; omega)
          rw [e]
          first | done | rfl
        ·refine Ae h50 ?_
         refine Ae h49 ?_
         refine An h50 ?_
         refine Bj h49 ?_
         refine Ac ((A5 p.fId 1 65535)) (fun h52 => ?_) (fun h52 => ?_)
         ·refine Ae h52 ?_
          refine Ad (o' := 5) rfl ?_
          refine Ae h52 ?_
          refine Al (c := .sc (.string p.fTopic)) s32 (.here) rfl ?_
          refine Ae h52 ?_
          refine Ah (v := (.bool (B5 p.fTopic))) s32 rfl (.cons .sc .nil) (F8 (n + 4) (by omega) _ p.fTopic hp.t1) ?_
          refine Bj h52 ?_
          refine Ac ((B5 p.fTopic)) (fun h53 => ?_) (fun h53 => ?_)
          ·refine Ae h53 ?_
           refine Ad (o' := 6) rfl ?_
           refine Ae h53 ?_
           refine Al (c := Ax p.fBody) s32 (.here) rfl ?_
           refine Ae h53 ?_
           refine Cq ?_
           refine Ae h53 ?_
           refine Hk ?_
           refine Bj h53 ?_
           refine Aj rfl ?_
           have e : Ag p = (decide (((p.fBody.size : Nat) : Int) ≤ 40)) := by
            clear s0 s2 s32
            try simp only [decide_eq_false_iff_not, decide_eq_true_eq] at h34 h47 h48 h50
            unfold Ag Br
            first | (simp only [h3, h33, h49, h52, h53, Bool.true_and, Bool.and_true, Bool.false_and, Bool.and_false, Bool.true_or, Bool.or_true, Bool.false_or, Bool.or_false, Bool.not_true, Bool.not_false]; done) | (simp only [h3, h33, h49, h52, h53, Bool.true_and, Bool.and_true, Bool.false_and, Bool.and_false, Bool.true_or, Bool.or_true, Bool.false_or, Bool.or_false, Bool.not_true, Bool.not_false]; simp [h34, h47, h48, h50]; done) | (simp [h34, h47, h48, h50]; done) | (simp only [h3, h33, h49, h52, h53, Bool.true_and, Bool.and_true, Bool.false_and, Bool.and_false, Bool.true_or, Bool.or_true, Bool.false_or, Bool.or_false, Bool.not_true, Bool.not_false]; simp [h34, h47, h48, h50]; omega)
           rw [e]
           first | done | rfl
          ·refine Aa h53 ?_
           refine Aa h53 ?_
           refine Aa h53 ?_
           refine Aa h53 ?_
           refine An h53 ?_
           refine Aj rfl ?_
           have e : Ag p = false := by
            clear s0 s2 s32
            try simp only [decide_eq_false_iff_not, decide_eq_true_eq] at h34 h47 h48 h50
            unfold Ag Br
            first | (simp only [h3, h33, h49, h52, h53, Bool.true_and, Bool.and_true, Bool.false_and, Bool.and_false, Bool.true_or, Bool.or_true, Bool.false_or, Bool.or_false, Bool.not_true, Bool.not_false]; done) | (simp only [h3, h33, h49, h52, h53, Bool.true_and, Bool.and_true, Bool.false_and, Bool.and_false, Bool.true_or, Bool.or_true, Bool.false_or, Bool.or_false, Bool.not_true, Bool.not_false]; simp [h34, h47, h48, h50]; done) | (simp [h34, h47, h48, h50]; done) | (simp only [h3, h33, h49, h52, h53, Bool.true_and, Bool.and_true, Bool.false_and, Bool.and_false, Bool.true_or, Bool.or_true, Bool.false_or, Bool.or_false, Bool.not_true, Bool.not_false]; simp [h34, h47, h48, h50]; omega)
           rw [e]
           first | done | rfl
         ·refine Aa h52 ?_
          refine Aa h52 ?_
          refine Aa h52 ?_
          refine An h52 ?_
          refine Aa rfl ?_
          refine Aa rfl ?_
          refine Aa rfl ?_
          refine Aa rfl ?_
          refine An rfl ?_
          refine Aj rfl ?_
          have e : Ag p = false := by
           clear s0 s2 s32
           try simp only [decide_eq_false_iff_not, decide_eq_true_eq] at h34 h47 h48 h50
           unfold Ag Br
           first | (simp only [h3, h33, h49, h52, Bool.true_and, Bool.and_true, Bool.false_and, Bool.and_false, Bool.true_or, Bool.or_true, Bool.false_or, Bool.or_false, Bool.not_true, Bool.not_false]; done) | (simp only [h3, h33, h49, h52, Bool.true_and, Bool.and_true, Bool.false_and, Bool.and_false, Bool.true_or, Bool.or_true, Bool.false_or, Bool.or_false, Bool.not_true, Bool.not_false]; simp [h34, h47, h48, h50]; done) | (simp [h34, h47, h48, h50]; done) | (simp only [h3, h33, h49, h52, Bool.true_and, Bool.and_true, Bool.false_and, Bool.and_false, Bool.true_or, Bool.or_true, Bool.false_or, Bool.or_false, Bool.not_true, Bool.not_false]; simp [h34, h47, h48, h50]; omega)
          rw [e]
          first | done | rfl
       ·refine Aa h49 ?_
        refine Aa h49 ?_
        refine Aa h49 ?_
        refine Aa h49 ?_
        refine Bt ?_
        refine Aa h49 ?_
        refine An h49 ?_
        refine Aa rfl ?_
        refine Aa rfl ?_
        refine Aa rfl ?_
        refine An rfl ?_
        refine Aa rfl ?_
        refine Aa rfl ?_
        refine Aa rfl ?_
        refine Aa rfl ?_
        refine An rfl ?_
        refine Aj rfl ?_
        have e : Ag p = false := by
         clear s0 s2 s32
         try simp only [decide_eq_false_iff_not, decide_eq_true_eq] at h34 h47 h48
         unfold Ag Br
         first | (simp only [h3, h33, h49, Bool.true_and, Bool.and_true, Bool.false_and, Bool.and_false, Bool.true_or, Bool.or_true, Bool.false_or, Bool.or_false, Bool.not_true, Bool.not_false]; done) | (simp only [h3, h33, h49, Bool.true_and, Bool.and_true, Bool.false_and, Bool.and_false, Bool.true_or, Bool.or_true, Bool.false_or, Bool.or_false, Bool.not_true, Bool.not_false]; simp [h34, h47, h48]; done) | (simp [h34, h47, h48]; done) | (simp only [h3, h33, h49, Bool.true_and, Bool.and_true, Bool.false_and, Bool.and_false, Bool.true_or, Bool.or_true, Bool.false_or, Bool.or_false, Bool.not_true, Bool.not_false]; simp [h34, h47, h48]; omega)
        rw [e]
        first | done | rfl
      ·refine Bf h48 ?_
       refine Au ?_
       refine Fm ?_
       refine Ac ((decide (p.fType = 12))) (fun h54 => ?_) (fun h54 => ?_)
       ·refine A0 h54 ?_
        refine A0 h54 ?_
        refine Aj rfl ?_
        have e : Ag p = true := by
         clear s0 s2 s32
         try simp only [decide_eq_false_iff_not, decide_eq_true_eq] at h34 h47 h48 h54
         unfold Ag Br
         first | (simp only [h3, h33, Bool.true_and, Bool.and_true, Bool.false_and, Bool.and_false, Bool.true_or, Bool.or_true, Bool.false_or, Bool.or_false, Bool.not_true, Bool.not_false]; done) | (simp only [h3, h33, Bool.true_and, Bool.and_true, Bool.false_and, Bool.and_false, Bool.true_or, Bool.or_true, Bool.false_or, Bool.or_false, Bool.not_true, Bool.not_false]; simp [h34, h47, h48, h54]; done) | (simp [h34, h47, h48, h54]; done) | (simp only [h3, h33, Bool.true_and, Bool.and_true, Bool.false_and, Bool.and_false, Bool.true_or, Bool.or_true, Bool.false_or, Bool.or_false, Bool.not_true, Bool.not_false]; simp [h34, h47, h48, h54]; omega)
        rw [e]
        first | done | rfl
       ·refine Bf h54 ?_
        refine Au ?_
        refine Ac ((decide (p.fType = 13))) (fun h55 => ?_) (fun h55 => ?_)
        ·refine A0 h55 ?_
         refine A0 h55 ?_
         refine Aj rfl ?_
         have e : Ag p = true := by
          clear s0 s2 s32
          try simp only [decide_eq_false_iff_not, decide_eq_true_eq] at h34 h47 h48 h54 h55
          unfold Ag Br
          first | (simp only [h3, h33, Bool.true_and, Bool.and_true, Bool.false_and, Bool.and_false, Bool.true_or, Bool.or_true, Bool.false_or, Bool.or_false, Bool.not_true, Bool.not_false]; done) | (simp only [h3, h33, Bool.true_and, Bool.and_true, Bool.false_and, Bool.and_false, Bool.true_or, Bool.or_true, Bool.false_or, Bool.or_false, Bool.not_true, Bool.not_false]; simp [h34, h47, h48, h54, h55]; done) | (simp [h34, h47, h48, h54, h55]; done) | (simp only [h3, h33, Bool.true_and, Bool.and_true, Bool.false_and, Bool.and_false, Bool.true_or, Bool.or_true, Bool.false_or, Bool.or_false, Bool.not_true, Bool.not_false]; simp [h34, h47, h48, h54, h55]; omega)
         rw [e]
         first | done | rfl
        ·refine Bf h55 ?_
         refine Au ?_
         refine Ac ((decide (p.fType = 14))) (fun h56 => ?_) (fun h56 => ?_)
         ·refine A0 h56 ?_
          refine Aj rfl ?_
          have e : Ag p = true := by
           clear s0 s2 s32
           try simp only [decide_eq_false_iff_not, decide_eq_true_eq] at h34 h47 h48 h54 h55 h56
           unfold Ag Br
           first | (simp only [h3, h33, Bool.true_and, Bool.and_true, Bool.false_and, Bool.and_false, Bool.true_or, Bool.or_true, Bool.false_or, Bool.or_false, Bool.not_true, Bool.not_false]; done) | (simp only [h3, h33, Bool.true_and, Bool.and_true, Bool.false_and, Bool.and_false, Bool.true_or, Bool.or_true, Bool.false_or, Bool.or_false, Bool.not_true, Bool.not_false]; simp [h34, h47, h48, h54, h55, h56]; done) | (simp [h34, h47, h48, h54, h55, h56]; done) | (simp only [h3, h33, Bool.true_and, Bool.and_true, Bool.false_and, Bool.and_false, Bool.true_or, Bool.or_true, Bool.false_or, Bool.or_false, Bool.not_true, Bool.not_false]; simp [h34, h47, h48, h54, h55, h56]; omega)
          rw [e]
          first | done | rfl
         ·refine Bf h56 ?_
          refine Au ?_
          refine Ac ((decide (p.fType = 8))) (fun h57 => ?_) (fun h57 => ?_)
          ·refine A0 h57 ?_
           have hv : Ag p = (p.fWants.all Bd && (A5 p.fId 1 65535 && A5 ((p.fWants.length : Nat) : Int) 1 4)) := by
            clear s0 s2 s32
            try simp only [decide_eq_false_iff_not, decide_eq_true_eq] at h34 h47 h48 h54 h55 h56 h57
            unfold Ag Br
            first | (simp only [h3, h33, Bool.true_and, Bool.and_true, Bool.false_and, Bool.and_false, Bool.true_or, Bool.or_true, Bool.false_or, Bool.or_false, Bool.not_true, Bool.not_false]; done) | (simp only [h3, h33, Bool.true_and, Bool.and_true, Bool.false_and, Bool.and_false, Bool.true_or, Bool.or_true, Bool.false_or, Bool.or_false, Bool.not_true, Bool.not_false]; simp [h34, h47, h48, h54, h55, h56, h57]; done) | (simp [h34, h47, h48, h54, h55, h56, h57]; done) | (simp only [h3, h33, Bool.true_and, Bool.and_true, Bool.false_and, Bool.and_false, Bool.true_or, Bool.or_true, Bool.false_or, Bool.or_false, Bool.not_true, Bool.not_false]; simp [h34, h47, h48, h54, h55, h56, h57]; omega)
           rw [hv]
           exact Lp n hn p hp h3 h33 h34 h47 h48 h54 h55 h56 h57  p.fWants [] _ 0 i1 _ rfl rfl (by omega) s32
          ·refine Bf h57 ?_
           refine Au ?_
           refine Ac ((decide (p.fType = 9))) (fun h58 => ?_) (fun h58 => ?_)
           ·refine A0 h58 ?_
            have hv : Ag p = (p.fCodes.all A9 && (A5 p.fId 1 65535 && A5 ((p.fCodes.length : Nat) : Int) 1 4)) := by
             clear s0 s2 s32
             try simp only [decide_eq_false_iff_not, decide_eq_true_eq] at h34 h47 h48 h54 h55 h56 h57 h58
             unfold Ag Br
             first | (simp only [h3, h33, Bool.true_and, Bool.and_true, Bool.false_and, Bool.and_false, Bool.true_or, Bool.or_true, Bool.false_or, Bool.or_false, Bool.not_true, Bool.not_false]; done) | (simp only [h3, h33, Bool.true_and, Bool.and_true, Bool.false_and, Bool.and_false, Bool.true_or, Bool.or_true, Bool.false_or, Bool.or_false, Bool.not_true, Bool.not_false]; simp [h34, h47, h48, h54, h55, h56, h57, h58]; done) | (simp [h34, h47, h48, h54, h55, h56, h57, h58]; done) | (simp only [h3, h33, Bool.true_and, Bool.and_true, Bool.false_and, Bool.and_false, Bool.true_or, Bool.or_true, Bool.false_or, Bool.or_false, Bool.not_true, Bool.not_false]; simp [h34, h47, h48, h54, h55, h56, h57, h58]; omega)
            rw [hv]
            exact Iu n hn p hp h3 h33 h34 h47 h48 h54 h55 h56 h57 h58  p.fCodes [] _ 0 i1 _ rfl rfl (by omega) s32
           ·refine Bf h58 ?_
            refine Au ?_
            refine Ac ((decide (p.fType = 10))) (fun h59 => ?_) (fun h59 => ?_)
            ·refine A0 h59 ?_
             have hv : Ag p = (p.fNames.all Bm && (A5 p.fId 1 65535 && A5 ((p.fNames.length : Nat) : Int) 1 4)) := by
              clear s0 s2 s32
              try simp only [decide_eq_false_iff_not, decide_eq_true_eq] at h34 h47 h48 h54 h55 h56 h57 h58 h59
              unfold Ag Br
              first | (simp only [h3, h33, Bool.true_and, Bool.and_true, Bool.false_and, Bool.and_false, Bool.true_or, Bool.or_true, Bool.false_or, Bool.or_false, Bool.not_true, Bool.not_false]; done) | (simp only [h3, h33, Bool.true_and, Bool.and_true, Bool.false_and, Bool.and_false, Bool.true_or, Bool.or_true, Bool.false_or, Bool.or_false, Bool.not_true, Bool.not_false]; simp [h34, h47, h48, h54, h55, h56, h57, h58, h59]; done) | (simp [h34, h47, h48, h54, h55, h56, h57, h58, h59]; done) | (simp only [h3, h33, Bool.true_and, Bool.and_true, Bool.false_and, Bool.and_false, Bool.true_or, Bool.or_true, Bool.false_or, Bool.or_false, Bool.not_true, Bool.not_false]; simp [h34, h47, h48, h54, h55, h56, h57, h58, h59]; omega)
             rw [hv]
             exact Lq n hn p hp h3 h33 h34 h47 h48 h54 h55 h56 h57 h58 h59  p.fNames [] _ 0 i1 _ rfl rfl (by omega) s32
            ·refine Bf h59 ?_
             refine Aj rfl ?_
             have e : Ag p = (A5 p.fId 1 65535) := by
              clear s0 s2 s32
              try simp only [decide_eq_false_iff_not, decide_eq_true_eq] at h34 h47 h48 h54 h55 h56 h57 h58 h59
              unfold Ag Br
              first | (simp only [h3, h33, Bool.true_and, Bool.and_true, Bool.false_and, Bool.and_false, Bool.true_or, Bool.or_true, Bool.false_or, Bool.or_false, Bool.not_true, Bool.not_false]; done) | (simp only [h3, h33, Bool.true_and, Bool.and_true, Bool.false_and, Bool.and_false, Bool.true_or, Bool.or_true, Bool.false_or, Bool.or_false, Bool.not_true, Bool.not_false]; simp [h34, h47, h48, h54, h55, h56, h57, h58, h59]; done) | (simp [h34, h47, h48, h54, h55, h56, h57, h58, h59]; done) | (simp only [h3, h33, Bool.true_and, Bool.and_true, Bool.false_and, Bool.and_false, Bool.true_or, Bool.or_true, Bool.false_or, Bool.or_false, Bool.not_true, Bool.not_false]; simp [h34, h47, h48, h54, h55, h56, h57, h58, h59]; omega)
             rw [e]
             first | done | rfl
   ·refine A0 (nT h33) ?_
    refine Aj rfl ?_
    have e : Ag p = false := by
     clear s0 s2 s32
     unfold Ag Br
     first | (simp only [h3, h33, Bool.true_and, Bool.and_true, Bool.false_and, Bool.and_false, Bool.true_or, Bool.or_true, Bool.false_or, Bool.or_false, Bool.not_true, Bool.not_false]; done) | (simp only [h3, h33, Bool.true_and, Bool.and_true, Bool.false_and, Bool.and_false, Bool.true_or, Bool.or_true, Bool.false_or, Bool.or_false, Bool.not_true, Bool.not_false]; simp; done) | (simp; done) | (simp only [h3, h33, Bool.true_and, Bool.and_true, Bool.false_and, Bool.and_false, Bool.true_or, Bool.or_true, Bool.false_or, Bool.or_false, Bool.not_true, Bool.not_false]; simp; omega)
    rw [e]
    first | done | rfl
 ·refine Aa (nT h3) ?_
  refine Gd.bothE ?_ ?_
  ·refine Aa (nT h3) ?_
   refine Aa (nT h3) ?_
   refine Aa (nT h3) ?_
   refine Aa (nT h3) ?_
   refine Bj (nT h3) ?_
   refine A0 rfl ?_
   refine Aj rfl ?_
   have e : Ag p = false := by
    clear s0 s2
    unfold Ag Br
    first | (simp only [h3, Bool.true_and, Bool.and_true, Bool.false_and, Bool.and_false, Bool.true_or, Bool.or_true, Bool.false_or, Bool.or_false, Bool.not_true, Bool.not_false]; done) | (simp only [h3, Bool.true_and, Bool.and_true, Bool.false_and, Bool.and_false, Bool.true_or, Bool.or_true, Bool.false_or, Bool.or_false, Bool.not_true, Bool.not_false]; simp; done) | (simp; done) | (simp only [h3, Bool.true_and, Bool.and_true, Bool.false_and, Bool.and_false, Bool.true_or, Bool.or_true, Bool.false_or, Bool.or_false, Bool.not_true, Bool.not_false]; simp; omega)
   rw [e]
   first | done | rfl
  ·refine Aa (nT h3) ?_
   refine Aa (nT h3) ?_
   refine Aa (nT h3) ?_
   refine Aa (nT h3) ?_
   refine Bj (nT h3) ?_
   refine A0 rfl ?_
   refine Aj rfl ?_
   have e : Ag p = false := by
    clear s0 s2
    unfold Ag Br
    first | (simp only [h3, Bool.true_and, Bool.and_true, Bool.false_and, Bool.and_false, Bool.true_or, Bool.or_true, Bool.false_or, Bool.or_false, Bool.not_true, Bool.not_false]; done) | (simp only [h3, Bool.true_and, Bool.and_true, Bool.false_and, Bool.and_false, Bool.true_or, Bool.or_true, Bool.false_or, Bool.or_false, Bool.not_true, Bool.not_false]; simp; done) | (simp; done) | (simp only [h3, Bool.true_and, Bool.and_true, Bool.false_and, Bool.and_false, Bool.true_or, Bool.or_true, Bool.false_or, Bool.or_false, Bool.not_true, Bool.not_false]; simp; omega)
   rw [e]
   first | done | rfl
theorem G0 {α : Type} {e : α → α → Bool} {a : List α} (h : E8 e a [] = true) : a = [] := by
 cases a with
 | nil => rfl
 | cons x l => simp [E8] at h
theorem Age (p : Ar) : Ag p = Ai p := by
 unfold Ag Ai
 cases hi : A5 p.fType 1 14
 ·rfl
 simp only [Bool.true_and]
 have hi2 : 1 ≤ p.fType ∧ p.fType ≤ 14 := by simpa [A5] using hi
 by_cases h2 : p.fType = 2
 ·have e1 : Aq true p = { Dn p.fType with fCode := p.fCode, fPresent := p.fPresent && decide (p.fCode = 0) } := by unfold Aq; simp [h2]
  have e2 : Aq false p = { Dn p.fType with fCode := p.fCode, fPresent := p.fPresent } := by unfold Aq; simp [h2]
  have k1 : Br p = A5 p.fCode 0 5 := by unfold Br; simp [h2]
  have k2 : Bn p = (A5 p.fCode 0 5 && (!p.fPresent || decide (p.fCode = 0))) := by unfold Bn; simp [h2]
  rw [e1, e2, k1, k2]
  cases hp : p.fPresent
  ·simp
  ·by_cases hc : p.fCode = 0
   ·simp [hc]
   ·have : A3 p { Dn p.fType with fCode := p.fCode, fPresent := true && decide (p.fCode = 0) } = false := by
     unfold A3 Ez
     simp [hp, hc]
    rw [this]
    simp [hc]
 ·have hn : Aq true p = Aq false p := by unfold Aq; simp [h2]
  rw [hn]
  cases hs : A3 p (Aq false p)
  ·rfl
  simp only [Bool.true_and]
  have hl : Jk p (Aq false p) = true := by
   unfold A3 at hs
   rw [Bool.and_eq_true] at hs
   exact hs.1
  unfold Jk at hl
  simp only [Bool.and_eq_true] at hl
  obtain ⟨⟨l1, l2⟩, l3⟩ := hl
  by_cases h1 : p.fType = 1
  ·unfold Br Bn Bk
   simp only [h1, if_true]
   generalize decide (((p.fWBody.size : Nat) : Int) ≤ 40) = b1
   generalize decide (((p.fPass.size : Nat) : Int) ≤ 60) = b2
   cases p.fHasWill <;> cases B5 p.fWTopic <;> cases A5 p.fLevel 0 255 <;> cases Bi p.fClient <;> cases A5 p.fKeep 0 65535 <;> cases Bi p.fUser <;> cases A5 p.fWQos 0 2 <;> cases b1 <;> cases b2 <;> rfl
  by_cases h3 : p.fType = 3
  ·unfold Br Bn
   simp only [h3, if_true, show ¬ (3 : Int) = 1 by decide, show ¬ (3 : Int) = 2 by decide, if_false]
   generalize decide (p.fQos = 0) = b1
   generalize decide (((p.fBody.size : Nat) : Int) ≤ 40) = b2
   cases A5 p.fQos 0 2 <;> cases B5 p.fTopic <;> cases A5 p.fId 1 65535 <;> cases b1 <;> cases b2 <;> rfl
  by_cases h8 : p.fType = 8
  ·have f2 : (Aq false p).fNames = [] := by unfold Aq; simp [h8, Dn]
   have f3 : (Aq false p).fCodes = [] := by unfold Aq; simp [h8, Dn]
   rw [f2] at l2
   rw [f3] at l3
   unfold Br Bn Df Gt G8 Ei
   rw [G0 l2, G0 l3]
   simp only [h8, if_true, if_false]
   cases p.fWants.all Bd <;> cases A5 p.fId 1 65535 <;> simp
  by_cases h9 : p.fType = 9
  ·have f1 : (Aq false p).fWants = [] := by unfold Aq; simp [h9, Dn]
   have f2 : (Aq false p).fNames = [] := by unfold Aq; simp [h9, Dn]
   rw [f1] at l1
   rw [f2] at l2
   unfold Br Bn Df Gt G8 Ei
   rw [G0 l1, G0 l2]
   simp only [h9, if_true, if_false]
   cases p.fCodes.all A9 <;> cases A5 p.fId 1 65535 <;> simp
  by_cases h10 : p.fType = 10
  ·have f1 : (Aq false p).fWants = [] := by unfold Aq; simp [h10, Dn]
   have f3 : (Aq false p).fCodes = [] := by unfold Aq; simp [h10, Dn]
   rw [f1] at l1
   rw [f3] at l3
   unfold Br Bn Df Gt G8 Ei
   rw [G0 l1, G0 l3]
   simp only [h10, if_true, if_false]
   cases p.fNames.all Bm <;> cases A5 p.fId 1 65535 <;> simp
  unfold Br Bn
  by_cases h12 : p.fType = 12 ∨ p.fType = 13 ∨ p.fType = 14
  ·rw [if_neg h1, if_neg h2, if_neg h3, if_pos h12, if_neg h1, if_neg h2, if_neg h3, if_neg (by omega), if_neg (by omega)]
  ·rw [if_neg h1, if_neg h2, if_neg h3, if_neg h12, if_neg h8, if_neg h9, if_neg h10, if_neg h1, if_neg h2, if_neg h3, if_pos (by omega)]
theorem Aai (n : Nat) (hn : 1048576 < n) (p : Ar) (hp : Hi p) : Bv E0 (n + 10) 4 124 [.agg (A6 p)] = some (.sc (.bool (Ai p))) := by
 rw [← Age]
 exact Aaj n hn p hp
end
section
open Go
def Kk : Ar := ⟨0, false, 0, false, 0, ⟨#[]⟩, ⟨#[]⟩, ⟨#[]⟩, 0, false, 0, false, ⟨#[]⟩, ⟨#[]⟩, 0, false, false, ⟨#[]⟩, false, ⟨#[]⟩, 0, false, [], [], []⟩
end
end Go.Proofs.YtjiahcekpohehaaGreatDoor.Abs
