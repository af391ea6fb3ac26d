/- What the proof needs, part 5: a sound evaluator over trees, the program's functions on it, and what they come to. -/
import Derived.Test.YtjiahcekpohehaaGreatDoorMd
set_option linter.unusedVariables false
set_option linter.unusedSimpArgs false
set_option maxRecDepth 100000
set_option maxHeartbeats 3200000
namespace Go.Proofs.YtjiahcekpohehaaGreatDoor.Abs
section
open Go
def Eo (t : Int) : Ay := ⟨t, false, 0, false, 0, ⟨#[]⟩, ⟨#[]⟩, ⟨#[]⟩, 0, false, 0, false, ⟨#[]⟩, ⟨#[]⟩, 0, false, false, ⟨#[]⟩, false, ⟨#[]⟩, 0, false, [], [], []⟩
def Cv (p q : Ay) : Ay := if p.fHasWill then { q with fHasWill := true, fWTopic := p.fWTopic, fWBody := p.fWBody, fWQos := p.fWQos, fWRetain := p.fWRetain } else q
def Cu (p q : Ay) : Ay := if p.fHasUser then (if p.fHasPass then { q with fHasUser := true, fUser := p.fUser, fHasPass := true, fPass := p.fPass } else { q with fHasUser := true, fUser := p.fUser }) else q
def A7 (pc : Bool) (p : Ay) : Ay :=
 if p.fType = 1 then Cu p (Cv p { Eo p.fType with fClient := p.fClient, fLevel := p.fLevel, fClean := p.fClean, fKeep := p.fKeep })
 else if p.fType = 2 then { Eo p.fType with fCode := p.fCode, fPresent := p.fPresent && (!pc || decide (p.fCode = 0)) }
 else if p.fType = 3 then (if 0 < p.fQos then { Eo p.fType with fQos := p.fQos, fRetain := p.fRetain, fTopic := p.fTopic, fBody := p.fBody, fDup := p.fDup, fId := p.fId } else { Eo p.fType with fQos := p.fQos, fRetain := p.fRetain, fTopic := p.fTopic, fBody := p.fBody })
 else if p.fType = 4 ∨ p.fType = 5 ∨ p.fType = 6 ∨ p.fType = 7 ∨ p.fType = 11 then { Eo p.fType with fId := p.fId }
 else if p.fType = 8 then { Eo p.fType with fId := p.fId, fWants := p.fWants }
 else if p.fType = 9 then { Eo p.fType with fId := p.fId, fCodes := p.fCodes }
 else if p.fType = 10 then { Eo p.fType with fId := p.fId, fNames := p.fNames }
 else Eo p.fType
theorem Ru (n : Nat) (hn : 1048576 < n) (p : Ay) {β : Type} {G : Option β → Prop} {KH : KO β} {H : Ab} {L : List Ck} (s0 : Sep H (L)) (hk : ∀ raw H', (∀ L', VwL L' 7 raw (Aq (A7 false p))) → Sep H' L → Gd G (KH (.agg raw) H')) : Gd G (Cz E0 (n + 1) β 195 [.agg (Aq p)] H fun x H => KH x H) := by
 rw [Agr, f195]
 try simp only [B6, Cp, Bj, Bb, Bo, Bg, A9, B3, AcY, AfJ]
 refine Tk s0 (Ip (D0 _)) fun i1 H s2 => ?_
 refine H4 s2 fun i3 H s4 => ?_
 refine Ac (o' := 0) rfl ?_
 refine Bp (c := .sc (.int .i64 p.fType)) s4 Do rfl ?_
 refine E5 (cs := [.sc (.int .i64 p.fType), .sc (.bool false), .sc (.int .i64 0), .sc (.bool false), .sc (.int .i64 0), .sc (.string (⟨#[]⟩)), .nl, .sc (.string (⟨#[]⟩)), .sc (.int .i64 0), .sc (.bool false), .sc (.int .i64 0), .sc (.bool false), .sc (.string (⟨#[]⟩)), .nl, .sc (.int .i64 0), .sc (.bool false), .sc (.bool false), .sc (.string (⟨#[]⟩)), .sc (.bool false), .nl, .sc (.int .i64 0), .sc (.bool false), .nl, .nl, .nl]) rfl ?_
 refine H4 s4 fun i5 H s6 => ?_
 refine A5 (cs' := [.sc (.int .i64 p.fType), .sc (.bool false), .sc (.int .i64 0), .sc (.bool false), .sc (.int .i64 0), .sc (.string (⟨#[]⟩)), .nl, .sc (.string (⟨#[]⟩)), .sc (.int .i64 0), .sc (.bool false), .sc (.int .i64 0), .sc (.bool false), .sc (.string (⟨#[]⟩)), .nl, .sc (.int .i64 0), .sc (.bool false), .sc (.bool false), .sc (.string (⟨#[]⟩)), .sc (.bool false), .nl, .sc (.int .i64 0), .sc (.bool false), .nl, .nl, .nl]) s6 (.here) (Ai (Aa rfl (Aa rfl (Aa rfl (Aa rfl (Aa rfl (Aa rfl (Aa rfl (Aa rfl (Aa rfl (Aa rfl (Aa rfl (Aa rfl (Aa rfl (Aa rfl (Aa rfl (Aa rfl (Aa rfl (Aa rfl (Aa rfl (Aa rfl (Aa rfl (Aa rfl (Aa rfl (Aa rfl (Aa rfl rfl)))))))))))))))))))))))))) rfl (A3 rfl) rfl fun H s7 => ?_
 refine Ac (o' := 0) rfl ?_
 refine Bp (c := .sc (.int .i64 p.fType)) s7 Dn rfl ?_
 refine Bx ?_
 refine Ae ((decide (p.fType = 1))) (fun h8 => ?_) (fun h8 => ?_)
 ·refine C9 h8 ?_
  refine Ac (o' := 7) rfl ?_
  refine Bp (c := .sc (.string p.fClient)) s7 Dn rfl ?_
  refine Ac (o' := 8) rfl ?_
  refine Ac (o' := 9) rfl ?_
  refine Ac (o' := 10) rfl ?_
  refine Ac (o' := 11) rfl ?_
  refine Ac (o' := 16) rfl ?_
  refine Ac (o' := 7) rfl ?_
  refine Ew s7 Dn (fun y hy => (List.mem_cons.1 hy).elim (fun e => ⟨_, _, _, _, e, _, (.here)⟩) ((fun y hy => absurd hy (by simp)) y)) ?_
  refine Bp (c := .sc (.int .i64 p.fLevel)) s7 Dn rfl ?_
  refine Ew s7 Dn (fun y hy => (List.mem_cons.1 hy).elim (fun e => ⟨_, _, _, _, e, _, (.here)⟩) ((fun y hy => absurd hy (by simp)) y)) ?_
  refine Bp (c := .sc (.bool p.fClean)) s7 Dn rfl ?_
  refine Ew s7 Dn (fun y hy => (List.mem_cons.1 hy).elim (fun e => ⟨_, _, _, _, e, _, (.here)⟩) ((fun y hy => absurd hy (by simp)) y)) ?_
  refine Bp (c := .sc (.int .i64 p.fKeep)) s7 Dn rfl ?_
  refine Ew s7 Dn (fun y hy => (List.mem_cons.1 hy).elim (fun e => ⟨_, _, _, _, e, _, (.here)⟩) ((fun y hy => absurd hy (by simp)) y)) ?_
  refine Bp (c := .sc (.bool p.fHasWill)) s7 Dn rfl ?_
  refine Ew s7 Dn (fun y hy => (List.mem_cons.1 hy).elim (fun e => ⟨_, _, _, _, e, _, (.here)⟩) ((fun y hy => absurd hy (by simp)) y)) ?_
  refine Bp (c := .sc (.bool p.fHasUser)) s7 Dn rfl ?_
  refine F3 ?_
  refine A5 (cs' := [.sc (.int .i64 p.fType), .sc (.bool false), .sc (.int .i64 0), .sc (.bool false), .sc (.int .i64 0), .sc (.string (⟨#[]⟩)), .nl, .sc (.string p.fClient), .sc (.int .i64 0), .sc (.bool false), .sc (.int .i64 0), .sc (.bool false), .sc (.string (⟨#[]⟩)), .nl, .sc (.int .i64 0), .sc (.bool false), .sc (.bool false), .sc (.string (⟨#[]⟩)), .sc (.bool false), .nl, .sc (.int .i64 0), .sc (.bool false), .nl, .nl, .nl]) s7 (.here) (Ak rfl) rfl (A3 rfl) rfl fun H s9 => ?_
  refine Ac (o' := 8) rfl ?_
  refine F3 ?_
  refine A5 (cs' := [.sc (.int .i64 p.fType), .sc (.bool false), .sc (.int .i64 0), .sc (.bool false), .sc (.int .i64 0), .sc (.string (⟨#[]⟩)), .nl, .sc (.string p.fClient), .sc (.int .i64 p.fLevel), .sc (.bool false), .sc (.int .i64 0), .sc (.bool false), .sc (.string (⟨#[]⟩)), .nl, .sc (.int .i64 0), .sc (.bool false), .sc (.bool false), .sc (.string (⟨#[]⟩)), .sc (.bool false), .nl, .sc (.int .i64 0), .sc (.bool false), .nl, .nl, .nl]) s9 (.here) (Ak rfl) rfl (A3 rfl) rfl fun H s10 => ?_
  refine Ac (o' := 9) rfl ?_
  refine F3 ?_
  refine A5 (cs' := [.sc (.int .i64 p.fType), .sc (.bool false), .sc (.int .i64 0), .sc (.bool false), .sc (.int .i64 0), .sc (.string (⟨#[]⟩)), .nl, .sc (.string p.fClient), .sc (.int .i64 p.fLevel), .sc (.bool p.fClean), .sc (.int .i64 0), .sc (.bool false), .sc (.string (⟨#[]⟩)), .nl, .sc (.int .i64 0), .sc (.bool false), .sc (.bool false), .sc (.string (⟨#[]⟩)), .sc (.bool false), .nl, .sc (.int .i64 0), .sc (.bool false), .nl, .nl, .nl]) s10 (.here) (Ak rfl) rfl (A3 rfl) rfl fun H s11 => ?_
  refine Ac (o' := 10) rfl ?_
  refine F3 ?_
  refine A5 (cs' := [.sc (.int .i64 p.fType), .sc (.bool false), .sc (.int .i64 0), .sc (.bool false), .sc (.int .i64 0), .sc (.string (⟨#[]⟩)), .nl, .sc (.string p.fClient), .sc (.int .i64 p.fLevel), .sc (.bool p.fClean), .sc (.int .i64 p.fKeep), .sc (.bool false), .sc (.string (⟨#[]⟩)), .nl, .sc (.int .i64 0), .sc (.bool false), .sc (.bool false), .sc (.string (⟨#[]⟩)), .sc (.bool false), .nl, .sc (.int .i64 0), .sc (.bool false), .nl, .nl, .nl]) s11 (.here) (Ak rfl) rfl (A3 rfl) rfl fun H s12 => ?_
  refine Ac (o' := 11) rfl ?_
  refine F3 ?_
  refine A5 (cs' := [.sc (.int .i64 p.fType), .sc (.bool false), .sc (.int .i64 0), .sc (.bool false), .sc (.int .i64 0), .sc (.string (⟨#[]⟩)), .nl, .sc (.string p.fClient), .sc (.int .i64 p.fLevel), .sc (.bool p.fClean), .sc (.int .i64 p.fKeep), .sc (.bool p.fHasWill), .sc (.string (⟨#[]⟩)), .nl, .sc (.int .i64 0), .sc (.bool false), .sc (.bool false), .sc (.string (⟨#[]⟩)), .sc (.bool false), .nl, .sc (.int .i64 0), .sc (.bool false), .nl, .nl, .nl]) s12 (.here) (Ak rfl) rfl (A3 rfl) rfl fun H s13 => ?_
  refine Ac (o' := 16) rfl ?_
  refine A5 (cs' := [.sc (.int .i64 p.fType), .sc (.bool false), .sc (.int .i64 0), .sc (.bool false), .sc (.int .i64 0), .sc (.string (⟨#[]⟩)), .nl, .sc (.string p.fClient), .sc (.int .i64 p.fLevel), .sc (.bool p.fClean), .sc (.int .i64 p.fKeep), .sc (.bool p.fHasWill), .sc (.string (⟨#[]⟩)), .nl, .sc (.int .i64 0), .sc (.bool false), .sc (.bool p.fHasUser), .sc (.string (⟨#[]⟩)), .sc (.bool false), .nl, .sc (.int .i64 0), .sc (.bool false), .nl, .nl, .nl]) s13 (.here) (Ak rfl) rfl (A3 rfl) rfl fun H s14 => ?_
  refine Ac (o' := 11) rfl ?_
  refine Bp (c := .sc (.bool p.fHasWill)) s14 Dn rfl ?_
  refine Hv ?_
  refine Ae (p.fHasWill) (fun h15 => ?_) (fun h15 => ?_)
  ·refine C9 h15 ?_
   refine Ac (o' := 12) rfl ?_
   refine Bp (c := .sc (.string p.fWTopic)) s14 Dn rfl ?_
   refine Ac (o' := 13) rfl ?_
   refine Ac (o' := 14) rfl ?_
   refine Ac (o' := 15) rfl ?_
   refine Ac (o' := 12) rfl ?_
   refine Ew s14 Dn (fun y hy => (List.mem_cons.1 hy).elim (fun e => ⟨_, _, _, _, e, _, (.here)⟩) ((fun y hy => absurd hy (by simp)) y)) ?_
   refine Bp (c := As p.fWBody) s14 Dn rfl ?_
   refine Ew s14 Dn (fun y hy => (List.mem_cons.1 hy).elim (fun e => ⟨_, _, _, _, e, _, (.here)⟩) ((fun y hy => absurd hy (by simp)) y)) ?_
   refine Bp (c := .sc (.int .i64 p.fWQos)) s14 Dn rfl ?_
   refine Ew s14 Dn (fun y hy => (List.mem_cons.1 hy).elim (fun e => ⟨_, _, _, _, e, _, (.here)⟩) ((fun y hy => absurd hy (by simp)) y)) ?_
   refine Bp (c := .sc (.bool p.fWRetain)) s14 Dn rfl ?_
   refine F3 ?_
   refine A5 (cs' := [.sc (.int .i64 p.fType), .sc (.bool false), .sc (.int .i64 0), .sc (.bool false), .sc (.int .i64 0), .sc (.string (⟨#[]⟩)), .nl, .sc (.string p.fClient), .sc (.int .i64 p.fLevel), .sc (.bool p.fClean), .sc (.int .i64 p.fKeep), .sc (.bool p.fHasWill), .sc (.string p.fWTopic), .nl, .sc (.int .i64 0), .sc (.bool false), .sc (.bool p.fHasUser), .sc (.string (⟨#[]⟩)), .sc (.bool false), .nl, .sc (.int .i64 0), .sc (.bool false), .nl, .nl, .nl]) s14 (.here) (Ak rfl) rfl (A3 rfl) rfl fun H s16 => ?_
   refine Ac (o' := 13) rfl ?_
   refine F3 ?_
   refine A5 (cs' := [.sc (.int .i64 p.fType), .sc (.bool false), .sc (.int .i64 0), .sc (.bool false), .sc (.int .i64 0), .sc (.string (⟨#[]⟩)), .nl, .sc (.string p.fClient), .sc (.int .i64 p.fLevel), .sc (.bool p.fClean), .sc (.int .i64 p.fKeep), .sc (.bool p.fHasWill), .sc (.string p.fWTopic), As p.fWBody, .sc (.int .i64 0), .sc (.bool false), .sc (.bool p.fHasUser), .sc (.string (⟨#[]⟩)), .sc (.bool false), .nl, .sc (.int .i64 0), .sc (.bool false), .nl, .nl, .nl]) s16 (.here) (Ak rfl) rfl (A3 rfl) rfl fun H s17 => ?_
   refine Ac (o' := 14) rfl ?_
   refine F3 ?_
   refine A5 (cs' := [.sc (.int .i64 p.fType), .sc (.bool false), .sc (.int .i64 0), .sc (.bool false), .sc (.int .i64 0), .sc (.string (⟨#[]⟩)), .nl, .sc (.string p.fClient), .sc (.int .i64 p.fLevel), .sc (.bool p.fClean), .sc (.int .i64 p.fKeep), .sc (.bool p.fHasWill), .sc (.string p.fWTopic), As p.fWBody, .sc (.int .i64 p.fWQos), .sc (.bool false), .sc (.bool p.fHasUser), .sc (.string (⟨#[]⟩)), .sc (.bool false), .nl, .sc (.int .i64 0), .sc (.bool false), .nl, .nl, .nl]) s17 (.here) (Ak rfl) rfl (A3 rfl) rfl fun H s18 => ?_
   refine Ac (o' := 15) rfl ?_
   refine A5 (cs' := [.sc (.int .i64 p.fType), .sc (.bool false), .sc (.int .i64 0), .sc (.bool false), .sc (.int .i64 0), .sc (.string (⟨#[]⟩)), .nl, .sc (.string p.fClient), .sc (.int .i64 p.fLevel), .sc (.bool p.fClean), .sc (.int .i64 p.fKeep), .sc (.bool p.fHasWill), .sc (.string p.fWTopic), As p.fWBody, .sc (.int .i64 p.fWQos), .sc (.bool p.fWRetain), .sc (.bool p.fHasUser), .sc (.string (⟨#[]⟩)), .sc (.bool false), .nl, .sc (.int .i64 0), .sc (.bool false), .nl, .nl, .nl]) s18 (.here) (Ak rfl) rfl (A3 rfl) rfl fun H s19 => ?_
   refine Ac (o' := 16) rfl ?_
   refine Bp (c := .sc (.bool p.fHasUser)) s19 Dn rfl ?_
   refine Hv ?_
   refine Ae (p.fHasUser) (fun h20 => ?_) (fun h20 => ?_)
   ·refine C9 h20 ?_
    refine Ac (o' := 17) rfl ?_
    refine Bp (c := .sc (.string p.fUser)) s19 Dn rfl ?_
    refine Ac (o' := 18) rfl ?_
    refine Ac (o' := 17) rfl ?_
    refine Ew s19 Dn (fun y hy => (List.mem_cons.1 hy).elim (fun e => ⟨_, _, _, _, e, _, (.here)⟩) ((fun y hy => absurd hy (by simp)) y)) ?_
    refine Bp (c := .sc (.bool p.fHasPass)) s19 Dn rfl ?_
    refine F3 ?_
    refine A5 (cs' := [.sc (.int .i64 p.fType), .sc (.bool false), .sc (.int .i64 0), .sc (.bool false), .sc (.int .i64 0), .sc (.string (⟨#[]⟩)), .nl, .sc (.string p.fClient), .sc (.int .i64 p.fLevel), .sc (.bool p.fClean), .sc (.int .i64 p.fKeep), .sc (.bool p.fHasWill), .sc (.string p.fWTopic), As p.fWBody, .sc (.int .i64 p.fWQos), .sc (.bool p.fWRetain), .sc (.bool p.fHasUser), .sc (.string p.fUser), .sc (.bool false), .nl, .sc (.int .i64 0), .sc (.bool false), .nl, .nl, .nl]) s19 (.here) (Ak rfl) rfl (A3 rfl) rfl fun H s21 => ?_
    refine Ac (o' := 18) rfl ?_
    refine A5 (cs' := [.sc (.int .i64 p.fType), .sc (.bool false), .sc (.int .i64 0), .sc (.bool false), .sc (.int .i64 0), .sc (.string (⟨#[]⟩)), .nl, .sc (.string p.fClient), .sc (.int .i64 p.fLevel), .sc (.bool p.fClean), .sc (.int .i64 p.fKeep), .sc (.bool p.fHasWill), .sc (.string p.fWTopic), As p.fWBody, .sc (.int .i64 p.fWQos), .sc (.bool p.fWRetain), .sc (.bool p.fHasUser), .sc (.string p.fUser), .sc (.bool p.fHasPass), .nl, .sc (.int .i64 0), .sc (.bool false), .nl, .nl, .nl]) s21 (.here) (Ak rfl) rfl (A3 rfl) rfl fun H s22 => ?_
    refine Ac (o' := 18) rfl ?_
    refine Bp (c := .sc (.bool p.fHasPass)) s22 (.here) rfl ?_
    refine Ae (p.fHasPass) (fun h23 => ?_) (fun h23 => ?_)
    ·refine C9 h23 ?_
     refine Ac (o' := 19) rfl ?_
     refine Bp (c := As p.fPass) s22 Dn rfl ?_
     refine Ac (o' := 19) rfl ?_
     refine A5 (cs' := [.sc (.int .i64 p.fType), .sc (.bool false), .sc (.int .i64 0), .sc (.bool false), .sc (.int .i64 0), .sc (.string (⟨#[]⟩)), .nl, .sc (.string p.fClient), .sc (.int .i64 p.fLevel), .sc (.bool p.fClean), .sc (.int .i64 p.fKeep), .sc (.bool p.fHasWill), .sc (.string p.fWTopic), As p.fWBody, .sc (.int .i64 p.fWQos), .sc (.bool p.fWRetain), .sc (.bool p.fHasUser), .sc (.string p.fUser), .sc (.bool p.fHasPass), As p.fPass, .sc (.int .i64 0), .sc (.bool false), .nl, .nl, .nl]) s22 (.here) (Ak rfl) rfl (A3 rfl) rfl fun H s24 => ?_
     refine Ao s24 (.here) rfl ?_
     refine A5 (cs' := [.sc (.int .i64 p.fType), .sc (.bool false), .sc (.int .i64 0), .sc (.bool false), .sc (.int .i64 0), .sc (.string (⟨#[]⟩)), .nl, .sc (.string p.fClient), .sc (.int .i64 p.fLevel), .sc (.bool p.fClean), .sc (.int .i64 p.fKeep), .sc (.bool p.fHasWill), .sc (.string p.fWTopic), As p.fWBody, .sc (.int .i64 p.fWQos), .sc (.bool p.fWRetain), .sc (.bool p.fHasUser), .sc (.string p.fUser), .sc (.bool p.fHasPass), As p.fPass, .sc (.int .i64 0), .sc (.bool false), .nl, .nl, .nl]) s24 Do (Ai (Aa rfl (Aa rfl (Aa rfl (Aa rfl (Aa rfl (Aa rfl (Aa rfl (Aa rfl (Aa rfl (Aa rfl (Aa rfl (Aa rfl (Aa rfl (Aa rfl (Aa rfl (Aa rfl (Aa rfl (Aa rfl (Aa rfl (Aa rfl (Aa rfl (Aa rfl (Aa rfl (Aa rfl (Aa rfl rfl)))))))))))))))))))))))))) rfl (A3 rfl) rfl fun H s25 => ?_
     refine Ao s25 (.here) rfl ?_
     have e : A7 false p = (⟨p.fType, false, 0, false, 0, ⟨#[]⟩, ⟨#[]⟩, p.fClient, p.fLevel, p.fClean, p.fKeep, p.fHasWill, p.fWTopic, p.fWBody, p.fWQos, p.fWRetain, p.fHasUser, p.fUser, p.fHasPass, p.fPass, 0, false, [], [], []⟩ : Ay) := by
      clear hk s0 s2 s4 s6 s7 s9 s10 s11 s12 s13 s14 s16 s17 s18 s19 s21 s22 s24 s25
      simp only [decide_eq_true_eq, decide_eq_false_iff_not] at h8 h15 h20 h23
      simp [A7, Cv, Cu, Eo, h8, h15, h20, h23]
     rw [e] at hk
     exact hk _ _ (fun L' => (.cons .sc (.cons .sc (.cons .sc (.cons .sc (.cons .sc (.cons .sc (.cons .nl (.cons .sc (.cons .sc (.cons .sc (.cons .sc (.cons .sc (.cons .sc (.cons .ro (.cons .sc (.cons .sc (.cons .sc (.cons .sc (.cons .sc (.cons .ro (.cons .sc (.cons .sc (.cons .nl (.cons .nl (.cons .nl .nil)))))))))))))))))))))))))) s25.tail.tail.tail
    ·refine B5 h23 ?_
     refine Ao s22 (.here) rfl ?_
     refine A5 (cs' := [.sc (.int .i64 p.fType), .sc (.bool false), .sc (.int .i64 0), .sc (.bool false), .sc (.int .i64 0), .sc (.string (⟨#[]⟩)), .nl, .sc (.string p.fClient), .sc (.int .i64 p.fLevel), .sc (.bool p.fClean), .sc (.int .i64 p.fKeep), .sc (.bool p.fHasWill), .sc (.string p.fWTopic), As p.fWBody, .sc (.int .i64 p.fWQos), .sc (.bool p.fWRetain), .sc (.bool p.fHasUser), .sc (.string p.fUser), .sc (.bool p.fHasPass), .nl, .sc (.int .i64 0), .sc (.bool false), .nl, .nl, .nl]) s22 Do (Ai (Aa rfl (Aa rfl (Aa rfl (Aa rfl (Aa rfl (Aa rfl (Aa rfl (Aa rfl (Aa rfl (Aa rfl (Aa rfl (Aa rfl (Aa rfl (Aa rfl (Aa rfl (Aa rfl (Aa rfl (Aa rfl (Aa rfl (Aa rfl (Aa rfl (Aa rfl (Aa rfl (Aa rfl (Aa rfl rfl)))))))))))))))))))))))))) rfl (A3 rfl) rfl fun H s26 => ?_
     refine Ao s26 (.here) rfl ?_
     have e : A7 false p = (⟨p.fType, false, 0, false, 0, ⟨#[]⟩, ⟨#[]⟩, p.fClient, p.fLevel, p.fClean, p.fKeep, p.fHasWill, p.fWTopic, p.fWBody, p.fWQos, p.fWRetain, p.fHasUser, p.fUser, p.fHasPass, ⟨#[]⟩, 0, false, [], [], []⟩ : Ay) := by
      clear hk s0 s2 s4 s6 s7 s9 s10 s11 s12 s13 s14 s16 s17 s18 s19 s21 s22 s26
      simp only [decide_eq_true_eq, decide_eq_false_iff_not] at h8 h15 h20 h23
      simp [A7, Cv, Cu, Eo, h8, h15, h20, h23]
     rw [e] at hk
     exact hk _ _ (fun L' => (.cons .sc (.cons .sc (.cons .sc (.cons .sc (.cons .sc (.cons .sc (.cons .nl (.cons .sc (.cons .sc (.cons .sc (.cons .sc (.cons .sc (.cons .sc (.cons .ro (.cons .sc (.cons .sc (.cons .sc (.cons .sc (.cons .sc (.cons .nl (.cons .sc (.cons .sc (.cons .nl (.cons .nl (.cons .nl .nil)))))))))))))))))))))))))) s26.tail.tail.tail
   ·refine B5 h20 ?_
    refine Ac (o' := 18) rfl ?_
    refine Bp (c := .sc (.bool false)) s19 (.here) rfl ?_
    refine B5 rfl ?_
    refine Ao s19 (.here) rfl ?_
    refine A5 (cs' := [.sc (.int .i64 p.fType), .sc (.bool false), .sc (.int .i64 0), .sc (.bool false), .sc (.int .i64 0), .sc (.string (⟨#[]⟩)), .nl, .sc (.string p.fClient), .sc (.int .i64 p.fLevel), .sc (.bool p.fClean), .sc (.int .i64 p.fKeep), .sc (.bool p.fHasWill), .sc (.string p.fWTopic), As p.fWBody, .sc (.int .i64 p.fWQos), .sc (.bool p.fWRetain), .sc (.bool p.fHasUser), .sc (.string (⟨#[]⟩)), .sc (.bool false), .nl, .sc (.int .i64 0), .sc (.bool false), .nl, .nl, .nl]) s19 Do (Ai (Aa rfl (Aa rfl (Aa rfl (Aa rfl (Aa rfl (Aa rfl (Aa rfl (Aa rfl (Aa rfl (Aa rfl (Aa rfl (Aa rfl (Aa rfl (Aa rfl (Aa rfl (Aa rfl (Aa rfl (Aa rfl (Aa rfl (Aa rfl (Aa rfl (Aa rfl (Aa rfl (Aa rfl (Aa rfl rfl)))))))))))))))))))))))))) rfl (A3 rfl) rfl fun H s27 => ?_
    refine Ao s27 (.here) rfl ?_
    have e : A7 false p = (⟨p.fType, false, 0, false, 0, ⟨#[]⟩, ⟨#[]⟩, p.fClient, p.fLevel, p.fClean, p.fKeep, p.fHasWill, p.fWTopic, p.fWBody, p.fWQos, p.fWRetain, p.fHasUser, ⟨#[]⟩, false, ⟨#[]⟩, 0, false, [], [], []⟩ : Ay) := by
     clear hk s0 s2 s4 s6 s7 s9 s10 s11 s12 s13 s14 s16 s17 s18 s19 s27
     simp only [decide_eq_true_eq, decide_eq_false_iff_not] at h8 h15 h20
     simp [A7, Cv, Cu, Eo, h8, h15, h20]
    rw [e] at hk
    exact hk _ _ (fun L' => (.cons .sc (.cons .sc (.cons .sc (.cons .sc (.cons .sc (.cons .sc (.cons .nl (.cons .sc (.cons .sc (.cons .sc (.cons .sc (.cons .sc (.cons .sc (.cons .ro (.cons .sc (.cons .sc (.cons .sc (.cons .sc (.cons .sc (.cons .nl (.cons .sc (.cons .sc (.cons .nl (.cons .nl (.cons .nl .nil)))))))))))))))))))))))))) s27.tail.tail.tail
  ·refine B5 h15 ?_
   refine Ac (o' := 16) rfl ?_
   refine Bp (c := .sc (.bool p.fHasUser)) s14 Dn rfl ?_
   refine Hv ?_
   refine Ae (p.fHasUser) (fun h28 => ?_) (fun h28 => ?_)
   ·refine C9 h28 ?_
    refine Ac (o' := 17) rfl ?_
    refine Bp (c := .sc (.string p.fUser)) s14 Dn rfl ?_
    refine Ac (o' := 18) rfl ?_
    refine Ac (o' := 17) rfl ?_
    refine Ew s14 Dn (fun y hy => (List.mem_cons.1 hy).elim (fun e => ⟨_, _, _, _, e, _, (.here)⟩) ((fun y hy => absurd hy (by simp)) y)) ?_
    refine Bp (c := .sc (.bool p.fHasPass)) s14 Dn rfl ?_
    refine F3 ?_
    refine A5 (cs' := [.sc (.int .i64 p.fType), .sc (.bool false), .sc (.int .i64 0), .sc (.bool false), .sc (.int .i64 0), .sc (.string (⟨#[]⟩)), .nl, .sc (.string p.fClient), .sc (.int .i64 p.fLevel), .sc (.bool p.fClean), .sc (.int .i64 p.fKeep), .sc (.bool p.fHasWill), .sc (.string (⟨#[]⟩)), .nl, .sc (.int .i64 0), .sc (.bool false), .sc (.bool p.fHasUser), .sc (.string p.fUser), .sc (.bool false), .nl, .sc (.int .i64 0), .sc (.bool false), .nl, .nl, .nl]) s14 (.here) (Ak rfl) rfl (A3 rfl) rfl fun H s29 => ?_
    refine Ac (o' := 18) rfl ?_
    refine A5 (cs' := [.sc (.int .i64 p.fType), .sc (.bool false), .sc (.int .i64 0), .sc (.bool false), .sc (.int .i64 0), .sc (.string (⟨#[]⟩)), .nl, .sc (.string p.fClient), .sc (.int .i64 p.fLevel), .sc (.bool p.fClean), .sc (.int .i64 p.fKeep), .sc (.bool p.fHasWill), .sc (.string (⟨#[]⟩)), .nl, .sc (.int .i64 0), .sc (.bool false), .sc (.bool p.fHasUser), .sc (.string p.fUser), .sc (.bool p.fHasPass), .nl, .sc (.int .i64 0), .sc (.bool false), .nl, .nl, .nl]) s29 (.here) (Ak rfl) rfl (A3 rfl) rfl fun H s30 => ?_
    refine Ac (o' := 18) rfl ?_
    refine Bp (c := .sc (.bool p.fHasPass)) s30 (.here) rfl ?_
    refine Ae (p.fHasPass) (fun h31 => ?_) (fun h31 => ?_)
    ·refine C9 h31 ?_
     refine Ac (o' := 19) rfl ?_
     refine Bp (c := As p.fPass) s30 Dn rfl ?_
     refine Ac (o' := 19) rfl ?_
     refine A5 (cs' := [.sc (.int .i64 p.fType), .sc (.bool false), .sc (.int .i64 0), .sc (.bool false), .sc (.int .i64 0), .sc (.string (⟨#[]⟩)), .nl, .sc (.string p.fClient), .sc (.int .i64 p.fLevel), .sc (.bool p.fClean), .sc (.int .i64 p.fKeep), .sc (.bool p.fHasWill), .sc (.string (⟨#[]⟩)), .nl, .sc (.int .i64 0), .sc (.bool false), .sc (.bool p.fHasUser), .sc (.string p.fUser), .sc (.bool p.fHasPass), As p.fPass, .sc (.int .i64 0), .sc (.bool false), .nl, .nl, .nl]) s30 (.here) (Ak rfl) rfl (A3 rfl) rfl fun H s32 => ?_
     refine Ao s32 (.here) rfl ?_
     refine A5 (cs' := [.sc (.int .i64 p.fType), .sc (.bool false), .sc (.int .i64 0), .sc (.bool false), .sc (.int .i64 0), .sc (.string (⟨#[]⟩)), .nl, .sc (.string p.fClient), .sc (.int .i64 p.fLevel), .sc (.bool p.fClean), .sc (.int .i64 p.fKeep), .sc (.bool p.fHasWill), .sc (.string (⟨#[]⟩)), .nl, .sc (.int .i64 0), .sc (.bool false), .sc (.bool p.fHasUser), .sc (.string p.fUser), .sc (.bool p.fHasPass), As p.fPass, .sc (.int .i64 0), .sc (.bool false), .nl, .nl, .nl]) s32 Do (Ai (Aa rfl (Aa rfl (Aa rfl (Aa rfl (Aa rfl (Aa rfl (Aa rfl (Aa rfl (Aa rfl (Aa rfl (Aa rfl (Aa rfl (Aa rfl (Aa rfl (Aa rfl (Aa rfl (Aa rfl (Aa rfl (Aa rfl (Aa rfl (Aa rfl (Aa rfl (Aa rfl (Aa rfl (Aa rfl rfl)))))))))))))))))))))))))) rfl (A3 rfl) rfl fun H s33 => ?_
     refine Ao s33 (.here) rfl ?_
     have e : A7 false p = (⟨p.fType, false, 0, false, 0, ⟨#[]⟩, ⟨#[]⟩, p.fClient, p.fLevel, p.fClean, p.fKeep, p.fHasWill, ⟨#[]⟩, ⟨#[]⟩, 0, false, p.fHasUser, p.fUser, p.fHasPass, p.fPass, 0, false, [], [], []⟩ : Ay) := by
      clear hk s0 s2 s4 s6 s7 s9 s10 s11 s12 s13 s14 s29 s30 s32 s33
      simp only [decide_eq_true_eq, decide_eq_false_iff_not] at h8 h15 h28 h31
      simp [A7, Cv, Cu, Eo, h8, h15, h28, h31]
     rw [e] at hk
     exact hk _ _ (fun L' => (.cons .sc (.cons .sc (.cons .sc (.cons .sc (.cons .sc (.cons .sc (.cons .nl (.cons .sc (.cons .sc (.cons .sc (.cons .sc (.cons .sc (.cons .sc (.cons .nl (.cons .sc (.cons .sc (.cons .sc (.cons .sc (.cons .sc (.cons .ro (.cons .sc (.cons .sc (.cons .nl (.cons .nl (.cons .nl .nil)))))))))))))))))))))))))) s33.tail.tail.tail
    ·refine B5 h31 ?_
     refine Ao s30 (.here) rfl ?_
     refine A5 (cs' := [.sc (.int .i64 p.fType), .sc (.bool false), .sc (.int .i64 0), .sc (.bool false), .sc (.int .i64 0), .sc (.string (⟨#[]⟩)), .nl, .sc (.string p.fClient), .sc (.int .i64 p.fLevel), .sc (.bool p.fClean), .sc (.int .i64 p.fKeep), .sc (.bool p.fHasWill), .sc (.string (⟨#[]⟩)), .nl, .sc (.int .i64 0), .sc (.bool false), .sc (.bool p.fHasUser), .sc (.string p.fUser), .sc (.bool p.fHasPass), .nl, .sc (.int .i64 0), .sc (.bool false), .nl, .nl, .nl]) s30 Do (Ai (Aa rfl (Aa rfl (Aa rfl (Aa rfl (Aa rfl (Aa rfl (Aa rfl (Aa rfl (Aa rfl (Aa rfl (Aa rfl (Aa rfl (Aa rfl (Aa rfl (Aa rfl (Aa rfl (Aa rfl (Aa rfl (Aa rfl (Aa rfl (Aa rfl (Aa rfl (Aa rfl (Aa rfl (Aa rfl rfl)))))))))))))))))))))))))) rfl (A3 rfl) rfl fun H s34 => ?_
     refine Ao s34 (.here) rfl ?_
     have e : A7 false p = (⟨p.fType, false, 0, false, 0, ⟨#[]⟩, ⟨#[]⟩, p.fClient, p.fLevel, p.fClean, p.fKeep, p.fHasWill, ⟨#[]⟩, ⟨#[]⟩, 0, false, p.fHasUser, p.fUser, p.fHasPass, ⟨#[]⟩, 0, false, [], [], []⟩ : Ay) := by
      clear hk s0 s2 s4 s6 s7 s9 s10 s11 s12 s13 s14 s29 s30 s34
      simp only [decide_eq_true_eq, decide_eq_false_iff_not] at h8 h15 h28 h31
      simp [A7, Cv, Cu, Eo, h8, h15, h28, h31]
     rw [e] at hk
     exact hk _ _ (fun L' => (.cons .sc (.cons .sc (.cons .sc (.cons .sc (.cons .sc (.cons .sc (.cons .nl (.cons .sc (.cons .sc (.cons .sc (.cons .sc (.cons .sc (.cons .sc (.cons .nl (.cons .sc (.cons .sc (.cons .sc (.cons .sc (.cons .sc (.cons .nl (.cons .sc (.cons .sc (.cons .nl (.cons .nl (.cons .nl .nil)))))))))))))))))))))))))) s34.tail.tail.tail
   ·refine B5 h28 ?_
    refine Ac (o' := 18) rfl ?_
    refine Bp (c := .sc (.bool false)) s14 (.here) rfl ?_
    refine B5 rfl ?_
    refine Ao s14 (.here) rfl ?_
    refine A5 (cs' := [.sc (.int .i64 p.fType), .sc (.bool false), .sc (.int .i64 0), .sc (.bool false), .sc (.int .i64 0), .sc (.string (⟨#[]⟩)), .nl, .sc (.string p.fClient), .sc (.int .i64 p.fLevel), .sc (.bool p.fClean), .sc (.int .i64 p.fKeep), .sc (.bool p.fHasWill), .sc (.string (⟨#[]⟩)), .nl, .sc (.int .i64 0), .sc (.bool false), .sc (.bool p.fHasUser), .sc (.string (⟨#[]⟩)), .sc (.bool false), .nl, .sc (.int .i64 0), .sc (.bool false), .nl, .nl, .nl]) s14 Do (Ai (Aa rfl (Aa rfl (Aa rfl (Aa rfl (Aa rfl (Aa rfl (Aa rfl (Aa rfl (Aa rfl (Aa rfl (Aa rfl (Aa rfl (Aa rfl (Aa rfl (Aa rfl (Aa rfl (Aa rfl (Aa rfl (Aa rfl (Aa rfl (Aa rfl (Aa rfl (Aa rfl (Aa rfl (Aa rfl rfl)))))))))))))))))))))))))) rfl (A3 rfl) rfl fun H s35 => ?_
    refine Ao s35 (.here) rfl ?_
    have e : A7 false p = (⟨p.fType, false, 0, false, 0, ⟨#[]⟩, ⟨#[]⟩, p.fClient, p.fLevel, p.fClean, p.fKeep, p.fHasWill, ⟨#[]⟩, ⟨#[]⟩, 0, false, p.fHasUser, ⟨#[]⟩, false, ⟨#[]⟩, 0, false, [], [], []⟩ : Ay) := by
     clear hk s0 s2 s4 s6 s7 s9 s10 s11 s12 s13 s14 s35
     simp only [decide_eq_true_eq, decide_eq_false_iff_not] at h8 h15 h28
     simp [A7, Cv, Cu, Eo, h8, h15, h28]
    rw [e] at hk
    exact hk _ _ (fun L' => (.cons .sc (.cons .sc (.cons .sc (.cons .sc (.cons .sc (.cons .sc (.cons .nl (.cons .sc (.cons .sc (.cons .sc (.cons .sc (.cons .sc (.cons .sc (.cons .nl (.cons .sc (.cons .sc (.cons .sc (.cons .sc (.cons .sc (.cons .nl (.cons .sc (.cons .sc (.cons .nl (.cons .nl (.cons .nl .nil)))))))))))))))))))))))))) s35.tail.tail.tail
 ·refine B5 h8 ?_
  refine Bx ?_
  refine Ae ((decide (p.fType = 2))) (fun h36 => ?_) (fun h36 => ?_)
  ·refine C9 h36 ?_
   refine Ac (o' := 20) rfl ?_
   refine Bp (c := .sc (.int .i64 p.fCode)) s7 Dn rfl ?_
   refine Ac (o' := 21) rfl ?_
   refine Ac (o' := 20) rfl ?_
   refine Ew s7 Dn (fun y hy => (List.mem_cons.1 hy).elim (fun e => ⟨_, _, _, _, e, _, (.here)⟩) ((fun y hy => absurd hy (by simp)) y)) ?_
   refine Bp (c := .sc (.bool p.fPresent)) s7 Dn rfl ?_
   refine F3 ?_
   refine A5 (cs' := [.sc (.int .i64 p.fType), .sc (.bool false), .sc (.int .i64 0), .sc (.bool false), .sc (.int .i64 0), .sc (.string (⟨#[]⟩)), .nl, .sc (.string (⟨#[]⟩)), .sc (.int .i64 0), .sc (.bool false), .sc (.int .i64 0), .sc (.bool false), .sc (.string (⟨#[]⟩)), .nl, .sc (.int .i64 0), .sc (.bool false), .sc (.bool false), .sc (.string (⟨#[]⟩)), .sc (.bool false), .nl, .sc (.int .i64 p.fCode), .sc (.bool false), .nl, .nl, .nl]) s7 (.here) (Ak rfl) rfl (A3 rfl) rfl fun H s37 => ?_
   refine Ac (o' := 21) rfl ?_
   refine A5 (cs' := [.sc (.int .i64 p.fType), .sc (.bool false), .sc (.int .i64 0), .sc (.bool false), .sc (.int .i64 0), .sc (.string (⟨#[]⟩)), .nl, .sc (.string (⟨#[]⟩)), .sc (.int .i64 0), .sc (.bool false), .sc (.int .i64 0), .sc (.bool false), .sc (.string (⟨#[]⟩)), .nl, .sc (.int .i64 0), .sc (.bool false), .sc (.bool false), .sc (.string (⟨#[]⟩)), .sc (.bool false), .nl, .sc (.int .i64 p.fCode), .sc (.bool p.fPresent), .nl, .nl, .nl]) s37 (.here) (Ak rfl) rfl (A3 rfl) rfl fun H s38 => ?_
   refine Ao s38 (.here) rfl ?_
   refine A5 (cs' := [.sc (.int .i64 p.fType), .sc (.bool false), .sc (.int .i64 0), .sc (.bool false), .sc (.int .i64 0), .sc (.string (⟨#[]⟩)), .nl, .sc (.string (⟨#[]⟩)), .sc (.int .i64 0), .sc (.bool false), .sc (.int .i64 0), .sc (.bool false), .sc (.string (⟨#[]⟩)), .nl, .sc (.int .i64 0), .sc (.bool false), .sc (.bool false), .sc (.string (⟨#[]⟩)), .sc (.bool false), .nl, .sc (.int .i64 p.fCode), .sc (.bool p.fPresent), .nl, .nl, .nl]) s38 Do (Ai (Aa rfl (Aa rfl (Aa rfl (Aa rfl (Aa rfl (Aa rfl (Aa rfl (Aa rfl (Aa rfl (Aa rfl (Aa rfl (Aa rfl (Aa rfl (Aa rfl (Aa rfl (Aa rfl (Aa rfl (Aa rfl (Aa rfl (Aa rfl (Aa rfl (Aa rfl (Aa rfl (Aa rfl (Aa rfl rfl)))))))))))))))))))))))))) rfl (A3 rfl) rfl fun H s39 => ?_
   refine Ao s39 (.here) rfl ?_
   have e : A7 false p = (⟨p.fType, false, 0, false, 0, ⟨#[]⟩, ⟨#[]⟩, ⟨#[]⟩, 0, false, 0, false, ⟨#[]⟩, ⟨#[]⟩, 0, false, false, ⟨#[]⟩, false, ⟨#[]⟩, p.fCode, p.fPresent, [], [], []⟩ : Ay) := by
    clear hk s0 s2 s4 s6 s7 s37 s38 s39
    simp only [decide_eq_true_eq, decide_eq_false_iff_not] at h8 h36
    simp [A7, Cv, Cu, Eo, h8, h36]
   rw [e] at hk
   exact hk _ _ (fun L' => (.cons .sc (.cons .sc (.cons .sc (.cons .sc (.cons .sc (.cons .sc (.cons .nl (.cons .sc (.cons .sc (.cons .sc (.cons .sc (.cons .sc (.cons .sc (.cons .nl (.cons .sc (.cons .sc (.cons .sc (.cons .sc (.cons .sc (.cons .nl (.cons .sc (.cons .sc (.cons .nl (.cons .nl (.cons .nl .nil)))))))))))))))))))))))))) s39.tail.tail.tail
  ·refine B5 h36 ?_
   refine Bx ?_
   refine Ae ((decide (p.fType = 3))) (fun h40 => ?_) (fun h40 => ?_)
   ·refine C9 h40 ?_
    refine Ac (o' := 2) rfl ?_
    refine Bp (c := .sc (.int .i64 p.fQos)) s7 Dn rfl ?_
    refine Ac (o' := 3) rfl ?_
    refine Ac (o' := 5) rfl ?_
    refine Ac (o' := 6) rfl ?_
    refine Ac (o' := 2) rfl ?_
    refine Ew s7 Dn (fun y hy => (List.mem_cons.1 hy).elim (fun e => ⟨_, _, _, _, e, _, (.here)⟩) ((fun y hy => absurd hy (by simp)) y)) ?_
    refine Bp (c := .sc (.bool p.fRetain)) s7 Dn rfl ?_
    refine Ew s7 Dn (fun y hy => (List.mem_cons.1 hy).elim (fun e => ⟨_, _, _, _, e, _, (.here)⟩) ((fun y hy => absurd hy (by simp)) y)) ?_
    refine Bp (c := .sc (.string p.fTopic)) s7 Dn rfl ?_
    refine Ew s7 Dn (fun y hy => (List.mem_cons.1 hy).elim (fun e => ⟨_, _, _, _, e, _, (.here)⟩) ((fun y hy => absurd hy (by simp)) y)) ?_
    refine Bp (c := As p.fBody) s7 Dn rfl ?_
    refine F3 ?_
    refine A5 (cs' := [.sc (.int .i64 p.fType), .sc (.bool false), .sc (.int .i64 p.fQos), .sc (.bool false), .sc (.int .i64 0), .sc (.string (⟨#[]⟩)), .nl, .sc (.string (⟨#[]⟩)), .sc (.int .i64 0), .sc (.bool false), .sc (.int .i64 0), .sc (.bool false), .sc (.string (⟨#[]⟩)), .nl, .sc (.int .i64 0), .sc (.bool false), .sc (.bool false), .sc (.string (⟨#[]⟩)), .sc (.bool false), .nl, .sc (.int .i64 0), .sc (.bool false), .nl, .nl, .nl]) s7 (.here) (Ak rfl) rfl (A3 rfl) rfl fun H s41 => ?_
    refine Ac (o' := 3) rfl ?_
    refine F3 ?_
    refine A5 (cs' := [.sc (.int .i64 p.fType), .sc (.bool false), .sc (.int .i64 p.fQos), .sc (.bool p.fRetain), .sc (.int .i64 0), .sc (.string (⟨#[]⟩)), .nl, .sc (.string (⟨#[]⟩)), .sc (.int .i64 0), .sc (.bool false), .sc (.int .i64 0), .sc (.bool false), .sc (.string (⟨#[]⟩)), .nl, .sc (.int .i64 0), .sc (.bool false), .sc (.bool false), .sc (.string (⟨#[]⟩)), .sc (.bool false), .nl, .sc (.int .i64 0), .sc (.bool false), .nl, .nl, .nl]) s41 (.here) (Ak rfl) rfl (A3 rfl) rfl fun H s42 => ?_
    refine Ac (o' := 5) rfl ?_
    refine F3 ?_
    refine A5 (cs' := [.sc (.int .i64 p.fType), .sc (.bool false), .sc (.int .i64 p.fQos), .sc (.bool p.fRetain), .sc (.int .i64 0), .sc (.string p.fTopic), .nl, .sc (.string (⟨#[]⟩)), .sc (.int .i64 0), .sc (.bool false), .sc (.int .i64 0), .sc (.bool false), .sc (.string (⟨#[]⟩)), .nl, .sc (.int .i64 0), .sc (.bool false), .sc (.bool false), .sc (.string (⟨#[]⟩)), .sc (.bool false), .nl, .sc (.int .i64 0), .sc (.bool false), .nl, .nl, .nl]) s42 (.here) (Ak rfl) rfl (A3 rfl) rfl fun H s43 => ?_
    refine Ac (o' := 6) rfl ?_
    refine A5 (cs' := [.sc (.int .i64 p.fType), .sc (.bool false), .sc (.int .i64 p.fQos), .sc (.bool p.fRetain), .sc (.int .i64 0), .sc (.string p.fTopic), As p.fBody, .sc (.string (⟨#[]⟩)), .sc (.int .i64 0), .sc (.bool false), .sc (.int .i64 0), .sc (.bool false), .sc (.string (⟨#[]⟩)), .nl, .sc (.int .i64 0), .sc (.bool false), .sc (.bool false), .sc (.string (⟨#[]⟩)), .sc (.bool false), .nl, .sc (.int .i64 0), .sc (.bool false), .nl, .nl, .nl]) s43 (.here) (Ak rfl) rfl (A3 rfl) rfl fun H s44 => ?_
    refine Ac (o' := 2) rfl ?_
    refine Bp (c := .sc (.int .i64 p.fQos)) s44 Dn rfl ?_
    refine Aiq ?_
    refine Ae ((decide (0 < p.fQos))) (fun h45 => ?_) (fun h45 => ?_)
    ·refine C9 h45 ?_
     refine Ac (o' := 1) rfl ?_
     refine Bp (c := .sc (.bool p.fDup)) s44 Dn rfl ?_
     refine Ac (o' := 4) rfl ?_
     refine Ac (o' := 1) rfl ?_
     refine Ew s44 Dn (fun y hy => (List.mem_cons.1 hy).elim (fun e => ⟨_, _, _, _, e, _, (.here)⟩) ((fun y hy => absurd hy (by simp)) y)) ?_
     refine Bp (c := .sc (.int .i64 p.fId)) s44 Dn rfl ?_
     refine F3 ?_
     refine A5 (cs' := [.sc (.int .i64 p.fType), .sc (.bool p.fDup), .sc (.int .i64 p.fQos), .sc (.bool p.fRetain), .sc (.int .i64 0), .sc (.string p.fTopic), As p.fBody, .sc (.string (⟨#[]⟩)), .sc (.int .i64 0), .sc (.bool false), .sc (.int .i64 0), .sc (.bool false), .sc (.string (⟨#[]⟩)), .nl, .sc (.int .i64 0), .sc (.bool false), .sc (.bool false), .sc (.string (⟨#[]⟩)), .sc (.bool false), .nl, .sc (.int .i64 0), .sc (.bool false), .nl, .nl, .nl]) s44 (.here) (Ak rfl) rfl (A3 rfl) rfl fun H s46 => ?_
     refine Ac (o' := 4) rfl ?_
     refine A5 (cs' := [.sc (.int .i64 p.fType), .sc (.bool p.fDup), .sc (.int .i64 p.fQos), .sc (.bool p.fRetain), .sc (.int .i64 p.fId), .sc (.string p.fTopic), As p.fBody, .sc (.string (⟨#[]⟩)), .sc (.int .i64 0), .sc (.bool false), .sc (.int .i64 0), .sc (.bool false), .sc (.string (⟨#[]⟩)), .nl, .sc (.int .i64 0), .sc (.bool false), .sc (.bool false), .sc (.string (⟨#[]⟩)), .sc (.bool false), .nl, .sc (.int .i64 0), .sc (.bool false), .nl, .nl, .nl]) s46 (.here) (Ak rfl) rfl (A3 rfl) rfl fun H s47 => ?_
     refine Ao s47 (.here) rfl ?_
     refine A5 (cs' := [.sc (.int .i64 p.fType), .sc (.bool p.fDup), .sc (.int .i64 p.fQos), .sc (.bool p.fRetain), .sc (.int .i64 p.fId), .sc (.string p.fTopic), As p.fBody, .sc (.string (⟨#[]⟩)), .sc (.int .i64 0), .sc (.bool false), .sc (.int .i64 0), .sc (.bool false), .sc (.string (⟨#[]⟩)), .nl, .sc (.int .i64 0), .sc (.bool false), .sc (.bool false), .sc (.string (⟨#[]⟩)), .sc (.bool false), .nl, .sc (.int .i64 0), .sc (.bool false), .nl, .nl, .nl]) s47 Do (Ai (Aa rfl (Aa rfl (Aa rfl (Aa rfl (Aa rfl (Aa rfl (Aa rfl (Aa rfl (Aa rfl (Aa rfl (Aa rfl (Aa rfl (Aa rfl (Aa rfl (Aa rfl (Aa rfl (Aa rfl (Aa rfl (Aa rfl (Aa rfl (Aa rfl (Aa rfl (Aa rfl (Aa rfl (Aa rfl rfl)))))))))))))))))))))))))) rfl (A3 rfl) rfl fun H s48 => ?_
     refine Ao s48 (.here) rfl ?_
     have e : A7 false p = (⟨p.fType, p.fDup, p.fQos, p.fRetain, p.fId, p.fTopic, p.fBody, ⟨#[]⟩, 0, false, 0, false, ⟨#[]⟩, ⟨#[]⟩, 0, false, false, ⟨#[]⟩, false, ⟨#[]⟩, 0, false, [], [], []⟩ : Ay) := by
      clear hk s0 s2 s4 s6 s7 s41 s42 s43 s44 s46 s47 s48
      simp only [decide_eq_true_eq, decide_eq_false_iff_not] at h8 h36 h40 h45
      simp [A7, Cv, Cu, Eo, h8, h36, h40, h45]
     rw [e] at hk
     exact hk _ _ (fun L' => (.cons .sc (.cons .sc (.cons .sc (.cons .sc (.cons .sc (.cons .sc (.cons .ro (.cons .sc (.cons .sc (.cons .sc (.cons .sc (.cons .sc (.cons .sc (.cons .nl (.cons .sc (.cons .sc (.cons .sc (.cons .sc (.cons .sc (.cons .nl (.cons .sc (.cons .sc (.cons .nl (.cons .nl (.cons .nl .nil)))))))))))))))))))))))))) s48.tail.tail.tail
    ·refine B5 h45 ?_
     refine Ao s44 (.here) rfl ?_
     refine A5 (cs' := [.sc (.int .i64 p.fType), .sc (.bool false), .sc (.int .i64 p.fQos), .sc (.bool p.fRetain), .sc (.int .i64 0), .sc (.string p.fTopic), As p.fBody, .sc (.string (⟨#[]⟩)), .sc (.int .i64 0), .sc (.bool false), .sc (.int .i64 0), .sc (.bool false), .sc (.string (⟨#[]⟩)), .nl, .sc (.int .i64 0), .sc (.bool false), .sc (.bool false), .sc (.string (⟨#[]⟩)), .sc (.bool false), .nl, .sc (.int .i64 0), .sc (.bool false), .nl, .nl, .nl]) s44 Do (Ai (Aa rfl (Aa rfl (Aa rfl (Aa rfl (Aa rfl (Aa rfl (Aa rfl (Aa rfl (Aa rfl (Aa rfl (Aa rfl (Aa rfl (Aa rfl (Aa rfl (Aa rfl (Aa rfl (Aa rfl (Aa rfl (Aa rfl (Aa rfl (Aa rfl (Aa rfl (Aa rfl (Aa rfl (Aa rfl rfl)))))))))))))))))))))))))) rfl (A3 rfl) rfl fun H s49 => ?_
     refine Ao s49 (.here) rfl ?_
     have e : A7 false p = (⟨p.fType, false, p.fQos, p.fRetain, 0, p.fTopic, p.fBody, ⟨#[]⟩, 0, false, 0, false, ⟨#[]⟩, ⟨#[]⟩, 0, false, false, ⟨#[]⟩, false, ⟨#[]⟩, 0, false, [], [], []⟩ : Ay) := by
      clear hk s0 s2 s4 s6 s7 s41 s42 s43 s44 s49
      simp only [decide_eq_true_eq, decide_eq_false_iff_not] at h8 h36 h40 h45
      simp [A7, Cv, Cu, Eo, h8, h36, h40, h45]
     rw [e] at hk
     exact hk _ _ (fun L' => (.cons .sc (.cons .sc (.cons .sc (.cons .sc (.cons .sc (.cons .sc (.cons .ro (.cons .sc (.cons .sc (.cons .sc (.cons .sc (.cons .sc (.cons .sc (.cons .nl (.cons .sc (.cons .sc (.cons .sc (.cons .sc (.cons .sc (.cons .nl (.cons .sc (.cons .sc (.cons .nl (.cons .nl (.cons .nl .nil)))))))))))))))))))))))))) s49.tail.tail.tail
   ·refine B5 h40 ?_
    refine Bx ?_
    refine Hv ?_
    refine Ae ((decide (p.fType = 4))) (fun h50 => ?_) (fun h50 => ?_)
    ·refine C9 h50 ?_
     refine C9 h50 ?_
     refine Ac (o' := 4) rfl ?_
     refine Bp (c := .sc (.int .i64 p.fId)) s7 Dn rfl ?_
     refine Ac (o' := 4) rfl ?_
     refine A5 (cs' := [.sc (.int .i64 p.fType), .sc (.bool false), .sc (.int .i64 0), .sc (.bool false), .sc (.int .i64 p.fId), .sc (.string (⟨#[]⟩)), .nl, .sc (.string (⟨#[]⟩)), .sc (.int .i64 0), .sc (.bool false), .sc (.int .i64 0), .sc (.bool false), .sc (.string (⟨#[]⟩)), .nl, .sc (.int .i64 0), .sc (.bool false), .sc (.bool false), .sc (.string (⟨#[]⟩)), .sc (.bool false), .nl, .sc (.int .i64 0), .sc (.bool false), .nl, .nl, .nl]) s7 (.here) (Ak rfl) rfl (A3 rfl) rfl fun H s51 => ?_
     refine Ao s51 (.here) rfl ?_
     refine A5 (cs' := [.sc (.int .i64 p.fType), .sc (.bool false), .sc (.int .i64 0), .sc (.bool false), .sc (.int .i64 p.fId), .sc (.string (⟨#[]⟩)), .nl, .sc (.string (⟨#[]⟩)), .sc (.int .i64 0), .sc (.bool false), .sc (.int .i64 0), .sc (.bool false), .sc (.string (⟨#[]⟩)), .nl, .sc (.int .i64 0), .sc (.bool false), .sc (.bool false), .sc (.string (⟨#[]⟩)), .sc (.bool false), .nl, .sc (.int .i64 0), .sc (.bool false), .nl, .nl, .nl]) s51 Do (Ai (Aa rfl (Aa rfl (Aa rfl (Aa rfl (Aa rfl (Aa rfl (Aa rfl (Aa rfl (Aa rfl (Aa rfl (Aa rfl (Aa rfl (Aa rfl (Aa rfl (Aa rfl (Aa rfl (Aa rfl (Aa rfl (Aa rfl (Aa rfl (Aa rfl (Aa rfl (Aa rfl (Aa rfl (Aa rfl rfl)))))))))))))))))))))))))) rfl (A3 rfl) rfl fun H s52 => ?_
     refine Ao s52 (.here) rfl ?_
     have e : A7 false p = (⟨p.fType, false, 0, false, p.fId, ⟨#[]⟩, ⟨#[]⟩, ⟨#[]⟩, 0, false, 0, false, ⟨#[]⟩, ⟨#[]⟩, 0, false, false, ⟨#[]⟩, false, ⟨#[]⟩, 0, false, [], [], []⟩ : Ay) := by
      clear hk s0 s2 s4 s6 s7 s51 s52
      simp only [decide_eq_true_eq, decide_eq_false_iff_not] at h8 h36 h40 h50
      simp [A7, Cv, Cu, Eo, h8, h36, h40, h50]
     rw [e] at hk
     exact hk _ _ (fun L' => (.cons .sc (.cons .sc (.cons .sc (.cons .sc (.cons .sc (.cons .sc (.cons .nl (.cons .sc (.cons .sc (.cons .sc (.cons .sc (.cons .sc (.cons .sc (.cons .nl (.cons .sc (.cons .sc (.cons .sc (.cons .sc (.cons .sc (.cons .nl (.cons .sc (.cons .sc (.cons .nl (.cons .nl (.cons .nl .nil)))))))))))))))))))))))))) s52.tail.tail.tail
    ·refine B5 h50 ?_
     refine Bx ?_
     refine Ae ((decide (p.fType = 5))) (fun h53 => ?_) (fun h53 => ?_)
     ·refine C9 h53 ?_
      refine C9 h53 ?_
      refine Ac (o' := 4) rfl ?_
      refine Bp (c := .sc (.int .i64 p.fId)) s7 Dn rfl ?_
      refine Ac (o' := 4) rfl ?_
      refine A5 (cs' := [.sc (.int .i64 p.fType), .sc (.bool false), .sc (.int .i64 0), .sc (.bool false), .sc (.int .i64 p.fId), .sc (.string (⟨#[]⟩)), .nl, .sc (.string (⟨#[]⟩)), .sc (.int .i64 0), .sc (.bool false), .sc (.int .i64 0), .sc (.bool false), .sc (.string (⟨#[]⟩)), .nl, .sc (.int .i64 0), .sc (.bool false), .sc (.bool false), .sc (.string (⟨#[]⟩)), .sc (.bool false), .nl, .sc (.int .i64 0), .sc (.bool false), .nl, .nl, .nl]) s7 (.here) (Ak rfl) rfl (A3 rfl) rfl fun H s54 => ?_
      refine Ao s54 (.here) rfl ?_
      refine A5 (cs' := [.sc (.int .i64 p.fType), .sc (.bool false), .sc (.int .i64 0), .sc (.bool false), .sc (.int .i64 p.fId), .sc (.string (⟨#[]⟩)), .nl, .sc (.string (⟨#[]⟩)), .sc (.int .i64 0), .sc (.bool false), .sc (.int .i64 0), .sc (.bool false), .sc (.string (⟨#[]⟩)), .nl, .sc (.int .i64 0), .sc (.bool false), .sc (.bool false), .sc (.string (⟨#[]⟩)), .sc (.bool false), .nl, .sc (.int .i64 0), .sc (.bool false), .nl, .nl, .nl]) s54 Do (Ai (Aa rfl (Aa rfl (Aa rfl (Aa rfl (Aa rfl (Aa rfl (Aa rfl (Aa rfl (Aa rfl (Aa rfl (Aa rfl (Aa rfl (Aa rfl (Aa rfl (Aa rfl (Aa rfl (Aa rfl (Aa rfl (Aa rfl (Aa rfl (Aa rfl (Aa rfl (Aa rfl (Aa rfl (Aa rfl rfl)))))))))))))))))))))))))) rfl (A3 rfl) rfl fun H s55 => ?_
      refine Ao s55 (.here) rfl ?_
      have e : A7 false p = (⟨p.fType, false, 0, false, p.fId, ⟨#[]⟩, ⟨#[]⟩, ⟨#[]⟩, 0, false, 0, false, ⟨#[]⟩, ⟨#[]⟩, 0, false, false, ⟨#[]⟩, false, ⟨#[]⟩, 0, false, [], [], []⟩ : Ay) := by
       clear hk s0 s2 s4 s6 s7 s54 s55
       simp only [decide_eq_true_eq, decide_eq_false_iff_not] at h8 h36 h40 h50 h53
       simp [A7, Cv, Cu, Eo, h8, h36, h40, h50, h53]
      rw [e] at hk
      exact hk _ _ (fun L' => (.cons .sc (.cons .sc (.cons .sc (.cons .sc (.cons .sc (.cons .sc (.cons .nl (.cons .sc (.cons .sc (.cons .sc (.cons .sc (.cons .sc (.cons .sc (.cons .nl (.cons .sc (.cons .sc (.cons .sc (.cons .sc (.cons .sc (.cons .nl (.cons .sc (.cons .sc (.cons .nl (.cons .nl (.cons .nl .nil)))))))))))))))))))))))))) s55.tail.tail.tail
     ·refine B5 h53 ?_
      refine Bx ?_
      refine Ae ((decide (p.fType = 6))) (fun h56 => ?_) (fun h56 => ?_)
      ·refine C9 h56 ?_
       refine C9 h56 ?_
       refine Ac (o' := 4) rfl ?_
       refine Bp (c := .sc (.int .i64 p.fId)) s7 Dn rfl ?_
       refine Ac (o' := 4) rfl ?_
       refine A5 (cs' := [.sc (.int .i64 p.fType), .sc (.bool false), .sc (.int .i64 0), .sc (.bool false), .sc (.int .i64 p.fId), .sc (.string (⟨#[]⟩)), .nl, .sc (.string (⟨#[]⟩)), .sc (.int .i64 0), .sc (.bool false), .sc (.int .i64 0), .sc (.bool false), .sc (.string (⟨#[]⟩)), .nl, .sc (.int .i64 0), .sc (.bool false), .sc (.bool false), .sc (.string (⟨#[]⟩)), .sc (.bool false), .nl, .sc (.int .i64 0), .sc (.bool false), .nl, .nl, .nl]) s7 (.here) (Ak rfl) rfl (A3 rfl) rfl fun H s57 => ?_
       refine Ao s57 (.here) rfl ?_
       refine A5 (cs' := [.sc (.int .i64 p.fType), .sc (.bool false), .sc (.int .i64 0), .sc (.bool false), .sc (.int .i64 p.fId), .sc (.string (⟨#[]⟩)), .nl, .sc (.string (⟨#[]⟩)), .sc (.int .i64 0), .sc (.bool false), .sc (.int .i64 0), .sc (.bool false), .sc (.string (⟨#[]⟩)), .nl, .sc (.int .i64 0), .sc (.bool false), .sc (.bool false), .sc (.string (⟨#[]⟩)), .sc (.bool false), .nl, .sc (.int .i64 0), .sc (.bool false), .nl, .nl, .nl]) s57 Do (Ai (Aa rfl (Aa rfl (Aa rfl (Aa rfl (Aa rfl (Aa rfl (Aa rfl (Aa rfl (Aa rfl (Aa rfl (Aa rfl (Aa rfl (Aa rfl (Aa rfl (Aa rfl (Aa rfl (Aa rfl (Aa rfl (Aa rfl (Aa rfl (Aa rfl (Aa rfl (Aa rfl (Aa rfl (Aa rfl rfl)))))))))))))))))))))))))) rfl (A3 rfl) rfl fun H s58 => ?_
       refine Ao s58 (.here) rfl ?_
       have e : A7 false p = (⟨p.fType, false, 0, false, p.fId, ⟨#[]⟩, ⟨#[]⟩, ⟨#[]⟩, 0, false, 0, false, ⟨#[]⟩, ⟨#[]⟩, 0, false, false, ⟨#[]⟩, false, ⟨#[]⟩, 0, false, [], [], []⟩ : Ay) := by
        clear hk s0 s2 s4 s6 s7 s57 s58
        simp only [decide_eq_true_eq, decide_eq_false_iff_not] at h8 h36 h40 h50 h53 h56
        simp [A7, Cv, Cu, Eo, h8, h36, h40, h50, h53, h56]
       rw [e] at hk
       exact hk _ _ (fun L' => (.cons .sc (.cons .sc (.cons .sc (.cons .sc (.cons .sc (.cons .sc (.cons .nl (.cons .sc (.cons .sc (.cons .sc (.cons .sc (.cons .sc (.cons .sc (.cons .nl (.cons .sc (.cons .sc (.cons .sc (.cons .sc (.cons .sc (.cons .nl (.cons .sc (.cons .sc (.cons .nl (.cons .nl (.cons .nl .nil)))))))))))))))))))))))))) s58.tail.tail.tail
      ·refine B5 h56 ?_
       refine Bx ?_
       refine Ae ((decide (p.fType = 7))) (fun h59 => ?_) (fun h59 => ?_)
       ·refine C9 h59 ?_
        refine C9 h59 ?_
        refine Ac (o' := 4) rfl ?_
        refine Bp (c := .sc (.int .i64 p.fId)) s7 Dn rfl ?_
        refine Ac (o' := 4) rfl ?_
        refine A5 (cs' := [.sc (.int .i64 p.fType), .sc (.bool false), .sc (.int .i64 0), .sc (.bool false), .sc (.int .i64 p.fId), .sc (.string (⟨#[]⟩)), .nl, .sc (.string (⟨#[]⟩)), .sc (.int .i64 0), .sc (.bool false), .sc (.int .i64 0), .sc (.bool false), .sc (.string (⟨#[]⟩)), .nl, .sc (.int .i64 0), .sc (.bool false), .sc (.bool false), .sc (.string (⟨#[]⟩)), .sc (.bool false), .nl, .sc (.int .i64 0), .sc (.bool false), .nl, .nl, .nl]) s7 (.here) (Ak rfl) rfl (A3 rfl) rfl fun H s60 => ?_
        refine Ao s60 (.here) rfl ?_
        refine A5 (cs' := [.sc (.int .i64 p.fType), .sc (.bool false), .sc (.int .i64 0), .sc (.bool false), .sc (.int .i64 p.fId), .sc (.string (⟨#[]⟩)), .nl, .sc (.string (⟨#[]⟩)), .sc (.int .i64 0), .sc (.bool false), .sc (.int .i64 0), .sc (.bool false), .sc (.string (⟨#[]⟩)), .nl, .sc (.int .i64 0), .sc (.bool false), .sc (.bool false), .sc (.string (⟨#[]⟩)), .sc (.bool false), .nl, .sc (.int .i64 0), .sc (.bool false), .nl, .nl, .nl]) s60 Do (Ai (Aa rfl (Aa rfl (Aa rfl (Aa rfl (Aa rfl (Aa rfl (Aa rfl (Aa rfl (Aa rfl (Aa rfl (Aa rfl (Aa rfl (Aa rfl (Aa rfl (Aa rfl (Aa rfl (Aa rfl (Aa rfl (Aa rfl (Aa rfl (Aa rfl (Aa rfl (Aa rfl (Aa rfl (Aa rfl rfl)))))))))))))))))))))))))) rfl (A3 rfl) rfl fun H s61 => ?_
        refine Ao s61 (.here) rfl ?_
        have e : A7 false p = (⟨p.fType, false, 0, false, p.fId, ⟨#[]⟩, ⟨#[]⟩, ⟨#[]⟩, 0, false, 0, false, ⟨#[]⟩, ⟨#[]⟩, 0, false, false, ⟨#[]⟩, false, ⟨#[]⟩, 0, false, [], [], []⟩ : Ay) := by
         clear hk s0 s2 s4 s6 s7 s60 s61
         simp only [decide_eq_true_eq, decide_eq_false_iff_not] at h8 h36 h40 h50 h53 h56 h59
         simp [A7, Cv, Cu, Eo, h8, h36, h40, h50, h53, h56, h59]
        rw [e] at hk
        exact hk _ _ (fun L' => (.cons .sc (.cons .sc (.cons .sc (.cons .sc (.cons .sc (.cons .sc (.cons .nl (.cons .sc (.cons .sc (.cons .sc (.cons .sc (.cons .sc (.cons .sc (.cons .nl (.cons .sc (.cons .sc (.cons .sc (.cons .sc (.cons .sc (.cons .nl (.cons .sc (.cons .sc (.cons .nl (.cons .nl (.cons .nl .nil)))))))))))))))))))))))))) s61.tail.tail.tail
       ·refine B5 h59 ?_
        refine Bx ?_
        refine Ae ((decide (p.fType = 11))) (fun h62 => ?_) (fun h62 => ?_)
        ·refine C9 h62 ?_
         refine Ac (o' := 4) rfl ?_
         refine Bp (c := .sc (.int .i64 p.fId)) s7 Dn rfl ?_
         refine Ac (o' := 4) rfl ?_
         refine A5 (cs' := [.sc (.int .i64 p.fType), .sc (.bool false), .sc (.int .i64 0), .sc (.bool false), .sc (.int .i64 p.fId), .sc (.string (⟨#[]⟩)), .nl, .sc (.string (⟨#[]⟩)), .sc (.int .i64 0), .sc (.bool false), .sc (.int .i64 0), .sc (.bool false), .sc (.string (⟨#[]⟩)), .nl, .sc (.int .i64 0), .sc (.bool false), .sc (.bool false), .sc (.string (⟨#[]⟩)), .sc (.bool false), .nl, .sc (.int .i64 0), .sc (.bool false), .nl, .nl, .nl]) s7 (.here) (Ak rfl) rfl (A3 rfl) rfl fun H s63 => ?_
         refine Ao s63 (.here) rfl ?_
         refine A5 (cs' := [.sc (.int .i64 p.fType), .sc (.bool false), .sc (.int .i64 0), .sc (.bool false), .sc (.int .i64 p.fId), .sc (.string (⟨#[]⟩)), .nl, .sc (.string (⟨#[]⟩)), .sc (.int .i64 0), .sc (.bool false), .sc (.int .i64 0), .sc (.bool false), .sc (.string (⟨#[]⟩)), .nl, .sc (.int .i64 0), .sc (.bool false), .sc (.bool false), .sc (.string (⟨#[]⟩)), .sc (.bool false), .nl, .sc (.int .i64 0), .sc (.bool false), .nl, .nl, .nl]) s63 Do (Ai (Aa rfl (Aa rfl (Aa rfl (Aa rfl (Aa rfl (Aa rfl (Aa rfl (Aa rfl (Aa rfl (Aa rfl (Aa rfl (Aa rfl (Aa rfl (Aa rfl (Aa rfl (Aa rfl (Aa rfl (Aa rfl (Aa rfl (Aa rfl (Aa rfl (Aa rfl (Aa rfl (Aa rfl (Aa rfl rfl)))))))))))))))))))))))))) rfl (A3 rfl) rfl fun H s64 => ?_
         refine Ao s64 (.here) rfl ?_
         have e : A7 false p = (⟨p.fType, false, 0, false, p.fId, ⟨#[]⟩, ⟨#[]⟩, ⟨#[]⟩, 0, false, 0, false, ⟨#[]⟩, ⟨#[]⟩, 0, false, false, ⟨#[]⟩, false, ⟨#[]⟩, 0, false, [], [], []⟩ : Ay) := by
          clear hk s0 s2 s4 s6 s7 s63 s64
          simp only [decide_eq_true_eq, decide_eq_false_iff_not] at h8 h36 h40 h50 h53 h56 h59 h62
          simp [A7, Cv, Cu, Eo, h8, h36, h40, h50, h53, h56, h59, h62]
         rw [e] at hk
         exact hk _ _ (fun L' => (.cons .sc (.cons .sc (.cons .sc (.cons .sc (.cons .sc (.cons .sc (.cons .nl (.cons .sc (.cons .sc (.cons .sc (.cons .sc (.cons .sc (.cons .sc (.cons .nl (.cons .sc (.cons .sc (.cons .sc (.cons .sc (.cons .sc (.cons .nl (.cons .sc (.cons .sc (.cons .nl (.cons .nl (.cons .nl .nil)))))))))))))))))))))))))) s64.tail.tail.tail
        ·refine B5 h62 ?_
         refine Bx ?_
         refine Ae ((decide (p.fType = 8))) (fun h65 => ?_) (fun h65 => ?_)
         ·refine C9 h65 ?_
          refine Ac (o' := 4) rfl ?_
          refine Bp (c := .sc (.int .i64 p.fId)) s7 Dn rfl ?_
          refine Ac (o' := 22) rfl ?_
          refine Ac (o' := 4) rfl ?_
          refine Ew s7 Dn (fun y hy => (List.mem_cons.1 hy).elim (fun e => ⟨_, _, _, _, e, _, (.here)⟩) ((fun y hy => absurd hy (by simp)) y)) ?_
          refine Bp (c := At B0 p.fWants) s7 Dn rfl ?_
          refine F3 ?_
          refine A5 (cs' := [.sc (.int .i64 p.fType), .sc (.bool false), .sc (.int .i64 0), .sc (.bool false), .sc (.int .i64 p.fId), .sc (.string (⟨#[]⟩)), .nl, .sc (.string (⟨#[]⟩)), .sc (.int .i64 0), .sc (.bool false), .sc (.int .i64 0), .sc (.bool false), .sc (.string (⟨#[]⟩)), .nl, .sc (.int .i64 0), .sc (.bool false), .sc (.bool false), .sc (.string (⟨#[]⟩)), .sc (.bool false), .nl, .sc (.int .i64 0), .sc (.bool false), .nl, .nl, .nl]) s7 (.here) (Ak rfl) rfl (A3 rfl) rfl fun H s66 => ?_
          refine Ac (o' := 22) rfl ?_
          refine A5 (cs' := [.sc (.int .i64 p.fType), .sc (.bool false), .sc (.int .i64 0), .sc (.bool false), .sc (.int .i64 p.fId), .sc (.string (⟨#[]⟩)), .nl, .sc (.string (⟨#[]⟩)), .sc (.int .i64 0), .sc (.bool false), .sc (.int .i64 0), .sc (.bool false), .sc (.string (⟨#[]⟩)), .nl, .sc (.int .i64 0), .sc (.bool false), .sc (.bool false), .sc (.string (⟨#[]⟩)), .sc (.bool false), .nl, .sc (.int .i64 0), .sc (.bool false), At B0 p.fWants, .nl, .nl]) s66 (.here) (Ak rfl) rfl (A3 rfl) rfl fun H s67 => ?_
          refine Ao s67 (.here) rfl ?_
          refine A5 (cs' := [.sc (.int .i64 p.fType), .sc (.bool false), .sc (.int .i64 0), .sc (.bool false), .sc (.int .i64 p.fId), .sc (.string (⟨#[]⟩)), .nl, .sc (.string (⟨#[]⟩)), .sc (.int .i64 0), .sc (.bool false), .sc (.int .i64 0), .sc (.bool false), .sc (.string (⟨#[]⟩)), .nl, .sc (.int .i64 0), .sc (.bool false), .sc (.bool false), .sc (.string (⟨#[]⟩)), .sc (.bool false), .nl, .sc (.int .i64 0), .sc (.bool false), At B0 p.fWants, .nl, .nl]) s67 Do (Ai (Aa rfl (Aa rfl (Aa rfl (Aa rfl (Aa rfl (Aa rfl (Aa rfl (Aa rfl (Aa rfl (Aa rfl (Aa rfl (Aa rfl (Aa rfl (Aa rfl (Aa rfl (Aa rfl (Aa rfl (Aa rfl (Aa rfl (Aa rfl (Aa rfl (Aa rfl (Aa rfl (Aa rfl (Aa rfl rfl)))))))))))))))))))))))))) rfl (A3 rfl) rfl fun H s68 => ?_
          refine Ao s68 (.here) rfl ?_
          have e : A7 false p = (⟨p.fType, false, 0, false, p.fId, ⟨#[]⟩, ⟨#[]⟩, ⟨#[]⟩, 0, false, 0, false, ⟨#[]⟩, ⟨#[]⟩, 0, false, false, ⟨#[]⟩, false, ⟨#[]⟩, 0, false, p.fWants, [], []⟩ : Ay) := by
           clear hk s0 s2 s4 s6 s7 s66 s67 s68
           simp only [decide_eq_true_eq, decide_eq_false_iff_not] at h8 h36 h40 h50 h53 h56 h59 h62 h65
           simp [A7, Cv, Cu, Eo, h8, h36, h40, h50, h53, h56, h59, h62, h65]
          rw [e] at hk
          exact hk _ _ (fun L' => (.cons .sc (.cons .sc (.cons .sc (.cons .sc (.cons .sc (.cons .sc (.cons .nl (.cons .sc (.cons .sc (.cons .sc (.cons .sc (.cons .sc (.cons .sc (.cons .nl (.cons .sc (.cons .sc (.cons .sc (.cons .sc (.cons .sc (.cons .nl (.cons .sc (.cons .sc (.cons .ro (.cons .nl (.cons .nl .nil)))))))))))))))))))))))))) s68.tail.tail.tail
         ·refine B5 h65 ?_
          refine Bx ?_
          refine Ae ((decide (p.fType = 9))) (fun h69 => ?_) (fun h69 => ?_)
          ·refine C9 h69 ?_
           refine Ac (o' := 4) rfl ?_
           refine Bp (c := .sc (.int .i64 p.fId)) s7 Dn rfl ?_
           refine Ac (o' := 24) rfl ?_
           refine Ac (o' := 4) rfl ?_
           refine Ew s7 Dn (fun y hy => (List.mem_cons.1 hy).elim (fun e => ⟨_, _, _, _, e, _, (.here)⟩) ((fun y hy => absurd hy (by simp)) y)) ?_
           refine Bp (c := Fs p.fCodes) s7 Dn rfl ?_
           refine F3 ?_
           refine A5 (cs' := [.sc (.int .i64 p.fType), .sc (.bool false), .sc (.int .i64 0), .sc (.bool false), .sc (.int .i64 p.fId), .sc (.string (⟨#[]⟩)), .nl, .sc (.string (⟨#[]⟩)), .sc (.int .i64 0), .sc (.bool false), .sc (.int .i64 0), .sc (.bool false), .sc (.string (⟨#[]⟩)), .nl, .sc (.int .i64 0), .sc (.bool false), .sc (.bool false), .sc (.string (⟨#[]⟩)), .sc (.bool false), .nl, .sc (.int .i64 0), .sc (.bool false), .nl, .nl, .nl]) s7 (.here) (Ak rfl) rfl (A3 rfl) rfl fun H s70 => ?_
           refine Ac (o' := 24) rfl ?_
           refine A5 (cs' := [.sc (.int .i64 p.fType), .sc (.bool false), .sc (.int .i64 0), .sc (.bool false), .sc (.int .i64 p.fId), .sc (.string (⟨#[]⟩)), .nl, .sc (.string (⟨#[]⟩)), .sc (.int .i64 0), .sc (.bool false), .sc (.int .i64 0), .sc (.bool false), .sc (.string (⟨#[]⟩)), .nl, .sc (.int .i64 0), .sc (.bool false), .sc (.bool false), .sc (.string (⟨#[]⟩)), .sc (.bool false), .nl, .sc (.int .i64 0), .sc (.bool false), .nl, .nl, Fs p.fCodes]) s70 (.here) (Ak rfl) rfl (A3 rfl) rfl fun H s71 => ?_
           refine Ao s71 (.here) rfl ?_
           refine A5 (cs' := [.sc (.int .i64 p.fType), .sc (.bool false), .sc (.int .i64 0), .sc (.bool false), .sc (.int .i64 p.fId), .sc (.string (⟨#[]⟩)), .nl, .sc (.string (⟨#[]⟩)), .sc (.int .i64 0), .sc (.bool false), .sc (.int .i64 0), .sc (.bool false), .sc (.string (⟨#[]⟩)), .nl, .sc (.int .i64 0), .sc (.bool false), .sc (.bool false), .sc (.string (⟨#[]⟩)), .sc (.bool false), .nl, .sc (.int .i64 0), .sc (.bool false), .nl, .nl, Fs p.fCodes]) s71 Do (Ai (Aa rfl (Aa rfl (Aa rfl (Aa rfl (Aa rfl (Aa rfl (Aa rfl (Aa rfl (Aa rfl (Aa rfl (Aa rfl (Aa rfl (Aa rfl (Aa rfl (Aa rfl (Aa rfl (Aa rfl (Aa rfl (Aa rfl (Aa rfl (Aa rfl (Aa rfl (Aa rfl (Aa rfl (Aa rfl rfl)))))))))))))))))))))))))) rfl (A3 rfl) rfl fun H s72 => ?_
           refine Ao s72 (.here) rfl ?_
           have e : A7 false p = (⟨p.fType, false, 0, false, p.fId, ⟨#[]⟩, ⟨#[]⟩, ⟨#[]⟩, 0, false, 0, false, ⟨#[]⟩, ⟨#[]⟩, 0, false, false, ⟨#[]⟩, false, ⟨#[]⟩, 0, false, [], [], p.fCodes⟩ : Ay) := by
            clear hk s0 s2 s4 s6 s7 s70 s71 s72
            simp only [decide_eq_true_eq, decide_eq_false_iff_not] at h8 h36 h40 h50 h53 h56 h59 h62 h65 h69
            simp [A7, Cv, Cu, Eo, h8, h36, h40, h50, h53, h56, h59, h62, h65, h69]
           rw [e] at hk
           exact hk _ _ (fun L' => (.cons .sc (.cons .sc (.cons .sc (.cons .sc (.cons .sc (.cons .sc (.cons .nl (.cons .sc (.cons .sc (.cons .sc (.cons .sc (.cons .sc (.cons .sc (.cons .nl (.cons .sc (.cons .sc (.cons .sc (.cons .sc (.cons .sc (.cons .nl (.cons .sc (.cons .sc (.cons .nl (.cons .nl (.cons .ro .nil)))))))))))))))))))))))))) s72.tail.tail.tail
          ·refine B5 h69 ?_
           refine Bx ?_
           refine Ae ((decide (p.fType = 10))) (fun h73 => ?_) (fun h73 => ?_)
           ·refine C9 h73 ?_
            refine Ac (o' := 4) rfl ?_
            refine Bp (c := .sc (.int .i64 p.fId)) s7 Dn rfl ?_
            refine Ac (o' := 23) rfl ?_
            refine Ac (o' := 4) rfl ?_
            refine Ew s7 Dn (fun y hy => (List.mem_cons.1 hy).elim (fun e => ⟨_, _, _, _, e, _, (.here)⟩) ((fun y hy => absurd hy (by simp)) y)) ?_
            refine Bp (c := Fv p.fNames) s7 Dn rfl ?_
            refine F3 ?_
            refine A5 (cs' := [.sc (.int .i64 p.fType), .sc (.bool false), .sc (.int .i64 0), .sc (.bool false), .sc (.int .i64 p.fId), .sc (.string (⟨#[]⟩)), .nl, .sc (.string (⟨#[]⟩)), .sc (.int .i64 0), .sc (.bool false), .sc (.int .i64 0), .sc (.bool false), .sc (.string (⟨#[]⟩)), .nl, .sc (.int .i64 0), .sc (.bool false), .sc (.bool false), .sc (.string (⟨#[]⟩)), .sc (.bool false), .nl, .sc (.int .i64 0), .sc (.bool false), .nl, .nl, .nl]) s7 (.here) (Ak rfl) rfl (A3 rfl) rfl fun H s74 => ?_
            refine Ac (o' := 23) rfl ?_
            refine A5 (cs' := [.sc (.int .i64 p.fType), .sc (.bool false), .sc (.int .i64 0), .sc (.bool false), .sc (.int .i64 p.fId), .sc (.string (⟨#[]⟩)), .nl, .sc (.string (⟨#[]⟩)), .sc (.int .i64 0), .sc (.bool false), .sc (.int .i64 0), .sc (.bool false), .sc (.string (⟨#[]⟩)), .nl, .sc (.int .i64 0), .sc (.bool false), .sc (.bool false), .sc (.string (⟨#[]⟩)), .sc (.bool false), .nl, .sc (.int .i64 0), .sc (.bool false), .nl, Fv p.fNames, .nl]) s74 (.here) (Ak rfl) rfl (A3 rfl) rfl fun H s75 => ?_
            refine Ao s75 (.here) rfl ?_
            refine A5 (cs' := [.sc (.int .i64 p.fType), .sc (.bool false), .sc (.int .i64 0), .sc (.bool false), .sc (.int .i64 p.fId), .sc (.string (⟨#[]⟩)), .nl, .sc (.string (⟨#[]⟩)), .sc (.int .i64 0), .sc (.bool false), .sc (.int .i64 0), .sc (.bool false), .sc (.string (⟨#[]⟩)), .nl, .sc (.int .i64 0), .sc (.bool false), .sc (.bool false), .sc (.string (⟨#[]⟩)), .sc (.bool false), .nl, .sc (.int .i64 0), .sc (.bool false), .nl, Fv p.fNames, .nl]) s75 Do (Ai (Aa rfl (Aa rfl (Aa rfl (Aa rfl (Aa rfl (Aa rfl (Aa rfl (Aa rfl (Aa rfl (Aa rfl (Aa rfl (Aa rfl (Aa rfl (Aa rfl (Aa rfl (Aa rfl (Aa rfl (Aa rfl (Aa rfl (Aa rfl (Aa rfl (Aa rfl (Aa rfl (Aa rfl (Aa rfl rfl)))))))))))))))))))))))))) rfl (A3 rfl) rfl fun H s76 => ?_
            refine Ao s76 (.here) rfl ?_
            have e : A7 false p = (⟨p.fType, false, 0, false, p.fId, ⟨#[]⟩, ⟨#[]⟩, ⟨#[]⟩, 0, false, 0, false, ⟨#[]⟩, ⟨#[]⟩, 0, false, false, ⟨#[]⟩, false, ⟨#[]⟩, 0, false, [], p.fNames, []⟩ : Ay) := by
             clear hk s0 s2 s4 s6 s7 s74 s75 s76
             simp only [decide_eq_true_eq, decide_eq_false_iff_not] at h8 h36 h40 h50 h53 h56 h59 h62 h65 h69 h73
             simp [A7, Cv, Cu, Eo, h8, h36, h40, h50, h53, h56, h59, h62, h65, h69, h73]
            rw [e] at hk
            exact hk _ _ (fun L' => (.cons .sc (.cons .sc (.cons .sc (.cons .sc (.cons .sc (.cons .sc (.cons .nl (.cons .sc (.cons .sc (.cons .sc (.cons .sc (.cons .sc (.cons .sc (.cons .nl (.cons .sc (.cons .sc (.cons .sc (.cons .sc (.cons .sc (.cons .nl (.cons .sc (.cons .sc (.cons .nl (.cons .ro (.cons .nl .nil)))))))))))))))))))))))))) s76.tail.tail.tail
           ·refine B5 h73 ?_
            refine Ao s7 (.here) rfl ?_
            refine A5 (cs' := [.sc (.int .i64 p.fType), .sc (.bool false), .sc (.int .i64 0), .sc (.bool false), .sc (.int .i64 0), .sc (.string (⟨#[]⟩)), .nl, .sc (.string (⟨#[]⟩)), .sc (.int .i64 0), .sc (.bool false), .sc (.int .i64 0), .sc (.bool false), .sc (.string (⟨#[]⟩)), .nl, .sc (.int .i64 0), .sc (.bool false), .sc (.bool false), .sc (.string (⟨#[]⟩)), .sc (.bool false), .nl, .sc (.int .i64 0), .sc (.bool false), .nl, .nl, .nl]) s7 Do (Ai (Aa rfl (Aa rfl (Aa rfl (Aa rfl (Aa rfl (Aa rfl (Aa rfl (Aa rfl (Aa rfl (Aa rfl (Aa rfl (Aa rfl (Aa rfl (Aa rfl (Aa rfl (Aa rfl (Aa rfl (Aa rfl (Aa rfl (Aa rfl (Aa rfl (Aa rfl (Aa rfl (Aa rfl (Aa rfl rfl)))))))))))))))))))))))))) rfl (A3 rfl) rfl fun H s77 => ?_
            refine Ao s77 (.here) rfl ?_
            have e : A7 false p = (⟨p.fType, false, 0, false, 0, ⟨#[]⟩, ⟨#[]⟩, ⟨#[]⟩, 0, false, 0, false, ⟨#[]⟩, ⟨#[]⟩, 0, false, false, ⟨#[]⟩, false, ⟨#[]⟩, 0, false, [], [], []⟩ : Ay) := by
             clear hk s0 s2 s4 s6 s7 s77
             simp only [decide_eq_true_eq, decide_eq_false_iff_not] at h8 h36 h40 h50 h53 h56 h59 h62 h65 h69 h73
             simp [A7, Cv, Cu, Eo, h8, h36, h40, h50, h53, h56, h59, h62, h65, h69, h73]
            rw [e] at hk
            exact hk _ _ (fun L' => (.cons .sc (.cons .sc (.cons .sc (.cons .sc (.cons .sc (.cons .sc (.cons .nl (.cons .sc (.cons .sc (.cons .sc (.cons .sc (.cons .sc (.cons .sc (.cons .nl (.cons .sc (.cons .sc (.cons .sc (.cons .sc (.cons .sc (.cons .nl (.cons .sc (.cons .sc (.cons .nl (.cons .nl (.cons .nl .nil)))))))))))))))))))))))))) s77.tail.tail.tail
theorem Sr (n : Nat) (hn : 1048576 < n) (p : Ay) {β : Type} {G : Option β → Prop} {KH : KO β} {H : Ab} {L : List Ck} (s0 : Sep H (L)) (hk : ∀ raw H', (∀ L', VwL L' 7 raw (Aq (A7 true p))) → Sep H' L → Gd G (KH (.agg raw) H')) : Gd G (Cz E0 (n + 1) β 222 [.agg (Aq p)] H fun x H => KH x H) := by
 rw [Ag8, f222]
 try simp only [B6, Cp, Bj, Bb, Bo, Bg, A9, Br, B4, B3]
 refine Tk s0 (Ip (D0 _)) fun i1 H s2 => ?_
 refine H4 s2 fun i3 H s4 => ?_
 refine Ac (o' := 0) rfl ?_
 refine Bp (c := .sc (.int .i64 p.fType)) s4 Do rfl ?_
 refine E5 (cs := [.sc (.int .i64 p.fType), .sc (.bool false), .sc (.int .i64 0), .sc (.bool false), .sc (.int .i64 0), .sc (.string (⟨#[]⟩)), .nl, .sc (.string (⟨#[]⟩)), .sc (.int .i64 0), .sc (.bool false), .sc (.int .i64 0), .sc (.bool false), .sc (.string (⟨#[]⟩)), .nl, .sc (.int .i64 0), .sc (.bool false), .sc (.bool false), .sc (.string (⟨#[]⟩)), .sc (.bool false), .nl, .sc (.int .i64 0), .sc (.bool false), .nl, .nl, .nl]) rfl ?_
 refine H4 s4 fun i5 H s6 => ?_
 refine A5 (cs' := [.sc (.int .i64 p.fType), .sc (.bool false), .sc (.int .i64 0), .sc (.bool false), .sc (.int .i64 0), .sc (.string (⟨#[]⟩)), .nl, .sc (.string (⟨#[]⟩)), .sc (.int .i64 0), .sc (.bool false), .sc (.int .i64 0), .sc (.bool false), .sc (.string (⟨#[]⟩)), .nl, .sc (.int .i64 0), .sc (.bool false), .sc (.bool false), .sc (.string (⟨#[]⟩)), .sc (.bool false), .nl, .sc (.int .i64 0), .sc (.bool false), .nl, .nl, .nl]) s6 (.here) (Ai (Aa rfl (Aa rfl (Aa rfl (Aa rfl (Aa rfl (Aa rfl (Aa rfl (Aa rfl (Aa rfl (Aa rfl (Aa rfl (Aa rfl (Aa rfl (Aa rfl (Aa rfl (Aa rfl (Aa rfl (Aa rfl (Aa rfl (Aa rfl (Aa rfl (Aa rfl (Aa rfl (Aa rfl (Aa rfl rfl)))))))))))))))))))))))))) rfl (A3 rfl) rfl fun H s7 => ?_
 refine Ac (o' := 0) rfl ?_
 refine Bp (c := .sc (.int .i64 p.fType)) s7 Dn rfl ?_
 refine Bx ?_
 refine Ae ((decide (p.fType = 1))) (fun h8 => ?_) (fun h8 => ?_)
 ·refine C9 h8 ?_
  refine Ac (o' := 8) rfl ?_
  refine Bp (c := .sc (.int .i64 p.fLevel)) s7 Dn rfl ?_
  refine Ac (o' := 8) rfl ?_
  refine A5 (cs' := [.sc (.int .i64 p.fType), .sc (.bool false), .sc (.int .i64 0), .sc (.bool false), .sc (.int .i64 0), .sc (.string (⟨#[]⟩)), .nl, .sc (.string (⟨#[]⟩)), .sc (.int .i64 p.fLevel), .sc (.bool false), .sc (.int .i64 0), .sc (.bool false), .sc (.string (⟨#[]⟩)), .nl, .sc (.int .i64 0), .sc (.bool false), .sc (.bool false), .sc (.string (⟨#[]⟩)), .sc (.bool false), .nl, .sc (.int .i64 0), .sc (.bool false), .nl, .nl, .nl]) s7 (.here) (Ak rfl) rfl (A3 rfl) rfl fun H s9 => ?_
  refine Ac (o' := 7) rfl ?_
  refine Bp (c := .sc (.string p.fClient)) s9 Dn rfl ?_
  refine Ac (o' := 7) rfl ?_
  refine A5 (cs' := [.sc (.int .i64 p.fType), .sc (.bool false), .sc (.int .i64 0), .sc (.bool false), .sc (.int .i64 0), .sc (.string (⟨#[]⟩)), .nl, .sc (.string p.fClient), .sc (.int .i64 p.fLevel), .sc (.bool false), .sc (.int .i64 0), .sc (.bool false), .sc (.string (⟨#[]⟩)), .nl, .sc (.int .i64 0), .sc (.bool false), .sc (.bool false), .sc (.string (⟨#[]⟩)), .sc (.bool false), .nl, .sc (.int .i64 0), .sc (.bool false), .nl, .nl, .nl]) s9 (.here) (Ak rfl) rfl (A3 rfl) rfl fun H s10 => ?_
  refine Ac (o' := 9) rfl ?_
  refine Bp (c := .sc (.bool p.fClean)) s10 Dn rfl ?_
  refine Ac (o' := 9) rfl ?_
  refine A5 (cs' := [.sc (.int .i64 p.fType), .sc (.bool false), .sc (.int .i64 0), .sc (.bool false), .sc (.int .i64 0), .sc (.string (⟨#[]⟩)), .nl, .sc (.string p.fClient), .sc (.int .i64 p.fLevel), .sc (.bool p.fClean), .sc (.int .i64 0), .sc (.bool false), .sc (.string (⟨#[]⟩)), .nl, .sc (.int .i64 0), .sc (.bool false), .sc (.bool false), .sc (.string (⟨#[]⟩)), .sc (.bool false), .nl, .sc (.int .i64 0), .sc (.bool false), .nl, .nl, .nl]) s10 (.here) (Ak rfl) rfl (A3 rfl) rfl fun H s11 => ?_
  refine Ac (o' := 10) rfl ?_
  refine Bp (c := .sc (.int .i64 p.fKeep)) s11 Dn rfl ?_
  refine Ac (o' := 10) rfl ?_
  refine A5 (cs' := [.sc (.int .i64 p.fType), .sc (.bool false), .sc (.int .i64 0), .sc (.bool false), .sc (.int .i64 0), .sc (.string (⟨#[]⟩)), .nl, .sc (.string p.fClient), .sc (.int .i64 p.fLevel), .sc (.bool p.fClean), .sc (.int .i64 p.fKeep), .sc (.bool false), .sc (.string (⟨#[]⟩)), .nl, .sc (.int .i64 0), .sc (.bool false), .sc (.bool false), .sc (.string (⟨#[]⟩)), .sc (.bool false), .nl, .sc (.int .i64 0), .sc (.bool false), .nl, .nl, .nl]) s11 (.here) (Ak rfl) rfl (A3 rfl) rfl fun H s12 => ?_
  refine Ac (o' := 11) rfl ?_
  refine Bp (c := .sc (.bool p.fHasWill)) s12 Dn rfl ?_
  refine Hv ?_
  refine Ae (p.fHasWill) (fun h13 => ?_) (fun h13 => ?_)
  ·refine C9 h13 ?_
   refine Ac (o' := 11) rfl ?_
   refine A5 (cs' := [.sc (.int .i64 p.fType), .sc (.bool false), .sc (.int .i64 0), .sc (.bool false), .sc (.int .i64 0), .sc (.string (⟨#[]⟩)), .nl, .sc (.string p.fClient), .sc (.int .i64 p.fLevel), .sc (.bool p.fClean), .sc (.int .i64 p.fKeep), .sc (.bool true), .sc (.string (⟨#[]⟩)), .nl, .sc (.int .i64 0), .sc (.bool false), .sc (.bool false), .sc (.string (⟨#[]⟩)), .sc (.bool false), .nl, .sc (.int .i64 0), .sc (.bool false), .nl, .nl, .nl]) s12 (.here) (Ak rfl) rfl (A3 rfl) rfl fun H s14 => ?_
   refine Ac (o' := 12) rfl ?_
   refine Bp (c := .sc (.string p.fWTopic)) s14 Dn rfl ?_
   refine Ac (o' := 12) rfl ?_
   refine A5 (cs' := [.sc (.int .i64 p.fType), .sc (.bool false), .sc (.int .i64 0), .sc (.bool false), .sc (.int .i64 0), .sc (.string (⟨#[]⟩)), .nl, .sc (.string p.fClient), .sc (.int .i64 p.fLevel), .sc (.bool p.fClean), .sc (.int .i64 p.fKeep), .sc (.bool true), .sc (.string p.fWTopic), .nl, .sc (.int .i64 0), .sc (.bool false), .sc (.bool false), .sc (.string (⟨#[]⟩)), .sc (.bool false), .nl, .sc (.int .i64 0), .sc (.bool false), .nl, .nl, .nl]) s14 (.here) (Ak rfl) rfl (A3 rfl) rfl fun H s15 => ?_
   refine Ac (o' := 13) rfl ?_
   refine Bp (c := As p.fWBody) s15 Dn rfl ?_
   refine Ac (o' := 13) rfl ?_
   refine A5 (cs' := [.sc (.int .i64 p.fType), .sc (.bool false), .sc (.int .i64 0), .sc (.bool false), .sc (.int .i64 0), .sc (.string (⟨#[]⟩)), .nl, .sc (.string p.fClient), .sc (.int .i64 p.fLevel), .sc (.bool p.fClean), .sc (.int .i64 p.fKeep), .sc (.bool true), .sc (.string p.fWTopic), As p.fWBody, .sc (.int .i64 0), .sc (.bool false), .sc (.bool false), .sc (.string (⟨#[]⟩)), .sc (.bool false), .nl, .sc (.int .i64 0), .sc (.bool false), .nl, .nl, .nl]) s15 (.here) (Ak rfl) rfl (A3 rfl) rfl fun H s16 => ?_
   refine Ac (o' := 14) rfl ?_
   refine Bp (c := .sc (.int .i64 p.fWQos)) s16 Dn rfl ?_
   refine Ac (o' := 14) rfl ?_
   refine A5 (cs' := [.sc (.int .i64 p.fType), .sc (.bool false), .sc (.int .i64 0), .sc (.bool false), .sc (.int .i64 0), .sc (.string (⟨#[]⟩)), .nl, .sc (.string p.fClient), .sc (.int .i64 p.fLevel), .sc (.bool p.fClean), .sc (.int .i64 p.fKeep), .sc (.bool true), .sc (.string p.fWTopic), As p.fWBody, .sc (.int .i64 p.fWQos), .sc (.bool false), .sc (.bool false), .sc (.string (⟨#[]⟩)), .sc (.bool false), .nl, .sc (.int .i64 0), .sc (.bool false), .nl, .nl, .nl]) s16 (.here) (Ak rfl) rfl (A3 rfl) rfl fun H s17 => ?_
   refine Ac (o' := 15) rfl ?_
   refine Bp (c := .sc (.bool p.fWRetain)) s17 Dn rfl ?_
   refine Ac (o' := 15) rfl ?_
   refine A5 (cs' := [.sc (.int .i64 p.fType), .sc (.bool false), .sc (.int .i64 0), .sc (.bool false), .sc (.int .i64 0), .sc (.string (⟨#[]⟩)), .nl, .sc (.string p.fClient), .sc (.int .i64 p.fLevel), .sc (.bool p.fClean), .sc (.int .i64 p.fKeep), .sc (.bool true), .sc (.string p.fWTopic), As p.fWBody, .sc (.int .i64 p.fWQos), .sc (.bool p.fWRetain), .sc (.bool false), .sc (.string (⟨#[]⟩)), .sc (.bool false), .nl, .sc (.int .i64 0), .sc (.bool false), .nl, .nl, .nl]) s17 (.here) (Ak rfl) rfl (A3 rfl) rfl fun H s18 => ?_
   refine Ac (o' := 16) rfl ?_
   refine Bp (c := .sc (.bool p.fHasUser)) s18 Dn rfl ?_
   refine Ae (p.fHasUser) (fun h19 => ?_) (fun h19 => ?_)
   ·refine C9 h19 ?_
    refine Ac (o' := 16) rfl ?_
    refine A5 (cs' := [.sc (.int .i64 p.fType), .sc (.bool false), .sc (.int .i64 0), .sc (.bool false), .sc (.int .i64 0), .sc (.string (⟨#[]⟩)), .nl, .sc (.string p.fClient), .sc (.int .i64 p.fLevel), .sc (.bool p.fClean), .sc (.int .i64 p.fKeep), .sc (.bool true), .sc (.string p.fWTopic), As p.fWBody, .sc (.int .i64 p.fWQos), .sc (.bool p.fWRetain), .sc (.bool true), .sc (.string (⟨#[]⟩)), .sc (.bool false), .nl, .sc (.int .i64 0), .sc (.bool false), .nl, .nl, .nl]) s18 (.here) (Ak rfl) rfl (A3 rfl) rfl fun H s20 => ?_
    refine Ac (o' := 17) rfl ?_
    refine Bp (c := .sc (.string p.fUser)) s20 Dn rfl ?_
    refine Ac (o' := 17) rfl ?_
    refine A5 (cs' := [.sc (.int .i64 p.fType), .sc (.bool false), .sc (.int .i64 0), .sc (.bool false), .sc (.int .i64 0), .sc (.string (⟨#[]⟩)), .nl, .sc (.string p.fClient), .sc (.int .i64 p.fLevel), .sc (.bool p.fClean), .sc (.int .i64 p.fKeep), .sc (.bool true), .sc (.string p.fWTopic), As p.fWBody, .sc (.int .i64 p.fWQos), .sc (.bool p.fWRetain), .sc (.bool true), .sc (.string p.fUser), .sc (.bool false), .nl, .sc (.int .i64 0), .sc (.bool false), .nl, .nl, .nl]) s20 (.here) (Ak rfl) rfl (A3 rfl) rfl fun H s21 => ?_
    refine Ac (o' := 18) rfl ?_
    refine Bp (c := .sc (.bool p.fHasPass)) s21 Dn rfl ?_
    refine Ae (p.fHasPass) (fun h22 => ?_) (fun h22 => ?_)
    ·refine C9 h22 ?_
     refine Ac (o' := 18) rfl ?_
     refine A5 (cs' := [.sc (.int .i64 p.fType), .sc (.bool false), .sc (.int .i64 0), .sc (.bool false), .sc (.int .i64 0), .sc (.string (⟨#[]⟩)), .nl, .sc (.string p.fClient), .sc (.int .i64 p.fLevel), .sc (.bool p.fClean), .sc (.int .i64 p.fKeep), .sc (.bool true), .sc (.string p.fWTopic), As p.fWBody, .sc (.int .i64 p.fWQos), .sc (.bool p.fWRetain), .sc (.bool true), .sc (.string p.fUser), .sc (.bool true), .nl, .sc (.int .i64 0), .sc (.bool false), .nl, .nl, .nl]) s21 (.here) (Ak rfl) rfl (A3 rfl) rfl fun H s23 => ?_
     refine Ac (o' := 19) rfl ?_
     refine Bp (c := As p.fPass) s23 Dn rfl ?_
     refine Ac (o' := 19) rfl ?_
     refine A5 (cs' := [.sc (.int .i64 p.fType), .sc (.bool false), .sc (.int .i64 0), .sc (.bool false), .sc (.int .i64 0), .sc (.string (⟨#[]⟩)), .nl, .sc (.string p.fClient), .sc (.int .i64 p.fLevel), .sc (.bool p.fClean), .sc (.int .i64 p.fKeep), .sc (.bool true), .sc (.string p.fWTopic), As p.fWBody, .sc (.int .i64 p.fWQos), .sc (.bool p.fWRetain), .sc (.bool true), .sc (.string p.fUser), .sc (.bool true), As p.fPass, .sc (.int .i64 0), .sc (.bool false), .nl, .nl, .nl]) s23 (.here) (Ak rfl) rfl (A3 rfl) rfl fun H s24 => ?_
     refine Ao s24 (.here) rfl ?_
     refine A5 (cs' := [.sc (.int .i64 p.fType), .sc (.bool false), .sc (.int .i64 0), .sc (.bool false), .sc (.int .i64 0), .sc (.string (⟨#[]⟩)), .nl, .sc (.string p.fClient), .sc (.int .i64 p.fLevel), .sc (.bool p.fClean), .sc (.int .i64 p.fKeep), .sc (.bool true), .sc (.string p.fWTopic), As p.fWBody, .sc (.int .i64 p.fWQos), .sc (.bool p.fWRetain), .sc (.bool true), .sc (.string p.fUser), .sc (.bool true), As p.fPass, .sc (.int .i64 0), .sc (.bool false), .nl, .nl, .nl]) s24 Do (Ai (Aa rfl (Aa rfl (Aa rfl (Aa rfl (Aa rfl (Aa rfl (Aa rfl (Aa rfl (Aa rfl (Aa rfl (Aa rfl (Aa rfl (Aa rfl (Aa rfl (Aa rfl (Aa rfl (Aa rfl (Aa rfl (Aa rfl (Aa rfl (Aa rfl (Aa rfl (Aa rfl (Aa rfl (Aa rfl rfl)))))))))))))))))))))))))) rfl (A3 rfl) rfl fun H s25 => ?_
     refine Ao s25 (.here) rfl ?_
     have e : A7 true p = (⟨p.fType, false, 0, false, 0, ⟨#[]⟩, ⟨#[]⟩, p.fClient, p.fLevel, p.fClean, p.fKeep, true, p.fWTopic, p.fWBody, p.fWQos, p.fWRetain, true, p.fUser, true, p.fPass, 0, false, [], [], []⟩ : Ay) := by
      clear hk s0 s2 s4 s6 s7 s9 s10 s11 s12 s14 s15 s16 s17 s18 s20 s21 s23 s24 s25
      simp only [decide_eq_true_eq, decide_eq_false_iff_not] at h8 h13 h19 h22
      simp [A7, Cv, Cu, Eo, h8, h13, h19, h22]
     rw [e] at hk
     exact hk _ _ (fun L' => (.cons .sc (.cons .sc (.cons .sc (.cons .sc (.cons .sc (.cons .sc (.cons .nl (.cons .sc (.cons .sc (.cons .sc (.cons .sc (.cons .sc (.cons .sc (.cons .ro (.cons .sc (.cons .sc (.cons .sc (.cons .sc (.cons .sc (.cons .ro (.cons .sc (.cons .sc (.cons .nl (.cons .nl (.cons .nl .nil)))))))))))))))))))))))))) s25.tail.tail.tail
    ·refine B5 h22 ?_
     refine Ao s21 (.here) rfl ?_
     refine A5 (cs' := [.sc (.int .i64 p.fType), .sc (.bool false), .sc (.int .i64 0), .sc (.bool false), .sc (.int .i64 0), .sc (.string (⟨#[]⟩)), .nl, .sc (.string p.fClient), .sc (.int .i64 p.fLevel), .sc (.bool p.fClean), .sc (.int .i64 p.fKeep), .sc (.bool true), .sc (.string p.fWTopic), As p.fWBody, .sc (.int .i64 p.fWQos), .sc (.bool p.fWRetain), .sc (.bool true), .sc (.string p.fUser), .sc (.bool false), .nl, .sc (.int .i64 0), .sc (.bool false), .nl, .nl, .nl]) s21 Do (Ai (Aa rfl (Aa rfl (Aa rfl (Aa rfl (Aa rfl (Aa rfl (Aa rfl (Aa rfl (Aa rfl (Aa rfl (Aa rfl (Aa rfl (Aa rfl (Aa rfl (Aa rfl (Aa rfl (Aa rfl (Aa rfl (Aa rfl (Aa rfl (Aa rfl (Aa rfl (Aa rfl (Aa rfl (Aa rfl rfl)))))))))))))))))))))))))) rfl (A3 rfl) rfl fun H s26 => ?_
     refine Ao s26 (.here) rfl ?_
     have e : A7 true p = (⟨p.fType, false, 0, false, 0, ⟨#[]⟩, ⟨#[]⟩, p.fClient, p.fLevel, p.fClean, p.fKeep, true, p.fWTopic, p.fWBody, p.fWQos, p.fWRetain, true, p.fUser, false, ⟨#[]⟩, 0, false, [], [], []⟩ : Ay) := by
      clear hk s0 s2 s4 s6 s7 s9 s10 s11 s12 s14 s15 s16 s17 s18 s20 s21 s26
      simp only [decide_eq_true_eq, decide_eq_false_iff_not] at h8 h13 h19 h22
      simp [A7, Cv, Cu, Eo, h8, h13, h19, h22]
     rw [e] at hk
     exact hk _ _ (fun L' => (.cons .sc (.cons .sc (.cons .sc (.cons .sc (.cons .sc (.cons .sc (.cons .nl (.cons .sc (.cons .sc (.cons .sc (.cons .sc (.cons .sc (.cons .sc (.cons .ro (.cons .sc (.cons .sc (.cons .sc (.cons .sc (.cons .sc (.cons .nl (.cons .sc (.cons .sc (.cons .nl (.cons .nl (.cons .nl .nil)))))))))))))))))))))))))) s26.tail.tail.tail
   ·refine B5 h19 ?_
    refine Ao s18 (.here) rfl ?_
    refine A5 (cs' := [.sc (.int .i64 p.fType), .sc (.bool false), .sc (.int .i64 0), .sc (.bool false), .sc (.int .i64 0), .sc (.string (⟨#[]⟩)), .nl, .sc (.string p.fClient), .sc (.int .i64 p.fLevel), .sc (.bool p.fClean), .sc (.int .i64 p.fKeep), .sc (.bool true), .sc (.string p.fWTopic), As p.fWBody, .sc (.int .i64 p.fWQos), .sc (.bool p.fWRetain), .sc (.bool false), .sc (.string (⟨#[]⟩)), .sc (.bool false), .nl, .sc (.int .i64 0), .sc (.bool false), .nl, .nl, .nl]) s18 Do (Ai (Aa rfl (Aa rfl (Aa rfl (Aa rfl (Aa rfl (Aa rfl (Aa rfl (Aa rfl (Aa rfl (Aa rfl (Aa rfl (Aa rfl (Aa rfl (Aa rfl (Aa rfl (Aa rfl (Aa rfl (Aa rfl (Aa rfl (Aa rfl (Aa rfl (Aa rfl (Aa rfl (Aa rfl (Aa rfl rfl)))))))))))))))))))))))))) rfl (A3 rfl) rfl fun H s27 => ?_
    refine Ao s27 (.here) rfl ?_
    have e : A7 true p = (⟨p.fType, false, 0, false, 0, ⟨#[]⟩, ⟨#[]⟩, p.fClient, p.fLevel, p.fClean, p.fKeep, true, p.fWTopic, p.fWBody, p.fWQos, p.fWRetain, false, ⟨#[]⟩, false, ⟨#[]⟩, 0, false, [], [], []⟩ : Ay) := by
     clear hk s0 s2 s4 s6 s7 s9 s10 s11 s12 s14 s15 s16 s17 s18 s27
     simp only [decide_eq_true_eq, decide_eq_false_iff_not] at h8 h13 h19
     simp [A7, Cv, Cu, Eo, h8, h13, h19]
    rw [e] at hk
    exact hk _ _ (fun L' => (.cons .sc (.cons .sc (.cons .sc (.cons .sc (.cons .sc (.cons .sc (.cons .nl (.cons .sc (.cons .sc (.cons .sc (.cons .sc (.cons .sc (.cons .sc (.cons .ro (.cons .sc (.cons .sc (.cons .sc (.cons .sc (.cons .sc (.cons .nl (.cons .sc (.cons .sc (.cons .nl (.cons .nl (.cons .nl .nil)))))))))))))))))))))))))) s27.tail.tail.tail
  ·refine B5 h13 ?_
   refine Ac (o' := 16) rfl ?_
   refine Bp (c := .sc (.bool p.fHasUser)) s12 Dn rfl ?_
   refine Ae (p.fHasUser) (fun h28 => ?_) (fun h28 => ?_)
   ·refine C9 h28 ?_
    refine Ac (o' := 16) rfl ?_
    refine A5 (cs' := [.sc (.int .i64 p.fType), .sc (.bool false), .sc (.int .i64 0), .sc (.bool false), .sc (.int .i64 0), .sc (.string (⟨#[]⟩)), .nl, .sc (.string p.fClient), .sc (.int .i64 p.fLevel), .sc (.bool p.fClean), .sc (.int .i64 p.fKeep), .sc (.bool false), .sc (.string (⟨#[]⟩)), .nl, .sc (.int .i64 0), .sc (.bool false), .sc (.bool true), .sc (.string (⟨#[]⟩)), .sc (.bool false), .nl, .sc (.int .i64 0), .sc (.bool false), .nl, .nl, .nl]) s12 (.here) (Ak rfl) rfl (A3 rfl) rfl fun H s29 => ?_
    refine Ac (o' := 17) rfl ?_
    refine Bp (c := .sc (.string p.fUser)) s29 Dn rfl ?_
    refine Ac (o' := 17) rfl ?_
    refine A5 (cs' := [.sc (.int .i64 p.fType), .sc (.bool false), .sc (.int .i64 0), .sc (.bool false), .sc (.int .i64 0), .sc (.string (⟨#[]⟩)), .nl, .sc (.string p.fClient), .sc (.int .i64 p.fLevel), .sc (.bool p.fClean), .sc (.int .i64 p.fKeep), .sc (.bool false), .sc (.string (⟨#[]⟩)), .nl, .sc (.int .i64 0), .sc (.bool false), .sc (.bool true), .sc (.string p.fUser), .sc (.bool false), .nl, .sc (.int .i64 0), .sc (.bool false), .nl, .nl, .nl]) s29 (.here) (Ak rfl) rfl (A3 rfl) rfl fun H s30 => ?_
    refine Ac (o' := 18) rfl ?_
    refine Bp (c := .sc (.bool p.fHasPass)) s30 Dn rfl ?_
    refine Ae (p.fHasPass) (fun h31 => ?_) (fun h31 => ?_)
    ·refine C9 h31 ?_
     refine Ac (o' := 18) rfl ?_
     refine A5 (cs' := [.sc (.int .i64 p.fType), .sc (.bool false), .sc (.int .i64 0), .sc (.bool false), .sc (.int .i64 0), .sc (.string (⟨#[]⟩)), .nl, .sc (.string p.fClient), .sc (.int .i64 p.fLevel), .sc (.bool p.fClean), .sc (.int .i64 p.fKeep), .sc (.bool false), .sc (.string (⟨#[]⟩)), .nl, .sc (.int .i64 0), .sc (.bool false), .sc (.bool true), .sc (.string p.fUser), .sc (.bool true), .nl, .sc (.int .i64 0), .sc (.bool false), .nl, .nl, .nl]) s30 (.here) (Ak rfl) rfl (A3 rfl) rfl fun H s32 => ?_
     refine Ac (o' := 19) rfl ?_
     refine Bp (c := As p.fPass) s32 Dn rfl ?_
     refine Ac (o' := 19) rfl ?_
     refine A5 (cs' := [.sc (.int .i64 p.fType), .sc (.bool false), .sc (.int .i64 0), .sc (.bool false), .sc (.int .i64 0), .sc (.string (⟨#[]⟩)), .nl, .sc (.string p.fClient), .sc (.int .i64 p.fLevel), .sc (.bool p.fClean), .sc (.int .i64 p.fKeep), .sc (.bool false), .sc (.string (⟨#[]⟩)), .nl, .sc (.int .i64 0), .sc (.bool false), .sc (.bool true), .sc (.string p.fUser), .sc (.bool true), As p.fPass, .sc (.int .i64 0), .sc (.bool false), .nl, .nl, .nl]) s32 (.here) (Ak rfl) rfl (A3 rfl) rfl fun H s33 => ?_
     refine Ao s33 (.here) rfl ?_
     refine A5 (cs' := [.sc (.int .i64 p.fType), .sc (.bool false), .sc (.int .i64 0), .sc (.bool false), .sc (.int .i64 0), .sc (.string (⟨#[]⟩)), .nl, .sc (.string p.fClient), .sc (.int .i64 p.fLevel), .sc (.bool p.fClean), .sc (.int .i64 p.fKeep), .sc (.bool false), .sc (.string (⟨#[]⟩)), .nl, .sc (.int .i64 0), .sc (.bool false), .sc (.bool true), .sc (.string p.fUser), .sc (.bool true), As p.fPass, .sc (.int .i64 0), .sc (.bool false), .nl, .nl, .nl]) s33 Do (Ai (Aa rfl (Aa rfl (Aa rfl (Aa rfl (Aa rfl (Aa rfl (Aa rfl (Aa rfl (Aa rfl (Aa rfl (Aa rfl (Aa rfl (Aa rfl (Aa rfl (Aa rfl (Aa rfl (Aa rfl (Aa rfl (Aa rfl (Aa rfl (Aa rfl (Aa rfl (Aa rfl (Aa rfl (Aa rfl rfl)))))))))))))))))))))))))) rfl (A3 rfl) rfl fun H s34 => ?_
     refine Ao s34 (.here) rfl ?_
     have e : A7 true p = (⟨p.fType, false, 0, false, 0, ⟨#[]⟩, ⟨#[]⟩, p.fClient, p.fLevel, p.fClean, p.fKeep, false, ⟨#[]⟩, ⟨#[]⟩, 0, false, true, p.fUser, true, p.fPass, 0, false, [], [], []⟩ : Ay) := by
      clear hk s0 s2 s4 s6 s7 s9 s10 s11 s12 s29 s30 s32 s33 s34
      simp only [decide_eq_true_eq, decide_eq_false_iff_not] at h8 h13 h28 h31
      simp [A7, Cv, Cu, Eo, h8, h13, h28, h31]
     rw [e] at hk
     exact hk _ _ (fun L' => (.cons .sc (.cons .sc (.cons .sc (.cons .sc (.cons .sc (.cons .sc (.cons .nl (.cons .sc (.cons .sc (.cons .sc (.cons .sc (.cons .sc (.cons .sc (.cons .nl (.cons .sc (.cons .sc (.cons .sc (.cons .sc (.cons .sc (.cons .ro (.cons .sc (.cons .sc (.cons .nl (.cons .nl (.cons .nl .nil)))))))))))))))))))))))))) s34.tail.tail.tail
    ·refine B5 h31 ?_
     refine Ao s30 (.here) rfl ?_
     refine A5 (cs' := [.sc (.int .i64 p.fType), .sc (.bool false), .sc (.int .i64 0), .sc (.bool false), .sc (.int .i64 0), .sc (.string (⟨#[]⟩)), .nl, .sc (.string p.fClient), .sc (.int .i64 p.fLevel), .sc (.bool p.fClean), .sc (.int .i64 p.fKeep), .sc (.bool false), .sc (.string (⟨#[]⟩)), .nl, .sc (.int .i64 0), .sc (.bool false), .sc (.bool true), .sc (.string p.fUser), .sc (.bool false), .nl, .sc (.int .i64 0), .sc (.bool false), .nl, .nl, .nl]) s30 Do (Ai (Aa rfl (Aa rfl (Aa rfl (Aa rfl (Aa rfl (Aa rfl (Aa rfl (Aa rfl (Aa rfl (Aa rfl (Aa rfl (Aa rfl (Aa rfl (Aa rfl (Aa rfl (Aa rfl (Aa rfl (Aa rfl (Aa rfl (Aa rfl (Aa rfl (Aa rfl (Aa rfl (Aa rfl (Aa rfl rfl)))))))))))))))))))))))))) rfl (A3 rfl) rfl fun H s35 => ?_
     refine Ao s35 (.here) rfl ?_
     have e : A7 true p = (⟨p.fType, false, 0, false, 0, ⟨#[]⟩, ⟨#[]⟩, p.fClient, p.fLevel, p.fClean, p.fKeep, false, ⟨#[]⟩, ⟨#[]⟩, 0, false, true, p.fUser, false, ⟨#[]⟩, 0, false, [], [], []⟩ : Ay) := by
      clear hk s0 s2 s4 s6 s7 s9 s10 s11 s12 s29 s30 s35
      simp only [decide_eq_true_eq, decide_eq_false_iff_not] at h8 h13 h28 h31
      simp [A7, Cv, Cu, Eo, h8, h13, h28, h31]
     rw [e] at hk
     exact hk _ _ (fun L' => (.cons .sc (.cons .sc (.cons .sc (.cons .sc (.cons .sc (.cons .sc (.cons .nl (.cons .sc (.cons .sc (.cons .sc (.cons .sc (.cons .sc (.cons .sc (.cons .nl (.cons .sc (.cons .sc (.cons .sc (.cons .sc (.cons .sc (.cons .nl (.cons .sc (.cons .sc (.cons .nl (.cons .nl (.cons .nl .nil)))))))))))))))))))))))))) s35.tail.tail.tail
   ·refine B5 h28 ?_
    refine Ao s12 (.here) rfl ?_
    refine A5 (cs' := [.sc (.int .i64 p.fType), .sc (.bool false), .sc (.int .i64 0), .sc (.bool false), .sc (.int .i64 0), .sc (.string (⟨#[]⟩)), .nl, .sc (.string p.fClient), .sc (.int .i64 p.fLevel), .sc (.bool p.fClean), .sc (.int .i64 p.fKeep), .sc (.bool false), .sc (.string (⟨#[]⟩)), .nl, .sc (.int .i64 0), .sc (.bool false), .sc (.bool false), .sc (.string (⟨#[]⟩)), .sc (.bool false), .nl, .sc (.int .i64 0), .sc (.bool false), .nl, .nl, .nl]) s12 Do (Ai (Aa rfl (Aa rfl (Aa rfl (Aa rfl (Aa rfl (Aa rfl (Aa rfl (Aa rfl (Aa rfl (Aa rfl (Aa rfl (Aa rfl (Aa rfl (Aa rfl (Aa rfl (Aa rfl (Aa rfl (Aa rfl (Aa rfl (Aa rfl (Aa rfl (Aa rfl (Aa rfl (Aa rfl (Aa rfl rfl)))))))))))))))))))))))))) rfl (A3 rfl) rfl fun H s36 => ?_
    refine Ao s36 (.here) rfl ?_
    have e : A7 true p = (⟨p.fType, false, 0, false, 0, ⟨#[]⟩, ⟨#[]⟩, p.fClient, p.fLevel, p.fClean, p.fKeep, false, ⟨#[]⟩, ⟨#[]⟩, 0, false, false, ⟨#[]⟩, false, ⟨#[]⟩, 0, false, [], [], []⟩ : Ay) := by
     clear hk s0 s2 s4 s6 s7 s9 s10 s11 s12 s36
     simp only [decide_eq_true_eq, decide_eq_false_iff_not] at h8 h13 h28
     simp [A7, Cv, Cu, Eo, h8, h13, h28]
    rw [e] at hk
    exact hk _ _ (fun L' => (.cons .sc (.cons .sc (.cons .sc (.cons .sc (.cons .sc (.cons .sc (.cons .nl (.cons .sc (.cons .sc (.cons .sc (.cons .sc (.cons .sc (.cons .sc (.cons .nl (.cons .sc (.cons .sc (.cons .sc (.cons .sc (.cons .sc (.cons .nl (.cons .sc (.cons .sc (.cons .nl (.cons .nl (.cons .nl .nil)))))))))))))))))))))))))) s36.tail.tail.tail
 ·refine B5 h8 ?_
  refine Bx ?_
  refine Ae ((decide (p.fType = 2))) (fun h37 => ?_) (fun h37 => ?_)
  ·refine C9 h37 ?_
   refine Ac (o' := 20) rfl ?_
   refine Bp (c := .sc (.int .i64 p.fCode)) s7 Dn rfl ?_
   refine Ac (o' := 20) rfl ?_
   refine A5 (cs' := [.sc (.int .i64 p.fType), .sc (.bool false), .sc (.int .i64 0), .sc (.bool false), .sc (.int .i64 0), .sc (.string (⟨#[]⟩)), .nl, .sc (.string (⟨#[]⟩)), .sc (.int .i64 0), .sc (.bool false), .sc (.int .i64 0), .sc (.bool false), .sc (.string (⟨#[]⟩)), .nl, .sc (.int .i64 0), .sc (.bool false), .sc (.bool false), .sc (.string (⟨#[]⟩)), .sc (.bool false), .nl, .sc (.int .i64 p.fCode), .sc (.bool false), .nl, .nl, .nl]) s7 (.here) (Ak rfl) rfl (A3 rfl) rfl fun H s38 => ?_
   refine Ac (o' := 21) rfl ?_
   refine Bp (c := .sc (.bool p.fPresent)) s38 Dn rfl ?_
   refine Ae (p.fPresent) (fun h39 => ?_) (fun h39 => ?_)
   ·refine C1 h39 ?_
    refine Ac (o' := 20) rfl ?_
    refine C1 h39 ?_
    refine Bp (c := .sc (.int .i64 p.fCode)) s38 Dn rfl ?_
    refine C1 h39 ?_
    refine Bx ?_
    refine Ld h39 ?_
    refine Ac (o' := 21) rfl ?_
    refine A5 (cs' := [.sc (.int .i64 p.fType), .sc (.bool false), .sc (.int .i64 0), .sc (.bool false), .sc (.int .i64 0), .sc (.string (⟨#[]⟩)), .nl, .sc (.string (⟨#[]⟩)), .sc (.int .i64 0), .sc (.bool false), .sc (.int .i64 0), .sc (.bool false), .sc (.string (⟨#[]⟩)), .nl, .sc (.int .i64 0), .sc (.bool false), .sc (.bool false), .sc (.string (⟨#[]⟩)), .sc (.bool false), .nl, .sc (.int .i64 p.fCode), .sc (.bool (decide (p.fCode = 0))), .nl, .nl, .nl]) s38 (.here) (Ak rfl) rfl (A3 rfl) rfl fun H s40 => ?_
    refine Ao s40 (.here) rfl ?_
    refine A5 (cs' := [.sc (.int .i64 p.fType), .sc (.bool false), .sc (.int .i64 0), .sc (.bool false), .sc (.int .i64 0), .sc (.string (⟨#[]⟩)), .nl, .sc (.string (⟨#[]⟩)), .sc (.int .i64 0), .sc (.bool false), .sc (.int .i64 0), .sc (.bool false), .sc (.string (⟨#[]⟩)), .nl, .sc (.int .i64 0), .sc (.bool false), .sc (.bool false), .sc (.string (⟨#[]⟩)), .sc (.bool false), .nl, .sc (.int .i64 p.fCode), .sc (.bool (decide (p.fCode = 0))), .nl, .nl, .nl]) s40 Do (Ai (Aa rfl (Aa rfl (Aa rfl (Aa rfl (Aa rfl (Aa rfl (Aa rfl (Aa rfl (Aa rfl (Aa rfl (Aa rfl (Aa rfl (Aa rfl (Aa rfl (Aa rfl (Aa rfl (Aa rfl (Aa rfl (Aa rfl (Aa rfl (Aa rfl (Aa rfl (Aa rfl (Aa rfl (Aa rfl rfl)))))))))))))))))))))))))) rfl (A3 rfl) rfl fun H s41 => ?_
    refine Ao s41 (.here) rfl ?_
    have e : A7 true p = (⟨p.fType, false, 0, false, 0, ⟨#[]⟩, ⟨#[]⟩, ⟨#[]⟩, 0, false, 0, false, ⟨#[]⟩, ⟨#[]⟩, 0, false, false, ⟨#[]⟩, false, ⟨#[]⟩, p.fCode, (decide (p.fCode = 0)), [], [], []⟩ : Ay) := by
     clear hk s0 s2 s4 s6 s7 s38 s40 s41
     simp only [decide_eq_true_eq, decide_eq_false_iff_not] at h8 h37 h39
     simp [A7, Cv, Cu, Eo, h8, h37, h39]
    rw [e] at hk
    exact hk _ _ (fun L' => (.cons .sc (.cons .sc (.cons .sc (.cons .sc (.cons .sc (.cons .sc (.cons .nl (.cons .sc (.cons .sc (.cons .sc (.cons .sc (.cons .sc (.cons .sc (.cons .nl (.cons .sc (.cons .sc (.cons .sc (.cons .sc (.cons .sc (.cons .nl (.cons .sc (.cons .sc (.cons .nl (.cons .nl (.cons .nl .nil)))))))))))))))))))))))))) s41.tail.tail.tail
   ·refine El h39 ?_
    refine El h39 ?_
    refine El h39 ?_
    refine Hg h39 ?_
    refine Ac (o' := 21) rfl ?_
    refine A5 (cs' := [.sc (.int .i64 p.fType), .sc (.bool false), .sc (.int .i64 0), .sc (.bool false), .sc (.int .i64 0), .sc (.string (⟨#[]⟩)), .nl, .sc (.string (⟨#[]⟩)), .sc (.int .i64 0), .sc (.bool false), .sc (.int .i64 0), .sc (.bool false), .sc (.string (⟨#[]⟩)), .nl, .sc (.int .i64 0), .sc (.bool false), .sc (.bool false), .sc (.string (⟨#[]⟩)), .sc (.bool false), .nl, .sc (.int .i64 p.fCode), .sc (.bool false), .nl, .nl, .nl]) s38 (.here) (Ak rfl) rfl (A3 rfl) rfl fun H s42 => ?_
    refine Ao s42 (.here) rfl ?_
    refine A5 (cs' := [.sc (.int .i64 p.fType), .sc (.bool false), .sc (.int .i64 0), .sc (.bool false), .sc (.int .i64 0), .sc (.string (⟨#[]⟩)), .nl, .sc (.string (⟨#[]⟩)), .sc (.int .i64 0), .sc (.bool false), .sc (.int .i64 0), .sc (.bool false), .sc (.string (⟨#[]⟩)), .nl, .sc (.int .i64 0), .sc (.bool false), .sc (.bool false), .sc (.string (⟨#[]⟩)), .sc (.bool false), .nl, .sc (.int .i64 p.fCode), .sc (.bool false), .nl, .nl, .nl]) s42 Do (Ai (Aa rfl (Aa rfl (Aa rfl (Aa rfl (Aa rfl (Aa rfl (Aa rfl (Aa rfl (Aa rfl (Aa rfl (Aa rfl (Aa rfl (Aa rfl (Aa rfl (Aa rfl (Aa rfl (Aa rfl (Aa rfl (Aa rfl (Aa rfl (Aa rfl (Aa rfl (Aa rfl (Aa rfl (Aa rfl rfl)))))))))))))))))))))))))) rfl (A3 rfl) rfl fun H s43 => ?_
    refine Ao s43 (.here) rfl ?_
    have e : A7 true p = (⟨p.fType, false, 0, false, 0, ⟨#[]⟩, ⟨#[]⟩, ⟨#[]⟩, 0, false, 0, false, ⟨#[]⟩, ⟨#[]⟩, 0, false, false, ⟨#[]⟩, false, ⟨#[]⟩, p.fCode, false, [], [], []⟩ : Ay) := by
     clear hk s0 s2 s4 s6 s7 s38 s42 s43
     simp only [decide_eq_true_eq, decide_eq_false_iff_not] at h8 h37 h39
     simp [A7, Cv, Cu, Eo, h8, h37, h39]
    rw [e] at hk
    exact hk _ _ (fun L' => (.cons .sc (.cons .sc (.cons .sc (.cons .sc (.cons .sc (.cons .sc (.cons .nl (.cons .sc (.cons .sc (.cons .sc (.cons .sc (.cons .sc (.cons .sc (.cons .nl (.cons .sc (.cons .sc (.cons .sc (.cons .sc (.cons .sc (.cons .nl (.cons .sc (.cons .sc (.cons .nl (.cons .nl (.cons .nl .nil)))))))))))))))))))))))))) s43.tail.tail.tail
  ·refine B5 h37 ?_
   refine Bx ?_
   refine Ae ((decide (p.fType = 3))) (fun h44 => ?_) (fun h44 => ?_)
   ·refine C9 h44 ?_
    refine Ac (o' := 2) rfl ?_
    refine Bp (c := .sc (.int .i64 p.fQos)) s7 Dn rfl ?_
    refine Ac (o' := 2) rfl ?_
    refine A5 (cs' := [.sc (.int .i64 p.fType), .sc (.bool false), .sc (.int .i64 p.fQos), .sc (.bool false), .sc (.int .i64 0), .sc (.string (⟨#[]⟩)), .nl, .sc (.string (⟨#[]⟩)), .sc (.int .i64 0), .sc (.bool false), .sc (.int .i64 0), .sc (.bool false), .sc (.string (⟨#[]⟩)), .nl, .sc (.int .i64 0), .sc (.bool false), .sc (.bool false), .sc (.string (⟨#[]⟩)), .sc (.bool false), .nl, .sc (.int .i64 0), .sc (.bool false), .nl, .nl, .nl]) s7 (.here) (Ak rfl) rfl (A3 rfl) rfl fun H s45 => ?_
    refine Ac (o' := 3) rfl ?_
    refine Bp (c := .sc (.bool p.fRetain)) s45 Dn rfl ?_
    refine Ac (o' := 3) rfl ?_
    refine A5 (cs' := [.sc (.int .i64 p.fType), .sc (.bool false), .sc (.int .i64 p.fQos), .sc (.bool p.fRetain), .sc (.int .i64 0), .sc (.string (⟨#[]⟩)), .nl, .sc (.string (⟨#[]⟩)), .sc (.int .i64 0), .sc (.bool false), .sc (.int .i64 0), .sc (.bool false), .sc (.string (⟨#[]⟩)), .nl, .sc (.int .i64 0), .sc (.bool false), .sc (.bool false), .sc (.string (⟨#[]⟩)), .sc (.bool false), .nl, .sc (.int .i64 0), .sc (.bool false), .nl, .nl, .nl]) s45 (.here) (Ak rfl) rfl (A3 rfl) rfl fun H s46 => ?_
    refine Ac (o' := 5) rfl ?_
    refine Bp (c := .sc (.string p.fTopic)) s46 Dn rfl ?_
    refine Ac (o' := 5) rfl ?_
    refine A5 (cs' := [.sc (.int .i64 p.fType), .sc (.bool false), .sc (.int .i64 p.fQos), .sc (.bool p.fRetain), .sc (.int .i64 0), .sc (.string p.fTopic), .nl, .sc (.string (⟨#[]⟩)), .sc (.int .i64 0), .sc (.bool false), .sc (.int .i64 0), .sc (.bool false), .sc (.string (⟨#[]⟩)), .nl, .sc (.int .i64 0), .sc (.bool false), .sc (.bool false), .sc (.string (⟨#[]⟩)), .sc (.bool false), .nl, .sc (.int .i64 0), .sc (.bool false), .nl, .nl, .nl]) s46 (.here) (Ak rfl) rfl (A3 rfl) rfl fun H s47 => ?_
    refine Ac (o' := 6) rfl ?_
    refine Bp (c := As p.fBody) s47 Dn rfl ?_
    refine Ac (o' := 6) rfl ?_
    refine A5 (cs' := [.sc (.int .i64 p.fType), .sc (.bool false), .sc (.int .i64 p.fQos), .sc (.bool p.fRetain), .sc (.int .i64 0), .sc (.string p.fTopic), As p.fBody, .sc (.string (⟨#[]⟩)), .sc (.int .i64 0), .sc (.bool false), .sc (.int .i64 0), .sc (.bool false), .sc (.string (⟨#[]⟩)), .nl, .sc (.int .i64 0), .sc (.bool false), .sc (.bool false), .sc (.string (⟨#[]⟩)), .sc (.bool false), .nl, .sc (.int .i64 0), .sc (.bool false), .nl, .nl, .nl]) s47 (.here) (Ak rfl) rfl (A3 rfl) rfl fun H s48 => ?_
    refine Ac (o' := 2) rfl ?_
    refine Bp (c := .sc (.int .i64 p.fQos)) s48 Dn rfl ?_
    refine Aiq ?_
    refine Ae ((decide (0 < p.fQos))) (fun h49 => ?_) (fun h49 => ?_)
    ·refine C9 h49 ?_
     refine Ac (o' := 1) rfl ?_
     refine Bp (c := .sc (.bool p.fDup)) s48 Dn rfl ?_
     refine Ac (o' := 1) rfl ?_
     refine A5 (cs' := [.sc (.int .i64 p.fType), .sc (.bool p.fDup), .sc (.int .i64 p.fQos), .sc (.bool p.fRetain), .sc (.int .i64 0), .sc (.string p.fTopic), As p.fBody, .sc (.string (⟨#[]⟩)), .sc (.int .i64 0), .sc (.bool false), .sc (.int .i64 0), .sc (.bool false), .sc (.string (⟨#[]⟩)), .nl, .sc (.int .i64 0), .sc (.bool false), .sc (.bool false), .sc (.string (⟨#[]⟩)), .sc (.bool false), .nl, .sc (.int .i64 0), .sc (.bool false), .nl, .nl, .nl]) s48 (.here) (Ak rfl) rfl (A3 rfl) rfl fun H s50 => ?_
     refine Ac (o' := 4) rfl ?_
     refine Bp (c := .sc (.int .i64 p.fId)) s50 Dn rfl ?_
     refine Ac (o' := 4) rfl ?_
     refine A5 (cs' := [.sc (.int .i64 p.fType), .sc (.bool p.fDup), .sc (.int .i64 p.fQos), .sc (.bool p.fRetain), .sc (.int .i64 p.fId), .sc (.string p.fTopic), As p.fBody, .sc (.string (⟨#[]⟩)), .sc (.int .i64 0), .sc (.bool false), .sc (.int .i64 0), .sc (.bool false), .sc (.string (⟨#[]⟩)), .nl, .sc (.int .i64 0), .sc (.bool false), .sc (.bool false), .sc (.string (⟨#[]⟩)), .sc (.bool false), .nl, .sc (.int .i64 0), .sc (.bool false), .nl, .nl, .nl]) s50 (.here) (Ak rfl) rfl (A3 rfl) rfl fun H s51 => ?_
     refine Ao s51 (.here) rfl ?_
     refine A5 (cs' := [.sc (.int .i64 p.fType), .sc (.bool p.fDup), .sc (.int .i64 p.fQos), .sc (.bool p.fRetain), .sc (.int .i64 p.fId), .sc (.string p.fTopic), As p.fBody, .sc (.string (⟨#[]⟩)), .sc (.int .i64 0), .sc (.bool false), .sc (.int .i64 0), .sc (.bool false), .sc (.string (⟨#[]⟩)), .nl, .sc (.int .i64 0), .sc (.bool false), .sc (.bool false), .sc (.string (⟨#[]⟩)), .sc (.bool false), .nl, .sc (.int .i64 0), .sc (.bool false), .nl, .nl, .nl]) s51 Do (Ai (Aa rfl (Aa rfl (Aa rfl (Aa rfl (Aa rfl (Aa rfl (Aa rfl (Aa rfl (Aa rfl (Aa rfl (Aa rfl (Aa rfl (Aa rfl (Aa rfl (Aa rfl (Aa rfl (Aa rfl (Aa rfl (Aa rfl (Aa rfl (Aa rfl (Aa rfl (Aa rfl (Aa rfl (Aa rfl rfl)))))))))))))))))))))))))) rfl (A3 rfl) rfl fun H s52 => ?_
     refine Ao s52 (.here) rfl ?_
     have e : A7 true p = (⟨p.fType, p.fDup, p.fQos, p.fRetain, p.fId, p.fTopic, p.fBody, ⟨#[]⟩, 0, false, 0, false, ⟨#[]⟩, ⟨#[]⟩, 0, false, false, ⟨#[]⟩, false, ⟨#[]⟩, 0, false, [], [], []⟩ : Ay) := by
      clear hk s0 s2 s4 s6 s7 s45 s46 s47 s48 s50 s51 s52
      simp only [decide_eq_true_eq, decide_eq_false_iff_not] at h8 h37 h44 h49
      simp [A7, Cv, Cu, Eo, h8, h37, h44, h49]
     rw [e] at hk
     exact hk _ _ (fun L' => (.cons .sc (.cons .sc (.cons .sc (.cons .sc (.cons .sc (.cons .sc (.cons .ro (.cons .sc (.cons .sc (.cons .sc (.cons .sc (.cons .sc (.cons .sc (.cons .nl (.cons .sc (.cons .sc (.cons .sc (.cons .sc (.cons .sc (.cons .nl (.cons .sc (.cons .sc (.cons .nl (.cons .nl (.cons .nl .nil)))))))))))))))))))))))))) s52.tail.tail.tail
    ·refine B5 h49 ?_
     refine Ao s48 (.here) rfl ?_
     refine A5 (cs' := [.sc (.int .i64 p.fType), .sc (.bool false), .sc (.int .i64 p.fQos), .sc (.bool p.fRetain), .sc (.int .i64 0), .sc (.string p.fTopic), As p.fBody, .sc (.string (⟨#[]⟩)), .sc (.int .i64 0), .sc (.bool false), .sc (.int .i64 0), .sc (.bool false), .sc (.string (⟨#[]⟩)), .nl, .sc (.int .i64 0), .sc (.bool false), .sc (.bool false), .sc (.string (⟨#[]⟩)), .sc (.bool false), .nl, .sc (.int .i64 0), .sc (.bool false), .nl, .nl, .nl]) s48 Do (Ai (Aa rfl (Aa rfl (Aa rfl (Aa rfl (Aa rfl (Aa rfl (Aa rfl (Aa rfl (Aa rfl (Aa rfl (Aa rfl (Aa rfl (Aa rfl (Aa rfl (Aa rfl (Aa rfl (Aa rfl (Aa rfl (Aa rfl (Aa rfl (Aa rfl (Aa rfl (Aa rfl (Aa rfl (Aa rfl rfl)))))))))))))))))))))))))) rfl (A3 rfl) rfl fun H s53 => ?_
     refine Ao s53 (.here) rfl ?_
     have e : A7 true p = (⟨p.fType, false, p.fQos, p.fRetain, 0, p.fTopic, p.fBody, ⟨#[]⟩, 0, false, 0, false, ⟨#[]⟩, ⟨#[]⟩, 0, false, false, ⟨#[]⟩, false, ⟨#[]⟩, 0, false, [], [], []⟩ : Ay) := by
      clear hk s0 s2 s4 s6 s7 s45 s46 s47 s48 s53
      simp only [decide_eq_true_eq, decide_eq_false_iff_not] at h8 h37 h44 h49
      simp [A7, Cv, Cu, Eo, h8, h37, h44, h49]
     rw [e] at hk
     exact hk _ _ (fun L' => (.cons .sc (.cons .sc (.cons .sc (.cons .sc (.cons .sc (.cons .sc (.cons .ro (.cons .sc (.cons .sc (.cons .sc (.cons .sc (.cons .sc (.cons .sc (.cons .nl (.cons .sc (.cons .sc (.cons .sc (.cons .sc (.cons .sc (.cons .nl (.cons .sc (.cons .sc (.cons .nl (.cons .nl (.cons .nl .nil)))))))))))))))))))))))))) s53.tail.tail.tail
   ·refine B5 h44 ?_
    refine Bx ?_
    refine Hv ?_
    refine Ae ((decide (p.fType = 4))) (fun h54 => ?_) (fun h54 => ?_)
    ·refine C9 h54 ?_
     refine C9 h54 ?_
     refine Ac (o' := 4) rfl ?_
     refine Bp (c := .sc (.int .i64 p.fId)) s7 Dn rfl ?_
     refine Ac (o' := 4) rfl ?_
     refine A5 (cs' := [.sc (.int .i64 p.fType), .sc (.bool false), .sc (.int .i64 0), .sc (.bool false), .sc (.int .i64 p.fId), .sc (.string (⟨#[]⟩)), .nl, .sc (.string (⟨#[]⟩)), .sc (.int .i64 0), .sc (.bool false), .sc (.int .i64 0), .sc (.bool false), .sc (.string (⟨#[]⟩)), .nl, .sc (.int .i64 0), .sc (.bool false), .sc (.bool false), .sc (.string (⟨#[]⟩)), .sc (.bool false), .nl, .sc (.int .i64 0), .sc (.bool false), .nl, .nl, .nl]) s7 (.here) (Ak rfl) rfl (A3 rfl) rfl fun H s55 => ?_
     refine Ao s55 (.here) rfl ?_
     refine A5 (cs' := [.sc (.int .i64 p.fType), .sc (.bool false), .sc (.int .i64 0), .sc (.bool false), .sc (.int .i64 p.fId), .sc (.string (⟨#[]⟩)), .nl, .sc (.string (⟨#[]⟩)), .sc (.int .i64 0), .sc (.bool false), .sc (.int .i64 0), .sc (.bool false), .sc (.string (⟨#[]⟩)), .nl, .sc (.int .i64 0), .sc (.bool false), .sc (.bool false), .sc (.string (⟨#[]⟩)), .sc (.bool false), .nl, .sc (.int .i64 0), .sc (.bool false), .nl, .nl, .nl]) s55 Do (Ai (Aa rfl (Aa rfl (Aa rfl (Aa rfl (Aa rfl (Aa rfl (Aa rfl (Aa rfl (Aa rfl (Aa rfl (Aa rfl (Aa rfl (Aa rfl (Aa rfl (Aa rfl (Aa rfl (Aa rfl (Aa rfl (Aa rfl (Aa rfl (Aa rfl (Aa rfl (Aa rfl (Aa rfl (Aa rfl rfl)))))))))))))))))))))))))) rfl (A3 rfl) rfl fun H s56 => ?_
     refine Ao s56 (.here) rfl ?_
     have e : A7 true p = (⟨p.fType, false, 0, false, p.fId, ⟨#[]⟩, ⟨#[]⟩, ⟨#[]⟩, 0, false, 0, false, ⟨#[]⟩, ⟨#[]⟩, 0, false, false, ⟨#[]⟩, false, ⟨#[]⟩, 0, false, [], [], []⟩ : Ay) := by
      clear hk s0 s2 s4 s6 s7 s55 s56
      simp only [decide_eq_true_eq, decide_eq_false_iff_not] at h8 h37 h44 h54
      simp [A7, Cv, Cu, Eo, h8, h37, h44, h54]
     rw [e] at hk
     exact hk _ _ (fun L' => (.cons .sc (.cons .sc (.cons .sc (.cons .sc (.cons .sc (.cons .sc (.cons .nl (.cons .sc (.cons .sc (.cons .sc (.cons .sc (.cons .sc (.cons .sc (.cons .nl (.cons .sc (.cons .sc (.cons .sc (.cons .sc (.cons .sc (.cons .nl (.cons .sc (.cons .sc (.cons .nl (.cons .nl (.cons .nl .nil)))))))))))))))))))))))))) s56.tail.tail.tail
    ·refine B5 h54 ?_
     refine Bx ?_
     refine Ae ((decide (p.fType = 5))) (fun h57 => ?_) (fun h57 => ?_)
     ·refine C9 h57 ?_
      refine C9 h57 ?_
      refine Ac (o' := 4) rfl ?_
      refine Bp (c := .sc (.int .i64 p.fId)) s7 Dn rfl ?_
      refine Ac (o' := 4) rfl ?_
      refine A5 (cs' := [.sc (.int .i64 p.fType), .sc (.bool false), .sc (.int .i64 0), .sc (.bool false), .sc (.int .i64 p.fId), .sc (.string (⟨#[]⟩)), .nl, .sc (.string (⟨#[]⟩)), .sc (.int .i64 0), .sc (.bool false), .sc (.int .i64 0), .sc (.bool false), .sc (.string (⟨#[]⟩)), .nl, .sc (.int .i64 0), .sc (.bool false), .sc (.bool false), .sc (.string (⟨#[]⟩)), .sc (.bool false), .nl, .sc (.int .i64 0), .sc (.bool false), .nl, .nl, .nl]) s7 (.here) (Ak rfl) rfl (A3 rfl) rfl fun H s58 => ?_
      refine Ao s58 (.here) rfl ?_
      refine A5 (cs' := [.sc (.int .i64 p.fType), .sc (.bool false), .sc (.int .i64 0), .sc (.bool false), .sc (.int .i64 p.fId), .sc (.string (⟨#[]⟩)), .nl, .sc (.string (⟨#[]⟩)), .sc (.int .i64 0), .sc (.bool false), .sc (.int .i64 0), .sc (.bool false), .sc (.string (⟨#[]⟩)), .nl, .sc (.int .i64 0), .sc (.bool false), .sc (.bool false), .sc (.string (⟨#[]⟩)), .sc (.bool false), .nl, .sc (.int .i64 0), .sc (.bool false), .nl, .nl, .nl]) s58 Do (Ai (Aa rfl (Aa rfl (Aa rfl (Aa rfl (Aa rfl (Aa rfl (Aa rfl (Aa rfl (Aa rfl (Aa rfl (Aa rfl (Aa rfl (Aa rfl (Aa rfl (Aa rfl (Aa rfl (Aa rfl (Aa rfl (Aa rfl (Aa rfl (Aa rfl (Aa rfl (Aa rfl (Aa rfl (Aa rfl rfl)))))))))))))))))))))))))) rfl (A3 rfl) rfl fun H s59 => ?_
      refine Ao s59 (.here) rfl ?_
      have e : A7 true p = (⟨p.fType, false, 0, false, p.fId, ⟨#[]⟩, ⟨#[]⟩, ⟨#[]⟩, 0, false, 0, false, ⟨#[]⟩, ⟨#[]⟩, 0, false, false, ⟨#[]⟩, false, ⟨#[]⟩, 0, false, [], [], []⟩ : Ay) := by
       clear hk s0 s2 s4 s6 s7 s58 s59
       simp only [decide_eq_true_eq, decide_eq_false_iff_not] at h8 h37 h44 h54 h57
       simp [A7, Cv, Cu, Eo, h8, h37, h44, h54, h57]
      rw [e] at hk
      exact hk _ _ (fun L' => (.cons .sc (.cons .sc (.cons .sc (.cons .sc (.cons .sc (.cons .sc (.cons .nl (.cons .sc (.cons .sc (.cons .sc (.cons .sc (.cons .sc (.cons .sc (.cons .nl (.cons .sc (.cons .sc (.cons .sc (.cons .sc (.cons .sc (.cons .nl (.cons .sc (.cons .sc (.cons .nl (.cons .nl (.cons .nl .nil)))))))))))))))))))))))))) s59.tail.tail.tail
     ·refine B5 h57 ?_
      refine Bx ?_
      refine Ae ((decide (p.fType = 6))) (fun h60 => ?_) (fun h60 => ?_)
      ·refine C9 h60 ?_
       refine C9 h60 ?_
       refine Ac (o' := 4) rfl ?_
       refine Bp (c := .sc (.int .i64 p.fId)) s7 Dn rfl ?_
       refine Ac (o' := 4) rfl ?_
       refine A5 (cs' := [.sc (.int .i64 p.fType), .sc (.bool false), .sc (.int .i64 0), .sc (.bool false), .sc (.int .i64 p.fId), .sc (.string (⟨#[]⟩)), .nl, .sc (.string (⟨#[]⟩)), .sc (.int .i64 0), .sc (.bool false), .sc (.int .i64 0), .sc (.bool false), .sc (.string (⟨#[]⟩)), .nl, .sc (.int .i64 0), .sc (.bool false), .sc (.bool false), .sc (.string (⟨#[]⟩)), .sc (.bool false), .nl, .sc (.int .i64 0), .sc (.bool false), .nl, .nl, .nl]) s7 (.here) (Ak rfl) rfl (A3 rfl) rfl fun H s61 => ?_
       refine Ao s61 (.here) rfl ?_
       refine A5 (cs' := [.sc (.int .i64 p.fType), .sc (.bool false), .sc (.int .i64 0), .sc (.bool false), .sc (.int .i64 p.fId), .sc (.string (⟨#[]⟩)), .nl, .sc (.string (⟨#[]⟩)), .sc (.int .i64 0), .sc (.bool false), .sc (.int .i64 0), .sc (.bool false), .sc (.string (⟨#[]⟩)), .nl, .sc (.int .i64 0), .sc (.bool false), .sc (.bool false), .sc (.string (⟨#[]⟩)), .sc (.bool false), .nl, .sc (.int .i64 0), .sc (.bool false), .nl, .nl, .nl]) s61 Do (Ai (Aa rfl (Aa rfl (Aa rfl (Aa rfl (Aa rfl (Aa rfl (Aa rfl (Aa rfl (Aa rfl (Aa rfl (Aa rfl (Aa rfl (Aa rfl (Aa rfl (Aa rfl (Aa rfl (Aa rfl (Aa rfl (Aa rfl (Aa rfl (Aa rfl (Aa rfl (Aa rfl (Aa rfl (Aa rfl rfl)))))))))))))))))))))))))) rfl (A3 rfl) rfl fun H s62 => ?_
       refine Ao s62 (.here) rfl ?_
       have e : A7 true p = (⟨p.fType, false, 0, false, p.fId, ⟨#[]⟩, ⟨#[]⟩, ⟨#[]⟩, 0, false, 0, false, ⟨#[]⟩, ⟨#[]⟩, 0, false, false, ⟨#[]⟩, false, ⟨#[]⟩, 0, false, [], [], []⟩ : Ay) := by
        clear hk s0 s2 s4 s6 s7 s61 s62
        simp only [decide_eq_true_eq, decide_eq_false_iff_not] at h8 h37 h44 h54 h57 h60
        simp [A7, Cv, Cu, Eo, h8, h37, h44, h54, h57, h60]
       rw [e] at hk
       exact hk _ _ (fun L' => (.cons .sc (.cons .sc (.cons .sc (.cons .sc (.cons .sc (.cons .sc (.cons .nl (.cons .sc (.cons .sc (.cons .sc (.cons .sc (.cons .sc (.cons .sc (.cons .nl (.cons .sc (.cons .sc (.cons .sc (.cons .sc (.cons .sc (.cons .nl (.cons .sc (.cons .sc (.cons .nl (.cons .nl (.cons .nl .nil)))))))))))))))))))))))))) s62.tail.tail.tail
      ·refine B5 h60 ?_
       refine Bx ?_
       refine Ae ((decide (p.fType = 7))) (fun h63 => ?_) (fun h63 => ?_)
       ·refine C9 h63 ?_
        refine C9 h63 ?_
        refine Ac (o' := 4) rfl ?_
        refine Bp (c := .sc (.int .i64 p.fId)) s7 Dn rfl ?_
        refine Ac (o' := 4) rfl ?_
        refine A5 (cs' := [.sc (.int .i64 p.fType), .sc (.bool false), .sc (.int .i64 0), .sc (.bool false), .sc (.int .i64 p.fId), .sc (.string (⟨#[]⟩)), .nl, .sc (.string (⟨#[]⟩)), .sc (.int .i64 0), .sc (.bool false), .sc (.int .i64 0), .sc (.bool false), .sc (.string (⟨#[]⟩)), .nl, .sc (.int .i64 0), .sc (.bool false), .sc (.bool false), .sc (.string (⟨#[]⟩)), .sc (.bool false), .nl, .sc (.int .i64 0), .sc (.bool false), .nl, .nl, .nl]) s7 (.here) (Ak rfl) rfl (A3 rfl) rfl fun H s64 => ?_
        refine Ao s64 (.here) rfl ?_
        refine A5 (cs' := [.sc (.int .i64 p.fType), .sc (.bool false), .sc (.int .i64 0), .sc (.bool false), .sc (.int .i64 p.fId), .sc (.string (⟨#[]⟩)), .nl, .sc (.string (⟨#[]⟩)), .sc (.int .i64 0), .sc (.bool false), .sc (.int .i64 0), .sc (.bool false), .sc (.string (⟨#[]⟩)), .nl, .sc (.int .i64 0), .sc (.bool false), .sc (.bool false), .sc (.string (⟨#[]⟩)), .sc (.bool false), .nl, .sc (.int .i64 0), .sc (.bool false), .nl, .nl, .nl]) s64 Do (Ai (Aa rfl (Aa rfl (Aa rfl (Aa rfl (Aa rfl (Aa rfl (Aa rfl (Aa rfl (Aa rfl (Aa rfl (Aa rfl (Aa rfl (Aa rfl (Aa rfl (Aa rfl (Aa rfl (Aa rfl (Aa rfl (Aa rfl (Aa rfl (Aa rfl (Aa rfl (Aa rfl (Aa rfl (Aa rfl rfl)))))))))))))))))))))))))) rfl (A3 rfl) rfl fun H s65 => ?_
        refine Ao s65 (.here) rfl ?_
        have e : A7 true p = (⟨p.fType, false, 0, false, p.fId, ⟨#[]⟩, ⟨#[]⟩, ⟨#[]⟩, 0, false, 0, false, ⟨#[]⟩, ⟨#[]⟩, 0, false, false, ⟨#[]⟩, false, ⟨#[]⟩, 0, false, [], [], []⟩ : Ay) := by
         clear hk s0 s2 s4 s6 s7 s64 s65
         simp only [decide_eq_true_eq, decide_eq_false_iff_not] at h8 h37 h44 h54 h57 h60 h63
         simp [A7, Cv, Cu, Eo, h8, h37, h44, h54, h57, h60, h63]
        rw [e] at hk
        exact hk _ _ (fun L' => (.cons .sc (.cons .sc (.cons .sc (.cons .sc (.cons .sc (.cons .sc (.cons .nl (.cons .sc (.cons .sc (.cons .sc (.cons .sc (.cons .sc (.cons .sc (.cons .nl (.cons .sc (.cons .sc (.cons .sc (.cons .sc (.cons .sc (.cons .nl (.cons .sc (.cons .sc (.cons .nl (.cons .nl (.cons .nl .nil)))))))))))))))))))))))))) s65.tail.tail.tail
       ·refine B5 h63 ?_
        refine Bx ?_
        refine Ae ((decide (p.fType = 11))) (fun h66 => ?_) (fun h66 => ?_)
        ·refine C9 h66 ?_
         refine Ac (o' := 4) rfl ?_
         refine Bp (c := .sc (.int .i64 p.fId)) s7 Dn rfl ?_
         refine Ac (o' := 4) rfl ?_
         refine A5 (cs' := [.sc (.int .i64 p.fType), .sc (.bool false), .sc (.int .i64 0), .sc (.bool false), .sc (.int .i64 p.fId), .sc (.string (⟨#[]⟩)), .nl, .sc (.string (⟨#[]⟩)), .sc (.int .i64 0), .sc (.bool false), .sc (.int .i64 0), .sc (.bool false), .sc (.string (⟨#[]⟩)), .nl, .sc (.int .i64 0), .sc (.bool false), .sc (.bool false), .sc (.string (⟨#[]⟩)), .sc (.bool false), .nl, .sc (.int .i64 0), .sc (.bool false), .nl, .nl, .nl]) s7 (.here) (Ak rfl) rfl (A3 rfl) rfl fun H s67 => ?_
         refine Ao s67 (.here) rfl ?_
         refine A5 (cs' := [.sc (.int .i64 p.fType), .sc (.bool false), .sc (.int .i64 0), .sc (.bool false), .sc (.int .i64 p.fId), .sc (.string (⟨#[]⟩)), .nl, .sc (.string (⟨#[]⟩)), .sc (.int .i64 0), .sc (.bool false), .sc (.int .i64 0), .sc (.bool false), .sc (.string (⟨#[]⟩)), .nl, .sc (.int .i64 0), .sc (.bool false), .sc (.bool false), .sc (.string (⟨#[]⟩)), .sc (.bool false), .nl, .sc (.int .i64 0), .sc (.bool false), .nl, .nl, .nl]) s67 Do (Ai (Aa rfl (Aa rfl (Aa rfl (Aa rfl (Aa rfl (Aa rfl (Aa rfl (Aa rfl (Aa rfl (Aa rfl (Aa rfl (Aa rfl (Aa rfl (Aa rfl (Aa rfl (Aa rfl (Aa rfl (Aa rfl (Aa rfl (Aa rfl (Aa rfl (Aa rfl (Aa rfl (Aa rfl (Aa rfl rfl)))))))))))))))))))))))))) rfl (A3 rfl) rfl fun H s68 => ?_
         refine Ao s68 (.here) rfl ?_
         have e : A7 true p = (⟨p.fType, false, 0, false, p.fId, ⟨#[]⟩, ⟨#[]⟩, ⟨#[]⟩, 0, false, 0, false, ⟨#[]⟩, ⟨#[]⟩, 0, false, false, ⟨#[]⟩, false, ⟨#[]⟩, 0, false, [], [], []⟩ : Ay) := by
          clear hk s0 s2 s4 s6 s7 s67 s68
          simp only [decide_eq_true_eq, decide_eq_false_iff_not] at h8 h37 h44 h54 h57 h60 h63 h66
          simp [A7, Cv, Cu, Eo, h8, h37, h44, h54, h57, h60, h63, h66]
         rw [e] at hk
         exact hk _ _ (fun L' => (.cons .sc (.cons .sc (.cons .sc (.cons .sc (.cons .sc (.cons .sc (.cons .nl (.cons .sc (.cons .sc (.cons .sc (.cons .sc (.cons .sc (.cons .sc (.cons .nl (.cons .sc (.cons .sc (.cons .sc (.cons .sc (.cons .sc (.cons .nl (.cons .sc (.cons .sc (.cons .nl (.cons .nl (.cons .nl .nil)))))))))))))))))))))))))) s68.tail.tail.tail
        ·refine B5 h66 ?_
         refine Bx ?_
         refine Ae ((decide (p.fType = 8))) (fun h69 => ?_) (fun h69 => ?_)
         ·refine C9 h69 ?_
          refine Ac (o' := 4) rfl ?_
          refine Bp (c := .sc (.int .i64 p.fId)) s7 Dn rfl ?_
          refine Ac (o' := 4) rfl ?_
          refine A5 (cs' := [.sc (.int .i64 p.fType), .sc (.bool false), .sc (.int .i64 0), .sc (.bool false), .sc (.int .i64 p.fId), .sc (.string (⟨#[]⟩)), .nl, .sc (.string (⟨#[]⟩)), .sc (.int .i64 0), .sc (.bool false), .sc (.int .i64 0), .sc (.bool false), .sc (.string (⟨#[]⟩)), .nl, .sc (.int .i64 0), .sc (.bool false), .sc (.bool false), .sc (.string (⟨#[]⟩)), .sc (.bool false), .nl, .sc (.int .i64 0), .sc (.bool false), .nl, .nl, .nl]) s7 (.here) (Ak rfl) rfl (A3 rfl) rfl fun H s70 => ?_
          refine Ac (o' := 22) rfl ?_
          refine Bp (c := At B0 p.fWants) s70 Dn rfl ?_
          refine Ac (o' := 22) rfl ?_
          refine A5 (cs' := [.sc (.int .i64 p.fType), .sc (.bool false), .sc (.int .i64 0), .sc (.bool false), .sc (.int .i64 p.fId), .sc (.string (⟨#[]⟩)), .nl, .sc (.string (⟨#[]⟩)), .sc (.int .i64 0), .sc (.bool false), .sc (.int .i64 0), .sc (.bool false), .sc (.string (⟨#[]⟩)), .nl, .sc (.int .i64 0), .sc (.bool false), .sc (.bool false), .sc (.string (⟨#[]⟩)), .sc (.bool false), .nl, .sc (.int .i64 0), .sc (.bool false), At B0 p.fWants, .nl, .nl]) s70 (.here) (Ak rfl) rfl (A3 rfl) rfl fun H s71 => ?_
          refine Ao s71 (.here) rfl ?_
          refine A5 (cs' := [.sc (.int .i64 p.fType), .sc (.bool false), .sc (.int .i64 0), .sc (.bool false), .sc (.int .i64 p.fId), .sc (.string (⟨#[]⟩)), .nl, .sc (.string (⟨#[]⟩)), .sc (.int .i64 0), .sc (.bool false), .sc (.int .i64 0), .sc (.bool false), .sc (.string (⟨#[]⟩)), .nl, .sc (.int .i64 0), .sc (.bool false), .sc (.bool false), .sc (.string (⟨#[]⟩)), .sc (.bool false), .nl, .sc (.int .i64 0), .sc (.bool false), At B0 p.fWants, .nl, .nl]) s71 Do (Ai (Aa rfl (Aa rfl (Aa rfl (Aa rfl (Aa rfl (Aa rfl (Aa rfl (Aa rfl (Aa rfl (Aa rfl (Aa rfl (Aa rfl (Aa rfl (Aa rfl (Aa rfl (Aa rfl (Aa rfl (Aa rfl (Aa rfl (Aa rfl (Aa rfl (Aa rfl (Aa rfl (Aa rfl (Aa rfl rfl)))))))))))))))))))))))))) rfl (A3 rfl) rfl fun H s72 => ?_
          refine Ao s72 (.here) rfl ?_
          have e : A7 true p = (⟨p.fType, false, 0, false, p.fId, ⟨#[]⟩, ⟨#[]⟩, ⟨#[]⟩, 0, false, 0, false, ⟨#[]⟩, ⟨#[]⟩, 0, false, false, ⟨#[]⟩, false, ⟨#[]⟩, 0, false, p.fWants, [], []⟩ : Ay) := by
           clear hk s0 s2 s4 s6 s7 s70 s71 s72
           simp only [decide_eq_true_eq, decide_eq_false_iff_not] at h8 h37 h44 h54 h57 h60 h63 h66 h69
           simp [A7, Cv, Cu, Eo, h8, h37, h44, h54, h57, h60, h63, h66, h69]
          rw [e] at hk
          exact hk _ _ (fun L' => (.cons .sc (.cons .sc (.cons .sc (.cons .sc (.cons .sc (.cons .sc (.cons .nl (.cons .sc (.cons .sc (.cons .sc (.cons .sc (.cons .sc (.cons .sc (.cons .nl (.cons .sc (.cons .sc (.cons .sc (.cons .sc (.cons .sc (.cons .nl (.cons .sc (.cons .sc (.cons .ro (.cons .nl (.cons .nl .nil)))))))))))))))))))))))))) s72.tail.tail.tail
         ·refine B5 h69 ?_
          refine Bx ?_
          refine Ae ((decide (p.fType = 9))) (fun h73 => ?_) (fun h73 => ?_)
          ·refine C9 h73 ?_
           refine Ac (o' := 4) rfl ?_
           refine Bp (c := .sc (.int .i64 p.fId)) s7 Dn rfl ?_
           refine Ac (o' := 4) rfl ?_
           refine A5 (cs' := [.sc (.int .i64 p.fType), .sc (.bool false), .sc (.int .i64 0), .sc (.bool false), .sc (.int .i64 p.fId), .sc (.string (⟨#[]⟩)), .nl, .sc (.string (⟨#[]⟩)), .sc (.int .i64 0), .sc (.bool false), .sc (.int .i64 0), .sc (.bool false), .sc (.string (⟨#[]⟩)), .nl, .sc (.int .i64 0), .sc (.bool false), .sc (.bool false), .sc (.string (⟨#[]⟩)), .sc (.bool false), .nl, .sc (.int .i64 0), .sc (.bool false), .nl, .nl, .nl]) s7 (.here) (Ak rfl) rfl (A3 rfl) rfl fun H s74 => ?_
           refine Ac (o' := 24) rfl ?_
           refine Bp (c := Fs p.fCodes) s74 Dn rfl ?_
           refine Ac (o' := 24) rfl ?_
           refine A5 (cs' := [.sc (.int .i64 p.fType), .sc (.bool false), .sc (.int .i64 0), .sc (.bool false), .sc (.int .i64 p.fId), .sc (.string (⟨#[]⟩)), .nl, .sc (.string (⟨#[]⟩)), .sc (.int .i64 0), .sc (.bool false), .sc (.int .i64 0), .sc (.bool false), .sc (.string (⟨#[]⟩)), .nl, .sc (.int .i64 0), .sc (.bool false), .sc (.bool false), .sc (.string (⟨#[]⟩)), .sc (.bool false), .nl, .sc (.int .i64 0), .sc (.bool false), .nl, .nl, Fs p.fCodes]) s74 (.here) (Ak rfl) rfl (A3 rfl) rfl fun H s75 => ?_
           refine Ao s75 (.here) rfl ?_
           refine A5 (cs' := [.sc (.int .i64 p.fType), .sc (.bool false), .sc (.int .i64 0), .sc (.bool false), .sc (.int .i64 p.fId), .sc (.string (⟨#[]⟩)), .nl, .sc (.string (⟨#[]⟩)), .sc (.int .i64 0), .sc (.bool false), .sc (.int .i64 0), .sc (.bool false), .sc (.string (⟨#[]⟩)), .nl, .sc (.int .i64 0), .sc (.bool false), .sc (.bool false), .sc (.string (⟨#[]⟩)), .sc (.bool false), .nl, .sc (.int .i64 0), .sc (.bool false), .nl, .nl, Fs p.fCodes]) s75 Do (Ai (Aa rfl (Aa rfl (Aa rfl (Aa rfl (Aa rfl (Aa rfl (Aa rfl (Aa rfl (Aa rfl (Aa rfl (Aa rfl (Aa rfl (Aa rfl (Aa rfl (Aa rfl (Aa rfl (Aa rfl (Aa rfl (Aa rfl (Aa rfl (Aa rfl (Aa rfl (Aa rfl (Aa rfl (Aa rfl rfl)))))))))))))))))))))))))) rfl (A3 rfl) rfl fun H s76 => ?_
           refine Ao s76 (.here) rfl ?_
           have e : A7 true p = (⟨p.fType, false, 0, false, p.fId, ⟨#[]⟩, ⟨#[]⟩, ⟨#[]⟩, 0, false, 0, false, ⟨#[]⟩, ⟨#[]⟩, 0, false, false, ⟨#[]⟩, false, ⟨#[]⟩, 0, false, [], [], p.fCodes⟩ : Ay) := by
            clear hk s0 s2 s4 s6 s7 s74 s75 s76
            simp only [decide_eq_true_eq, decide_eq_false_iff_not] at h8 h37 h44 h54 h57 h60 h63 h66 h69 h73
            simp [A7, Cv, Cu, Eo, h8, h37, h44, h54, h57, h60, h63, h66, h69, h73]
           rw [e] at hk
           exact hk _ _ (fun L' => (.cons .sc (.cons .sc (.cons .sc (.cons .sc (.cons .sc (.cons .sc (.cons .nl (.cons .sc (.cons .sc (.cons .sc (.cons .sc (.cons .sc (.cons .sc (.cons .nl (.cons .sc (.cons .sc (.cons .sc (.cons .sc (.cons .sc (.cons .nl (.cons .sc (.cons .sc (.cons .nl (.cons .nl (.cons .ro .nil)))))))))))))))))))))))))) s76.tail.tail.tail
          ·refine B5 h73 ?_
           refine Bx ?_
           refine Ae ((decide (p.fType = 10))) (fun h77 => ?_) (fun h77 => ?_)
           ·refine C9 h77 ?_
            refine Ac (o' := 4) rfl ?_
            refine Bp (c := .sc (.int .i64 p.fId)) s7 Dn rfl ?_
            refine Ac (o' := 4) rfl ?_
            refine A5 (cs' := [.sc (.int .i64 p.fType), .sc (.bool false), .sc (.int .i64 0), .sc (.bool false), .sc (.int .i64 p.fId), .sc (.string (⟨#[]⟩)), .nl, .sc (.string (⟨#[]⟩)), .sc (.int .i64 0), .sc (.bool false), .sc (.int .i64 0), .sc (.bool false), .sc (.string (⟨#[]⟩)), .nl, .sc (.int .i64 0), .sc (.bool false), .sc (.bool false), .sc (.string (⟨#[]⟩)), .sc (.bool false), .nl, .sc (.int .i64 0), .sc (.bool false), .nl, .nl, .nl]) s7 (.here) (Ak rfl) rfl (A3 rfl) rfl fun H s78 => ?_
            refine Ac (o' := 23) rfl ?_
            refine Bp (c := Fv p.fNames) s78 Dn rfl ?_
            refine Ac (o' := 23) rfl ?_
            refine A5 (cs' := [.sc (.int .i64 p.fType), .sc (.bool false), .sc (.int .i64 0), .sc (.bool false), .sc (.int .i64 p.fId), .sc (.string (⟨#[]⟩)), .nl, .sc (.string (⟨#[]⟩)), .sc (.int .i64 0), .sc (.bool false), .sc (.int .i64 0), .sc (.bool false), .sc (.string (⟨#[]⟩)), .nl, .sc (.int .i64 0), .sc (.bool false), .sc (.bool false), .sc (.string (⟨#[]⟩)), .sc (.bool false), .nl, .sc (.int .i64 0), .sc (.bool false), .nl, Fv p.fNames, .nl]) s78 (.here) (Ak rfl) rfl (A3 rfl) rfl fun H s79 => ?_
            refine Ao s79 (.here) rfl ?_
            refine A5 (cs' := [.sc (.int .i64 p.fType), .sc (.bool false), .sc (.int .i64 0), .sc (.bool false), .sc (.int .i64 p.fId), .sc (.string (⟨#[]⟩)), .nl, .sc (.string (⟨#[]⟩)), .sc (.int .i64 0), .sc (.bool false), .sc (.int .i64 0), .sc (.bool false), .sc (.string (⟨#[]⟩)), .nl, .sc (.int .i64 0), .sc (.bool false), .sc (.bool false), .sc (.string (⟨#[]⟩)), .sc (.bool false), .nl, .sc (.int .i64 0), .sc (.bool false), .nl, Fv p.fNames, .nl]) s79 Do (Ai (Aa rfl (Aa rfl (Aa rfl (Aa rfl (Aa rfl (Aa rfl (Aa rfl (Aa rfl (Aa rfl (Aa rfl (Aa rfl (Aa rfl (Aa rfl (Aa rfl (Aa rfl (Aa rfl (Aa rfl (Aa rfl (Aa rfl (Aa rfl (Aa rfl (Aa rfl (Aa rfl (Aa rfl (Aa rfl rfl)))))))))))))))))))))))))) rfl (A3 rfl) rfl fun H s80 => ?_
            refine Ao s80 (.here) rfl ?_
            have e : A7 true p = (⟨p.fType, false, 0, false, p.fId, ⟨#[]⟩, ⟨#[]⟩, ⟨#[]⟩, 0, false, 0, false, ⟨#[]⟩, ⟨#[]⟩, 0, false, false, ⟨#[]⟩, false, ⟨#[]⟩, 0, false, [], p.fNames, []⟩ : Ay) := by
             clear hk s0 s2 s4 s6 s7 s78 s79 s80
             simp only [decide_eq_true_eq, decide_eq_false_iff_not] at h8 h37 h44 h54 h57 h60 h63 h66 h69 h73 h77
             simp [A7, Cv, Cu, Eo, h8, h37, h44, h54, h57, h60, h63, h66, h69, h73, h77]
            rw [e] at hk
            exact hk _ _ (fun L' => (.cons .sc (.cons .sc (.cons .sc (.cons .sc (.cons .sc (.cons .sc (.cons .nl (.cons .sc (.cons .sc (.cons .sc (.cons .sc (.cons .sc (.cons .sc (.cons .nl (.cons .sc (.cons .sc (.cons .sc (.cons .sc (.cons .sc (.cons .nl (.cons .sc (.cons .sc (.cons .nl (.cons .ro (.cons .nl .nil)))))))))))))))))))))))))) s80.tail.tail.tail
           ·refine B5 h77 ?_
            refine Ao s7 (.here) rfl ?_
            refine A5 (cs' := [.sc (.int .i64 p.fType), .sc (.bool false), .sc (.int .i64 0), .sc (.bool false), .sc (.int .i64 0), .sc (.string (⟨#[]⟩)), .nl, .sc (.string (⟨#[]⟩)), .sc (.int .i64 0), .sc (.bool false), .sc (.int .i64 0), .sc (.bool false), .sc (.string (⟨#[]⟩)), .nl, .sc (.int .i64 0), .sc (.bool false), .sc (.bool false), .sc (.string (⟨#[]⟩)), .sc (.bool false), .nl, .sc (.int .i64 0), .sc (.bool false), .nl, .nl, .nl]) s7 Do (Ai (Aa rfl (Aa rfl (Aa rfl (Aa rfl (Aa rfl (Aa rfl (Aa rfl (Aa rfl (Aa rfl (Aa rfl (Aa rfl (Aa rfl (Aa rfl (Aa rfl (Aa rfl (Aa rfl (Aa rfl (Aa rfl (Aa rfl (Aa rfl (Aa rfl (Aa rfl (Aa rfl (Aa rfl (Aa rfl rfl)))))))))))))))))))))))))) rfl (A3 rfl) rfl fun H s81 => ?_
            refine Ao s81 (.here) rfl ?_
            have e : A7 true p = (⟨p.fType, false, 0, false, 0, ⟨#[]⟩, ⟨#[]⟩, ⟨#[]⟩, 0, false, 0, false, ⟨#[]⟩, ⟨#[]⟩, 0, false, false, ⟨#[]⟩, false, ⟨#[]⟩, 0, false, [], [], []⟩ : Ay) := by
             clear hk s0 s2 s4 s6 s7 s81
             simp only [decide_eq_true_eq, decide_eq_false_iff_not] at h8 h37 h44 h54 h57 h60 h63 h66 h69 h73 h77
             simp [A7, Cv, Cu, Eo, h8, h37, h44, h54, h57, h60, h63, h66, h69, h73, h77]
            rw [e] at hk
            exact hk _ _ (fun L' => (.cons .sc (.cons .sc (.cons .sc (.cons .sc (.cons .sc (.cons .sc (.cons .nl (.cons .sc (.cons .sc (.cons .sc (.cons .sc (.cons .sc (.cons .sc (.cons .nl (.cons .sc (.cons .sc (.cons .sc (.cons .sc (.cons .sc (.cons .nl (.cons .sc (.cons .sc (.cons .nl (.cons .nl (.cons .nl .nil)))))))))))))))))))))))))) s81.tail.tail.tail
end
section
open Go
def Gx : Ay := ⟨0, false, 0, false, 0, ⟨#[]⟩, ⟨#[]⟩, ⟨#[]⟩, 0, false, 0, false, ⟨#[]⟩, ⟨#[]⟩, 0, false, false, ⟨#[]⟩, false, ⟨#[]⟩, 0, false, [], [], []⟩
end
section
open Go
def D6 (t i : Int) : Ay := ⟨t, false, 0, false, i, ⟨#[]⟩, ⟨#[]⟩, ⟨#[]⟩, 0, false, 0, false, ⟨#[]⟩, ⟨#[]⟩, 0, false, false, ⟨#[]⟩, false, ⟨#[]⟩, 0, false, [], [], []⟩
def M6 (t i : Int) : Ay := if Gj i 1 65535 = true then D6 t i else Gx
abbrev Au (i : Int) : Ay := M6 6 i
theorem AaY (pc : Bool) (i : Int) : D4 (D6 6 i) (A7 pc (D6 6 i)) = true := by
 simp [D4, Lw, Fw, A7, Eo, D6, Gk, Hk]
theorem AeS (n : Nat) (hn : 1048576 < n) (i : Int) : Bt E0 (n + 2) 4 190 [.sc (.int .i64 i)] = some (.sc (.bool (Gj i 1 65535))) := by
 rw [Ax, Aay, f190]
 refine Kv (G := (· = some (.sc (.bool (Gj i 1 65535))))) ?_
 try simp only [Cp]
 have s0 : Sep [] [] := Ks
 refine Ey (v := (.bool (Gj i 1 65535))) s0 rfl (.cons .sc (.cons .sc (.cons .sc .nil))) (Kx n _ i 1 65535) ?_
 refine Ec rfl ?_
 first | rfl | (simp_all; done)
theorem Afz (n : Nat) (hn : 1048576 < n) (i : Int) : Bt E0 (n + 3) 4 124 [.agg (Aq (D6 6 i))] = some (.sc (.bool (Gj i 1 65535))) := by
 rw [Ax, AfZ, f124]
 refine Kv (G := (· = some (.sc (.bool (Gj i 1 65535))))) ?_
 try simp only [B6, Bj, Bb, Bg, D7, A9, Br, B4, B7]
 have s0 : Sep [] [] := Ks
 refine Tk s0 (Ip (D0 _)) fun i1 H s2 => ?_
 refine Ac (o' := 0) rfl ?_
 refine Bp (c := .sc (.int .i64 ((D6 6 i).fType))) s2 (.here) rfl ?_
 refine Ey (v := (.bool (Gj ((D6 6 i).fType) 1 14))) s2 rfl (.cons .sc (.cons .sc (.cons .sc .nil))) (P4 (n + 1) _ ((D6 6 i).fType) 1 14) ?_
 refine Ky ?_
 refine C1 (nF rfl) ?_
 refine Ao s2 (.here) rfl ?_
 refine Gd.bothE ?_ ?_
 ·refine C1 (nF rfl) ?_
  refine Ao s2 (.here) rfl ?_
  refine C1 (nF rfl) ?_
  refine AeA rfl rfl ?_
  refine Sr (n + 1) (by omega) (D6 6 i) s2 fun Rs3 H hRs3 s3 => ?_
  refine C1 (nF rfl) ?_
  refine Ey (v := (.bool (D4 (D6 6 i) (A7 true (D6 6 i))))) s3 rfl (.aggF (D0 _) (.agg (hRs3 _) .nil)) (K1 n (by omega) _ (D6 6 i) (A7 true (D6 6 i)) (Nat.zero_le _) (Nat.zero_le _) (Nat.zero_le _)) ?_
  refine C1 (nF rfl) ?_
  refine Ky ?_
  refine Hg (nF rfl) ?_
  refine B5 (nF (AaY true i)) ?_
  refine Ac (o' := 4) rfl ?_
  refine Bp (c := .sc (.int .i64 ((D6 6 i).fId))) s3 (.here) rfl ?_
  refine Ey (v := (.bool (Gj ((D6 6 i).fId) 1 65535))) s3 rfl (.cons .sc (.cons .sc (.cons .sc .nil))) (P4 (n + 1) _ ((D6 6 i).fId) 1 65535) ?_
  refine Ac (o' := 0) rfl ?_
  refine Bp (c := .sc (.int .i64 ((D6 6 i).fType))) s3 (.here) rfl ?_
  refine Bx ?_
  refine B5 rfl ?_
  refine Bx ?_
  refine B5 rfl ?_
  refine Bx ?_
  refine B5 rfl ?_
  refine Bx ?_
  refine Hv ?_
  refine B5 rfl ?_
  refine Bx ?_
  refine B5 rfl ?_
  refine Bx ?_
  refine B5 rfl ?_
  refine Bx ?_
  refine B5 rfl ?_
  refine Bx ?_
  refine B5 rfl ?_
  refine Bx ?_
  refine B5 rfl ?_
  refine Ec rfl ?_
  first | rfl | (simp_all; done)
 ·refine C1 (nF rfl) ?_
  refine AeA rfl rfl ?_
  refine Sr (n + 1) (by omega) (D6 6 i) s2 fun Rs4 H hRs4 s4 => ?_
  refine C1 (nF rfl) ?_
  refine Ao s4 (.here) rfl ?_
  refine C1 (nF rfl) ?_
  refine Ey (v := (.bool (D4 (D6 6 i) (A7 true (D6 6 i))))) s4 rfl (.aggF (D0 _) (.agg (hRs4 _) .nil)) (K1 n (by omega) _ (D6 6 i) (A7 true (D6 6 i)) (Nat.zero_le _) (Nat.zero_le _) (Nat.zero_le _)) ?_
  refine C1 (nF rfl) ?_
  refine Ky ?_
  refine Hg (nF rfl) ?_
  refine B5 (nF (AaY true i)) ?_
  refine Ac (o' := 4) rfl ?_
  refine Bp (c := .sc (.int .i64 ((D6 6 i).fId))) s4 (.here) rfl ?_
  refine Ey (v := (.bool (Gj ((D6 6 i).fId) 1 65535))) s4 rfl (.cons .sc (.cons .sc (.cons .sc .nil))) (P4 (n + 1) _ ((D6 6 i).fId) 1 65535) ?_
  refine Ac (o' := 0) rfl ?_
  refine Bp (c := .sc (.int .i64 ((D6 6 i).fType))) s4 (.here) rfl ?_
  refine Bx ?_
  refine B5 rfl ?_
  refine Bx ?_
  refine B5 rfl ?_
  refine Bx ?_
  refine B5 rfl ?_
  refine Bx ?_
  refine Hv ?_
  refine B5 rfl ?_
  refine Bx ?_
  refine B5 rfl ?_
  refine Bx ?_
  refine B5 rfl ?_
  refine Bx ?_
  refine B5 rfl ?_
  refine Bx ?_
  refine B5 rfl ?_
  refine Bx ?_
  refine B5 rfl ?_
  refine Ec rfl ?_
  first | rfl | (simp_all; done)
theorem AcN (n : Nat) (hn : 1048576 < n) (i : Int) : Bt E0 (n + 4) 36 86 [.sc (.int .i64 6), .sc (.int .i64 i)] = some (.agg (Aq (M6 6 i))) := by
 rw [Ax, Ajp, f86]
 refine Kv (G := (· = some (.agg (Aq (M6 6 i))))) ?_
 try simp only [Cp, Bb, Bo, Bg, D7, A9, Br, B4, B3]
 have s0 : Sep [] [] := Ks
 refine H4 s0 fun i1 H s2 => ?_
 refine E5 (cs := [.sc (.int .i64 6), .sc (.bool false), .sc (.int .i64 0), .sc (.bool false), .sc (.int .i64 i), .sc (.string (⟨#[]⟩)), .nl, .sc (.string (⟨#[]⟩)), .sc (.int .i64 0), .sc (.bool false), .sc (.int .i64 0), .sc (.bool false), .sc (.string (⟨#[]⟩)), .nl, .sc (.int .i64 0), .sc (.bool false), .sc (.bool false), .sc (.string (⟨#[]⟩)), .sc (.bool false), .nl, .sc (.int .i64 0), .sc (.bool false), .nl, .nl, .nl]) rfl ?_
 refine H4 s2 fun i3 H s4 => ?_
 refine A5 (cs' := [.sc (.int .i64 6), .sc (.bool false), .sc (.int .i64 0), .sc (.bool false), .sc (.int .i64 i), .sc (.string (⟨#[]⟩)), .nl, .sc (.string (⟨#[]⟩)), .sc (.int .i64 0), .sc (.bool false), .sc (.int .i64 0), .sc (.bool false), .sc (.string (⟨#[]⟩)), .nl, .sc (.int .i64 0), .sc (.bool false), .sc (.bool false), .sc (.string (⟨#[]⟩)), .sc (.bool false), .nl, .sc (.int .i64 0), .sc (.bool false), .nl, .nl, .nl]) s4 (.here) (Ai (Aa rfl (Aa rfl (Aa rfl (Aa rfl (Aa rfl (Aa rfl (Aa rfl (Aa rfl (Aa rfl (Aa rfl (Aa rfl (Aa rfl (Aa rfl (Aa rfl (Aa rfl (Aa rfl (Aa rfl (Aa rfl (Aa rfl (Aa rfl (Aa rfl (Aa rfl (Aa rfl (Aa rfl (Aa rfl rfl)))))))))))))))))))))))))) rfl (A3 rfl) rfl fun H s5 => ?_
 refine Ey (v := (.bool (Gj 6 4 7))) s5 rfl (.cons .sc (.cons .sc (.cons .sc .nil))) (P4 (n + 2) _ 6 4 7) ?_
 refine Ky ?_
 refine El (nF rfl) ?_
 refine El (nF rfl) ?_
 refine Hg (nF rfl) ?_
 refine C1 rfl ?_
 refine Ao s5 (.here) rfl ?_
 refine C1 rfl ?_
 refine Ey (v := (.bool (Gj i 1 65535))) s5 rfl (.agg (.cons .sc (.cons .sc (.cons .sc (.cons .sc (.cons .sc (.cons .sc (.cons .nl (.cons .sc (.cons .sc (.cons .sc (.cons .sc (.cons .sc (.cons .sc (.cons .nl (.cons .sc (.cons .sc (.cons .sc (.cons .sc (.cons .sc (.cons .nl (.cons .sc (.cons .sc (.cons .nl (.cons .nl (.cons .nl .nil))))))))))))))))))))))))) .nil) (Afz n (by omega) i) ?_
 refine C1 rfl ?_
 refine Ky ?_
 refine Hg rfl ?_
 refine Ae ((Gj i 1 65535)) (fun h6 => ?_) (fun h6 => ?_)
 ·refine B5 (nF h6) ?_
  refine Ao s5 (.here) rfl ?_
  refine A5 (cs' := [.sc (.int .i64 6), .sc (.bool false), .sc (.int .i64 0), .sc (.bool false), .sc (.int .i64 i), .sc (.string (⟨#[]⟩)), .nl, .sc (.string (⟨#[]⟩)), .sc (.int .i64 0), .sc (.bool false), .sc (.int .i64 0), .sc (.bool false), .sc (.string (⟨#[]⟩)), .nl, .sc (.int .i64 0), .sc (.bool false), .sc (.bool false), .sc (.string (⟨#[]⟩)), .sc (.bool false), .nl, .sc (.int .i64 0), .sc (.bool false), .nl, .nl, .nl]) s5 Do (Ai (Aa rfl (Aa rfl (Aa rfl (Aa rfl (Aa rfl (Aa rfl (Aa rfl (Aa rfl (Aa rfl (Aa rfl (Aa rfl (Aa rfl (Aa rfl (Aa rfl (Aa rfl (Aa rfl (Aa rfl (Aa rfl (Aa rfl (Aa rfl (Aa rfl (Aa rfl (Aa rfl (Aa rfl (Aa rfl rfl)))))))))))))))))))))))))) rfl (A3 rfl) rfl fun H s7 => ?_
  refine Ao s7 (.here) rfl ?_
  refine Ec (Qt s7 ⟨_, rfl, rfl⟩ (.sc (.sc (.sc (.sc (.sc (.sc (.nl (.sc (.sc (.sc (.sc (.sc (.sc (.nl (.sc (.sc (.sc (.sc (.sc (.nl (.sc (.sc (.nl (.nl (.nl .nil))))))))))))))))))))))))) ⟨trivial, ⟨trivial, ⟨trivial, ⟨trivial, ⟨trivial, ⟨trivial, ⟨(Bq ⟨_, _, rfl, rfl⟩), ⟨trivial, ⟨trivial, ⟨trivial, ⟨trivial, ⟨trivial, ⟨trivial, ⟨(Bq ⟨_, _, rfl, rfl⟩), ⟨trivial, ⟨trivial, ⟨trivial, ⟨trivial, ⟨trivial, ⟨(Bq ⟨_, _, rfl, rfl⟩), ⟨trivial, ⟨trivial, ⟨(Bq ⟨_, _, rfl, rfl⟩), ⟨(Bq ⟨_, _, rfl, rfl⟩), ⟨(Bq ⟨_, _, rfl, rfl⟩), trivial⟩⟩⟩⟩⟩⟩⟩⟩⟩⟩⟩⟩⟩⟩⟩⟩⟩⟩⟩⟩⟩⟩⟩⟩⟩) ?_
  have e8 : M6 6 i = (⟨6, false, 0, false, i, ⟨#[]⟩, ⟨#[]⟩, ⟨#[]⟩, 0, false, 0, false, ⟨#[]⟩, ⟨#[]⟩, 0, false, false, ⟨#[]⟩, false, ⟨#[]⟩, 0, false, [], [], []⟩ : Ay) := by
   clear s0 s2 s4 s5 s7
   try simp only [decide_eq_true_eq, decide_eq_false_iff_not, bne_iff_ne, beq_iff_eq, beq_eq_false_iff_ne] at h6
   first | assumption | (simp only [M6, D6, Gx, h6, if_true, if_false, Bool.false_eq_true]; first | done | rfl)
  rw [e8]
  first | done | rfl
 ·refine C9 (nT h6) ?_
  refine E5 (cs := [.sc (.int .i64 0), .sc (.bool false), .sc (.int .i64 0), .sc (.bool false), .sc (.int .i64 0), .sc (.string (⟨#[]⟩)), .nl, .sc (.string (⟨#[]⟩)), .sc (.int .i64 0), .sc (.bool false), .sc (.int .i64 0), .sc (.bool false), .sc (.string (⟨#[]⟩)), .nl, .sc (.int .i64 0), .sc (.bool false), .sc (.bool false), .sc (.string (⟨#[]⟩)), .sc (.bool false), .nl, .sc (.int .i64 0), .sc (.bool false), .nl, .nl, .nl]) rfl ?_
  refine A5 (cs' := [.sc (.int .i64 0), .sc (.bool false), .sc (.int .i64 0), .sc (.bool false), .sc (.int .i64 0), .sc (.string (⟨#[]⟩)), .nl, .sc (.string (⟨#[]⟩)), .sc (.int .i64 0), .sc (.bool false), .sc (.int .i64 0), .sc (.bool false), .sc (.string (⟨#[]⟩)), .nl, .sc (.int .i64 0), .sc (.bool false), .sc (.bool false), .sc (.string (⟨#[]⟩)), .sc (.bool false), .nl, .sc (.int .i64 0), .sc (.bool false), .nl, .nl, .nl]) s5 Do (Ai (Aa rfl (Aa rfl (Aa rfl (Aa rfl (Aa rfl (Aa rfl (Aa rfl (Aa rfl (Aa rfl (Aa rfl (Aa rfl (Aa rfl (Aa rfl (Aa rfl (Aa rfl (Aa rfl (Aa rfl (Aa rfl (Aa rfl (Aa rfl (Aa rfl (Aa rfl (Aa rfl (Aa rfl (Aa rfl rfl)))))))))))))))))))))))))) rfl (A3 rfl) rfl fun H s9 => ?_
  refine Ao s9 (.here) rfl ?_
  refine Ec (Qt s9 ⟨_, rfl, rfl⟩ (.sc (.sc (.sc (.sc (.sc (.sc (.nl (.sc (.sc (.sc (.sc (.sc (.sc (.nl (.sc (.sc (.sc (.sc (.sc (.nl (.sc (.sc (.nl (.nl (.nl .nil))))))))))))))))))))))))) ⟨trivial, ⟨trivial, ⟨trivial, ⟨trivial, ⟨trivial, ⟨trivial, ⟨(Bq ⟨_, _, rfl, rfl⟩), ⟨trivial, ⟨trivial, ⟨trivial, ⟨trivial, ⟨trivial, ⟨trivial, ⟨(Bq ⟨_, _, rfl, rfl⟩), ⟨trivial, ⟨trivial, ⟨trivial, ⟨trivial, ⟨trivial, ⟨(Bq ⟨_, _, rfl, rfl⟩), ⟨trivial, ⟨trivial, ⟨(Bq ⟨_, _, rfl, rfl⟩), ⟨(Bq ⟨_, _, rfl, rfl⟩), ⟨(Bq ⟨_, _, rfl, rfl⟩), trivial⟩⟩⟩⟩⟩⟩⟩⟩⟩⟩⟩⟩⟩⟩⟩⟩⟩⟩⟩⟩⟩⟩⟩⟩⟩) ?_
  have e10 : M6 6 i = (⟨0, false, 0, false, 0, ⟨#[]⟩, ⟨#[]⟩, ⟨#[]⟩, 0, false, 0, false, ⟨#[]⟩, ⟨#[]⟩, 0, false, false, ⟨#[]⟩, false, ⟨#[]⟩, 0, false, [], [], []⟩ : Ay) := by
   clear s0 s2 s4 s5 s9
   try simp only [decide_eq_true_eq, decide_eq_false_iff_not, bne_iff_ne, beq_iff_eq, beq_eq_false_iff_ne] at h6
   first | assumption | (simp only [M6, D6, Gx, h6, if_true, if_false, Bool.false_eq_true]; first | done | rfl)
  rw [e10]
  first | done | rfl
theorem Ox (n : Nat) (hn : 1048576 < n) (i : Int) : Bt E0 (n + 4) 36 86 [.sc (.int .i64 6), .sc (.int .i64 i)] = some (.agg (Aq (Au i))) := AcN n hn i
theorem AeJ (n : Nat) (hn : 1048576 < n) (i : Int) : Bt E0 (n + 3) 4 76 [.agg (Aq (D6 6 i))] = some (.sc (.bool (Gj i 1 65535))) := by
 rw [Ax, Ajk, f76]
 refine Kv (G := (· = some (.sc (.bool (Gj i 1 65535))))) ?_
 try simp only [B6, Bj, Bb, Bg, D7, A9, Br, B4, B7]
 have s0 : Sep [] [] := Ks
 refine Tk s0 (Ip (D0 _)) fun i1 H s2 => ?_
 refine Ac (o' := 0) rfl ?_
 refine Bp (c := .sc (.int .i64 ((D6 6 i).fType))) s2 (.here) rfl ?_
 refine Ey (v := (.bool (Gj ((D6 6 i).fType) 1 14))) s2 rfl (.cons .sc (.cons .sc (.cons .sc .nil))) (Kx (n + 1) _ ((D6 6 i).fType) 1 14) ?_
 refine Ky ?_
 refine C1 (nF rfl) ?_
 refine Ao s2 (.here) rfl ?_
 refine Gd.bothE ?_ ?_
 ·refine C1 (nF rfl) ?_
  refine Ao s2 (.here) rfl ?_
  refine C1 (nF rfl) ?_
  refine AeA rfl rfl ?_
  refine Ru (n + 1) (by omega) (D6 6 i) s2 fun Rs3 H hRs3 s3 => ?_
  refine C1 (nF rfl) ?_
  refine Ey (v := (.bool (D4 (D6 6 i) (A7 false (D6 6 i))))) s3 rfl (.aggF (D0 _) (.agg (hRs3 _) .nil)) (Kz n (by omega) _ (D6 6 i) (A7 false (D6 6 i)) (Nat.zero_le _) (Nat.zero_le _) (Nat.zero_le _)) ?_
  refine C1 (nF rfl) ?_
  refine Ky ?_
  refine Hg (nF rfl) ?_
  refine B5 (nF (AaY false i)) ?_
  refine Ac (o' := 0) rfl ?_
  refine Bp (c := .sc (.int .i64 ((D6 6 i).fType))) s3 (.here) rfl ?_
  refine Bx ?_
  refine B5 rfl ?_
  refine Bx ?_
  refine B5 rfl ?_
  refine Bx ?_
  refine B5 rfl ?_
  refine Bx ?_
  refine Hv ?_
  refine B5 rfl ?_
  refine Bx ?_
  refine B5 rfl ?_
  refine Bx ?_
  refine C9 rfl ?_
  refine C9 rfl ?_
  refine Ac (o' := 4) rfl ?_
  refine Bp (c := .sc (.int .i64 ((D6 6 i).fId))) s3 (.here) rfl ?_
  refine Ey (v := (.bool (Gj ((D6 6 i).fId) 1 65535))) s3 rfl (.cons .sc .nil) (AeS n (by omega) ((D6 6 i).fId)) ?_
  refine Ec rfl ?_
  first | rfl | (simp_all; done)
 ·refine C1 (nF rfl) ?_
  refine AeA rfl rfl ?_
  refine Ru (n + 1) (by omega) (D6 6 i) s2 fun Rs4 H hRs4 s4 => ?_
  refine C1 (nF rfl) ?_
  refine Ao s4 (.here) rfl ?_
  refine C1 (nF rfl) ?_
  refine Ey (v := (.bool (D4 (D6 6 i) (A7 false (D6 6 i))))) s4 rfl (.aggF (D0 _) (.agg (hRs4 _) .nil)) (Kz n (by omega) _ (D6 6 i) (A7 false (D6 6 i)) (Nat.zero_le _) (Nat.zero_le _) (Nat.zero_le _)) ?_
  refine C1 (nF rfl) ?_
  refine Ky ?_
  refine Hg (nF rfl) ?_
  refine B5 (nF (AaY false i)) ?_
  refine Ac (o' := 0) rfl ?_
  refine Bp (c := .sc (.int .i64 ((D6 6 i).fType))) s4 (.here) rfl ?_
  refine Bx ?_
  refine B5 rfl ?_
  refine Bx ?_
  refine B5 rfl ?_
  refine Bx ?_
  refine B5 rfl ?_
  refine Bx ?_
  refine Hv ?_
  refine B5 rfl ?_
  refine Bx ?_
  refine B5 rfl ?_
  refine Bx ?_
  refine C9 rfl ?_
  refine C9 rfl ?_
  refine Ac (o' := 4) rfl ?_
  refine Bp (c := .sc (.int .i64 ((D6 6 i).fId))) s4 (.here) rfl ?_
  refine Ey (v := (.bool (Gj ((D6 6 i).fId) 1 65535))) s4 rfl (.cons .sc .nil) (AeS n (by omega) ((D6 6 i).fId)) ?_
  refine Ec rfl ?_
  first | rfl | (simp_all; done)
theorem AcC (n : Nat) (hn : 1048576 < n) (i : Int) : Bt E0 (n + 4) 36 92 [.sc (.int .i64 6), .sc (.int .i64 i)] = some (.agg (Aq (M6 6 i))) := by
 rw [Ax, Aju, f92]
 refine Kv (G := (· = some (.agg (Aq (M6 6 i))))) ?_
 try simp only [Cp, Bb, Bo, Bg, D7, A9, Br, B4, B3]
 have s0 : Sep [] [] := Ks
 refine H4 s0 fun i1 H s2 => ?_
 refine E5 (cs := [.sc (.int .i64 6), .sc (.bool false), .sc (.int .i64 0), .sc (.bool false), .sc (.int .i64 i), .sc (.string (⟨#[]⟩)), .nl, .sc (.string (⟨#[]⟩)), .sc (.int .i64 0), .sc (.bool false), .sc (.int .i64 0), .sc (.bool false), .sc (.string (⟨#[]⟩)), .nl, .sc (.int .i64 0), .sc (.bool false), .sc (.bool false), .sc (.string (⟨#[]⟩)), .sc (.bool false), .nl, .sc (.int .i64 0), .sc (.bool false), .nl, .nl, .nl]) rfl ?_
 refine H4 s2 fun i3 H s4 => ?_
 refine A5 (cs' := [.sc (.int .i64 6), .sc (.bool false), .sc (.int .i64 0), .sc (.bool false), .sc (.int .i64 i), .sc (.string (⟨#[]⟩)), .nl, .sc (.string (⟨#[]⟩)), .sc (.int .i64 0), .sc (.bool false), .sc (.int .i64 0), .sc (.bool false), .sc (.string (⟨#[]⟩)), .nl, .sc (.int .i64 0), .sc (.bool false), .sc (.bool false), .sc (.string (⟨#[]⟩)), .sc (.bool false), .nl, .sc (.int .i64 0), .sc (.bool false), .nl, .nl, .nl]) s4 (.here) (Ai (Aa rfl (Aa rfl (Aa rfl (Aa rfl (Aa rfl (Aa rfl (Aa rfl (Aa rfl (Aa rfl (Aa rfl (Aa rfl (Aa rfl (Aa rfl (Aa rfl (Aa rfl (Aa rfl (Aa rfl (Aa rfl (Aa rfl (Aa rfl (Aa rfl (Aa rfl (Aa rfl (Aa rfl (Aa rfl rfl)))))))))))))))))))))))))) rfl (A3 rfl) rfl fun H s5 => ?_
 refine Ey (v := (.bool (Gj 6 4 7))) s5 rfl (.cons .sc (.cons .sc (.cons .sc .nil))) (Kx (n + 2) _ 6 4 7) ?_
 refine Ky ?_
 refine El (nF rfl) ?_
 refine El (nF rfl) ?_
 refine Hg (nF rfl) ?_
 refine C1 rfl ?_
 refine Ao s5 (.here) rfl ?_
 refine C1 rfl ?_
 refine Ey (v := (.bool (Gj i 1 65535))) s5 rfl (.agg (.cons .sc (.cons .sc (.cons .sc (.cons .sc (.cons .sc (.cons .sc (.cons .nl (.cons .sc (.cons .sc (.cons .sc (.cons .sc (.cons .sc (.cons .sc (.cons .nl (.cons .sc (.cons .sc (.cons .sc (.cons .sc (.cons .sc (.cons .nl (.cons .sc (.cons .sc (.cons .nl (.cons .nl (.cons .nl .nil))))))))))))))))))))))))) .nil) (AeJ n (by omega) i) ?_
 refine C1 rfl ?_
 refine Ky ?_
 refine Hg rfl ?_
 refine Ae ((Gj i 1 65535)) (fun h6 => ?_) (fun h6 => ?_)
 ·refine B5 (nF h6) ?_
  refine Ao s5 (.here) rfl ?_
  refine A5 (cs' := [.sc (.int .i64 6), .sc (.bool false), .sc (.int .i64 0), .sc (.bool false), .sc (.int .i64 i), .sc (.string (⟨#[]⟩)), .nl, .sc (.string (⟨#[]⟩)), .sc (.int .i64 0), .sc (.bool false), .sc (.int .i64 0), .sc (.bool false), .sc (.string (⟨#[]⟩)), .nl, .sc (.int .i64 0), .sc (.bool false), .sc (.bool false), .sc (.string (⟨#[]⟩)), .sc (.bool false), .nl, .sc (.int .i64 0), .sc (.bool false), .nl, .nl, .nl]) s5 Do (Ai (Aa rfl (Aa rfl (Aa rfl (Aa rfl (Aa rfl (Aa rfl (Aa rfl (Aa rfl (Aa rfl (Aa rfl (Aa rfl (Aa rfl (Aa rfl (Aa rfl (Aa rfl (Aa rfl (Aa rfl (Aa rfl (Aa rfl (Aa rfl (Aa rfl (Aa rfl (Aa rfl (Aa rfl (Aa rfl rfl)))))))))))))))))))))))))) rfl (A3 rfl) rfl fun H s7 => ?_
  refine Ao s7 (.here) rfl ?_
  refine Ec (Qt s7 ⟨_, rfl, rfl⟩ (.sc (.sc (.sc (.sc (.sc (.sc (.nl (.sc (.sc (.sc (.sc (.sc (.sc (.nl (.sc (.sc (.sc (.sc (.sc (.nl (.sc (.sc (.nl (.nl (.nl .nil))))))))))))))))))))))))) ⟨trivial, ⟨trivial, ⟨trivial, ⟨trivial, ⟨trivial, ⟨trivial, ⟨(Bq ⟨_, _, rfl, rfl⟩), ⟨trivial, ⟨trivial, ⟨trivial, ⟨trivial, ⟨trivial, ⟨trivial, ⟨(Bq ⟨_, _, rfl, rfl⟩), ⟨trivial, ⟨trivial, ⟨trivial, ⟨trivial, ⟨trivial, ⟨(Bq ⟨_, _, rfl, rfl⟩), ⟨trivial, ⟨trivial, ⟨(Bq ⟨_, _, rfl, rfl⟩), ⟨(Bq ⟨_, _, rfl, rfl⟩), ⟨(Bq ⟨_, _, rfl, rfl⟩), trivial⟩⟩⟩⟩⟩⟩⟩⟩⟩⟩⟩⟩⟩⟩⟩⟩⟩⟩⟩⟩⟩⟩⟩⟩⟩) ?_
  have e8 : M6 6 i = (⟨6, false, 0, false, i, ⟨#[]⟩, ⟨#[]⟩, ⟨#[]⟩, 0, false, 0, false, ⟨#[]⟩, ⟨#[]⟩, 0, false, false, ⟨#[]⟩, false, ⟨#[]⟩, 0, false, [], [], []⟩ : Ay) := by
   clear s0 s2 s4 s5 s7
   try simp only [decide_eq_true_eq, decide_eq_false_iff_not, bne_iff_ne, beq_iff_eq, beq_eq_false_iff_ne] at h6
   first | assumption | (simp only [M6, D6, Gx, h6, if_true, if_false, Bool.false_eq_true]; first | done | rfl)
  rw [e8]
  first | done | rfl
 ·refine C9 (nT h6) ?_
  refine E5 (cs := [.sc (.int .i64 0), .sc (.bool false), .sc (.int .i64 0), .sc (.bool false), .sc (.int .i64 0), .sc (.string (⟨#[]⟩)), .nl, .sc (.string (⟨#[]⟩)), .sc (.int .i64 0), .sc (.bool false), .sc (.int .i64 0), .sc (.bool false), .sc (.string (⟨#[]⟩)), .nl, .sc (.int .i64 0), .sc (.bool false), .sc (.bool false), .sc (.string (⟨#[]⟩)), .sc (.bool false), .nl, .sc (.int .i64 0), .sc (.bool false), .nl, .nl, .nl]) rfl ?_
  refine A5 (cs' := [.sc (.int .i64 0), .sc (.bool false), .sc (.int .i64 0), .sc (.bool false), .sc (.int .i64 0), .sc (.string (⟨#[]⟩)), .nl, .sc (.string (⟨#[]⟩)), .sc (.int .i64 0), .sc (.bool false), .sc (.int .i64 0), .sc (.bool false), .sc (.string (⟨#[]⟩)), .nl, .sc (.int .i64 0), .sc (.bool false), .sc (.bool false), .sc (.string (⟨#[]⟩)), .sc (.bool false), .nl, .sc (.int .i64 0), .sc (.bool false), .nl, .nl, .nl]) s5 Do (Ai (Aa rfl (Aa rfl (Aa rfl (Aa rfl (Aa rfl (Aa rfl (Aa rfl (Aa rfl (Aa rfl (Aa rfl (Aa rfl (Aa rfl (Aa rfl (Aa rfl (Aa rfl (Aa rfl (Aa rfl (Aa rfl (Aa rfl (Aa rfl (Aa rfl (Aa rfl (Aa rfl (Aa rfl (Aa rfl rfl)))))))))))))))))))))))))) rfl (A3 rfl) rfl fun H s9 => ?_
  refine Ao s9 (.here) rfl ?_
  refine Ec (Qt s9 ⟨_, rfl, rfl⟩ (.sc (.sc (.sc (.sc (.sc (.sc (.nl (.sc (.sc (.sc (.sc (.sc (.sc (.nl (.sc (.sc (.sc (.sc (.sc (.nl (.sc (.sc (.nl (.nl (.nl .nil))))))))))))))))))))))))) ⟨trivial, ⟨trivial, ⟨trivial, ⟨trivial, ⟨trivial, ⟨trivial, ⟨(Bq ⟨_, _, rfl, rfl⟩), ⟨trivial, ⟨trivial, ⟨trivial, ⟨trivial, ⟨trivial, ⟨trivial, ⟨(Bq ⟨_, _, rfl, rfl⟩), ⟨trivial, ⟨trivial, ⟨trivial, ⟨trivial, ⟨trivial, ⟨(Bq ⟨_, _, rfl, rfl⟩), ⟨trivial, ⟨trivial, ⟨(Bq ⟨_, _, rfl, rfl⟩), ⟨(Bq ⟨_, _, rfl, rfl⟩), ⟨(Bq ⟨_, _, rfl, rfl⟩), trivial⟩⟩⟩⟩⟩⟩⟩⟩⟩⟩⟩⟩⟩⟩⟩⟩⟩⟩⟩⟩⟩⟩⟩⟩⟩) ?_
  have e10 : M6 6 i = (⟨0, false, 0, false, 0, ⟨#[]⟩, ⟨#[]⟩, ⟨#[]⟩, 0, false, 0, false, ⟨#[]⟩, ⟨#[]⟩, 0, false, false, ⟨#[]⟩, false, ⟨#[]⟩, 0, false, [], [], []⟩ : Ay) := by
   clear s0 s2 s4 s5 s9
   try simp only [decide_eq_true_eq, decide_eq_false_iff_not, bne_iff_ne, beq_iff_eq, beq_eq_false_iff_ne] at h6
   first | assumption | (simp only [M6, D6, Gx, h6, if_true, if_false, Bool.false_eq_true]; first | done | rfl)
  rw [e10]
  first | done | rfl
theorem Oa (n : Nat) (hn : 1048576 < n) (i : Int) : Bt E0 (n + 4) 36 92 [.sc (.int .i64 6), .sc (.int .i64 i)] = some (.agg (Aq (Au i))) := AcC n hn i
theorem AjW (t i : Int) : Ee (M6 t i) = 0 := by
 unfold M6
 split <;> rfl
end
section
open Go
section
variable {β : Type} {n : Nat} {H : Ab} {L L' L1 L2 : List Ck} {G : Option β → Prop} {K : AV → Option β} {KH : KO β}
theorem Ahd {w m o d : Nat} {z : Int} {K : AV → Option β} (h0 : 0 ≤ z) (h1 : z < m) (hk : Gd G (K (.ptr d (o + z.toNat * w)))) : Gd G (Cg w (.sl d o m w) (.sc (.int .i64 z)) fun t => K t) := by
 have e := Qp w m d o z.toNat (fun t => K t) (by omega)
 rw [show ((z.toNat : Nat) : Int) = z by omega] at e
 exact Fc e hk
end
end
section
open Go
section
variable {β : Type} {n : Nat} {H : Ab} {L L' L1 L2 : List Ck} {G : Option β → Prop} {K : AV → Option β} {KH : KO β}
end
end
section
open Go
section
variable {β : Type} {n : Nat} {H : Ab} {L L' L1 L2 : List Ck} {G : Option β → Prop} {K : AV → Option β} {KH : KO β}
theorem M5 {f : Nat → AV → Option (AV × List Nat)} : ∀ {ts1 ts2 : List Nat} {xs cells : List AV} {I : List Nat}, Cq f (ts1 ++ ts2) xs = some (cells, I) → ts1.length ≤ xs.length → ∃ I1 I2, Cq f ts1 (xs.take ts1.length) = some (cells.take ts1.length, I1) ∧ Cq f ts2 (xs.drop ts1.length) = some (cells.drop ts1.length, I2) ∧ (∀ i ∈ I1, i ∈ I) ∧ ∀ i ∈ I2, i ∈ I
 | [], ts2, xs, cells, I, h, _ => ⟨[], I, by simp [Cq], by simpa using h, by simp, fun i hi => hi⟩
 | t :: ts1, ts2, [], cells, I, h, hl => by simp at hl
 | t :: ts1, ts2, x :: xs, cells, I, h, hl => by
  obtain ⟨a, b, h1, h2, e⟩ := F1 h
  cases e
  obtain ⟨I1, I2, g1, g2, g3, g4⟩ := M5 (ts1 := ts1) (ts2 := ts2) h2 (by simpa using hl)
  refine ⟨a.2 ++ I1, I2, ?_, ?_, ?_, ?_⟩
  ·show Cq f (t :: ts1) (x :: xs.take ts1.length) = some (a.1 :: b.1.take ts1.length, a.2 ++ I1)
   rw [Cq, h1, Option.bind_some, g1]
   rfl
  ·simpa using g2
  ·intro i hi
   rcases List.mem_append.1 hi with hi | hi
   ·exact List.mem_append_left _ hi
   ·exact List.mem_append_right _ (g3 i hi)
  ·intro i hi
   exact List.mem_append_right _ (g4 i hi)
theorem Iu {f : Nat → AV → Prop} : ∀ {ts1 ts2 : List Nat} {cs : List AV}, Ed f (ts1 ++ ts2) cs → Ed f ts1 (cs.take ts1.length) ∧ Ed f ts2 (cs.drop ts1.length)
 | [], ts2, cs, h => ⟨by simp [Ed], by simpa using h⟩
 | t :: ts1, ts2, [], h => by cases h
 | t :: ts1, ts2, c :: cs, h => by
  obtain ⟨g1, g2⟩ := Iu (ts1 := ts1) h.2
  exact ⟨⟨h.1, g1⟩, by simpa using g2⟩
end
end
section
open Go
section
variable {β : Type} {n : Nat} {H : Ab} {L L' L1 L2 : List Ck} {G : Option β → Prop} {K : AV → Option β} {KH : KO β}
theorem U7 {cty : List Nat} {m a b : Nat} (ha : a ≤ b) (hb : b ≤ m) : (List.replicate m cty).flatten = (List.replicate a cty).flatten ++ ((List.replicate (b - a) cty).flatten ++ (List.replicate (m - b) cty).flatten) := by
 rw [show m = a + ((b - a) + (m - b)) by omega, ← List.replicate_append_replicate, ← List.replicate_append_replicate, List.flatten_append, List.flatten_append]
 congr 4
 omega
def Ada (w : Nat) (x : AV) (a b : Nat) (y : AV) : Prop := (x = .nl ∧ y = .nl) ∨ ∃ id off m, x = .sl id off m w ∧ y = .sl id (off + a * w) (b - a) w
theorem AeD {sz m ty a b : Nat} {cty : List Nat} {x : AV} {cells : List AV} {ys : List (AV × Nat × AV)} {lo hi : Option AV} (hs : Sep H L) (hty : ∃ i j, Ag ty = some i ∧ Ag i.elem = some j ∧ j.size = sz ∧ j.cty = cty) (hp : Pk L (.shs x ty (.ro m cells) ys) L1)
  (hlo : I8 lo 0 = some ((a : Nat) : Int)) (hhi : I8 hi m = some ((b : Nat) : Int)) (hab : a ≤ b) (hb : b ≤ m) (hc : cty.length = sz)
  (h : ∀ y, A4 y = true → Ada sz x a b y → Sep H (.shs x ty (.ro m cells) ((y, ty, .ro (b - a) ((cells.drop (a * sz)).take ((b - a) * sz))) :: ys) :: L1) → Gd G (K y)) : Gd G (Lu sz x lo hi fun t => K t) := by
 obtain ⟨ti, tj, e1, e2, rfl, rfl⟩ := hty
 obtain ⟨I, ⟨J, R, rfl, ⟨⟨hlf, hok, e⟩, hys⟩, h2⟩, h3⟩ := hs.pick hp
 have hcl : cells.length = m * tj.size ∧ Ed (F7 Ag E0.tp 5) (List.replicate m tj.cty).flatten cells := by
  obtain ⟨i', j', q1, q2, q3, q4⟩ := hok
  rw [e1] at q1
  cases q1
  rw [e2] at q2
  cases q2
  exact ⟨q3, q4⟩
 have hrl : ∀ k, ((List.replicate k tj.cty).flatten).length = k * tj.size := fun k => by simp [hc]
 have hm1 : a * tj.size ≤ b * tj.size := Nat.mul_le_mul_right _ hab
 have hm2 : b * tj.size ≤ m * tj.size := Nat.mul_le_mul_right _ hb
 have hm3 : (b - a) * tj.size = b * tj.size - a * tj.size := Nat.sub_mul ..
 have hokP : F7 Ag E0.tp 6 ty (.ro (b - a) ((cells.drop (a * tj.size)).take ((b - a) * tj.size))) := by
  refine ⟨ti, tj, e1, e2, ?_, ?_⟩
  ·rw [List.length_take, List.length_drop, hcl.1]
   omega
  ·have q := hcl.2
   rw [U7 hab hb] at q
   have q2 := (Iu (Iu q).2).1
   rw [hrl, hrl] at q2
   exact q2
 have fin : ∀ y JP, A4 y = true → Ada tj.size x a b y → Cc Ag E0.tp H 6 ty y = some (.ro (b - a) ((cells.drop (a * tj.size)).take ((b - a) * tj.size)), JP) → (∀ i ∈ JP, i ∈ J) → Gd G (K y) := by
  intro y JP hy1 hq hy hJ
  refine h y hy1 hq ⟨J ++ R, ⟨J, R, rfl, ⟨⟨hlf, hok, e⟩, fun q hq => ?_⟩, h2⟩, h3⟩
  rcases List.mem_cons.1 hq with rfl | hq
  ·exact ⟨hokP, JP, hy, hJ⟩
  ·exact hys q hq
 rcases Qs e1 e2 e with ⟨rfl, rfl, rfl, rfl⟩ | ⟨id, off, raw, J', bb, rfl, rfl, hbb, hlv, ha, h4, h5⟩
 ·have hb0 : b = 0 := by omega
  have ha0 : a = 0 := by omega
  subst hb0
  subst ha0
  refine Fc (b := K .nl) ?_ (fin .nl [] rfl (.inl ⟨rfl, rfl⟩) (by simp [Cc]) (by simp))
  have hl0 : G4 .nl = some 0 := rfl
  simp only [Lu, hl0, hlo, hhi, Option.bind_some]
  rfl
 ·obtain ⟨hl, b', hb', _, hle, hcs⟩ := Ic h4
  rw [hbb] at hb'
  cases hb'
  rw [U7 hab hb] at h5
  obtain ⟨I1, I2, g1, g2, g3, g4⟩ := M5 h5 (by rw [hrl, hl]; omega)
  obtain ⟨I3, I4, k1, k2, k3, k4⟩ := M5 g2 (by rw [hrl, List.length_drop, hrl, hl]; omega)
  rw [hrl, hrl] at k1
  refine Fc (b := K (.sl id (off + a * tj.size) (b - a) tj.size)) ?_ (fin _ (id :: I3) rfl (.inr ⟨id, off, m, rfl, rfl⟩) ?_ ?_)
  ·have hl0 : G4 (.sl id off m tj.size) = some m := rfl
   simp only [Lu, hl0, hlo, hhi, Option.bind_some, if_true]
   rw [if_pos (by omega)]
   congr 2
   omega
  ·rw [Gi]
   have hap : F6 H id = true := by simp only [F6, hbb]; exact ha
   have hrd : An H id (off + a * tj.size) ((b - a) * tj.size) = some ((raw.drop (a * tj.size)).take ((b - a) * tj.size)) := by
    simp only [An, hbb, hlv, if_true]
    rw [if_pos (by omega), hcs, List.drop_take, List.take_take, List.drop_drop, Nat.min_eq_left (by omega)]
   simp only [e1, e2, Option.bind_some, if_true, hap, hrd, k1]
  ·intro i hi
   rcases List.mem_cons.1 hi with rfl | hi
   ·exact List.mem_cons_self
   ·exact List.mem_cons_of_mem _ (g4 i (k3 i hi))
theorem Sk {α : Type} {enc : α → List AV} {w : Nat} (hw : ∀ x, (enc x).length = w) (l : List α) (a b : Nat) (hab : a ≤ b) (hb : b ≤ l.length) : (AV.ro (b - a) ((((l.map enc).flatten).drop (a * w)).take ((b - a) * w))) = At enc ((l.drop a).take (b - a)) := by
 have h1 : (((l.map enc).flatten).drop (a * w)) = ((l.drop a).map enc).flatten := by
  have e : l = l.take a ++ l.drop a := (List.take_append_drop a l).symm
  have hp : ((l.take a).map enc).flatten.length = a * w := by rw [Gb hw, List.length_take, Nat.min_eq_left (by omega)]
  rw [e, List.map_append, List.flatten_append]
  have e0 : (l.take a ++ l.drop a).drop a = l.drop a := by rw [← e]
  rw [e0, List.drop_append_of_le_length (by omega), ← hp, List.drop_length, List.nil_append]
 have h2 : (((l.drop a).map enc).flatten).take ((b - a) * w) = (((l.drop a).take (b - a)).map enc).flatten := by
  have e : l.drop a = (l.drop a).take (b - a) ++ (l.drop a).drop (b - a) := (List.take_append_drop _ _).symm
  have hp : (((l.drop a).take (b - a)).map enc).flatten.length = (b - a) * w := by rw [Gb hw, List.length_take, List.length_drop, Nat.min_eq_left (by omega)]
  have e0 : ((l.drop a).take (b - a) ++ (l.drop a).drop (b - a)).take (b - a) = (l.drop a).take (b - a) := by rw [← e]
  rw [e, List.map_append, List.flatten_append, e0, List.take_append_of_le_length (by omega), ← hp, List.take_length]
 rw [h1, h2]
 show _ = AV.ro _ _
 rw [List.length_take, List.length_drop, Nat.min_eq_left (by omega)]
theorem Jz {α : Type} {enc : α → List AV} {w ty : Nat} {a b : Int} {cty : List Nat} {x : AV} {l : List α} {ys : List (AV × Nat × AV)} {lo hi : Option AV} (hs : Sep H L) (hty : ∃ i j, Ag ty = some i ∧ Ag i.elem = some j ∧ j.size = w ∧ j.cty = cty) (hp : Pk L (.shs x ty (At enc l) ys) L1)
  (hlo : I8 lo 0 = some a) (hhi : I8 hi l.length = some b) (h0 : 0 ≤ a) (hab : a ≤ b) (hb : b ≤ (l.length : Nat)) (hw : ∀ x, (enc x).length = w) (hc : cty.length = w)
  (h : ∀ y, A4 y = true → Ada w x a.toNat b.toNat y → Sep H (.shs x ty (At enc l) ((y, ty, At enc ((l.drop a.toNat).take (b.toNat - a.toNat))) :: ys) :: L1) → Gd G (K y)) : Gd G (Lu w x lo hi fun t => K t) := by
 obtain ⟨a', rfl⟩ : ∃ a' : Nat, a = a' := ⟨a.toNat, by omega⟩
 obtain ⟨b', rfl⟩ : ∃ b' : Nat, b = b' := ⟨b.toNat, by omega⟩
 refine AeD (cells := (l.map enc).flatten) hs hty hp hlo hhi (by omega) (by omega) hc fun y hy hq hs' => h y hy (by simpa using hq) ?_
 rw [Sk hw l a' b' (by omega) (by omega)] at hs'
 exact hs'
end
end
section
open Go
section
variable {β : Type} {n : Nat} {H : Ab} {L L' L1 L2 : List Ck} {G : Option β → Prop} {K : AV → Option β} {KH : KO β}
theorem Wr {d : Nat} : ∀ {ts : List Nat} {xs cells : List AV} {I : List Nat} {k : Nat} {v v' : Value}, Cq (Cc Ag E0.tp H (d + 1)) ts xs = some (cells, I) → cells[k]? = some (.sc v) → Cq (Cc Ag E0.tp H (d + 1)) ts (xs.set k (.sc v')) = some (cells.set k (.sc v'), I)
 | ts, [], cells, I, k, v, v', h, hk => by
  obtain ⟨_, e⟩ := Iv h
  cases e
  simp at hk
 | [], _ :: _, _, _, _, _, _, h, _ => by simp [Cq] at h
 | t :: ts, x :: xs, cells, I, k, v, v', h, hk => by
  obtain ⟨a, b, h1, h2, e⟩ := F1 h
  cases e
  cases k with
  | zero =>
   obtain ⟨a1, a2⟩ := a
   have : a1 = .sc v := by simpa using hk
   subst this
   have hx := Afn h1
   subst hx
   have e2 : ([] : List Nat) = a2 := by
    have : (AV.sc v, ([] : List Nat)) = (.sc v, a2) := Option.some.inj h1
    cases this
    rfl
   subst e2
   show Cq _ (t :: ts) (.sc v' :: xs) = some (.sc v' :: b.1, [] ++ b.2)
   rw [Cq, Qr, Option.bind_some, h2]
   rfl
  | succ k =>
   have ih := Wr (v' := v') h2 (by simpa using hk)
   show Cq _ (t :: ts) (x :: xs.set k (.sc v')) = some (a.1 :: b.1.set k (.sc v'), a.2 ++ b.2)
   rw [Cq, h1, Option.bind_some, ih]
   rfl
theorem Wl {d : Nat} : ∀ {ts : List Nat} {cs : List AV} {k : Nat} {v' : Value}, Ed (F7 Ag E0.tp (d + 1)) ts cs → Ed (F7 Ag E0.tp (d + 1)) ts (cs.set k (.sc v'))
 | [], [], _, _, h => h
 | t :: ts, c :: cs, 0, v', h => ⟨trivial, h.2⟩
 | t :: ts, c :: cs, k + 1, v', h => ⟨h.1, Wl h.2⟩
 | [], _ :: _, _, _, h => by cases h
 | _ :: _, [], _, _, h => by cases h
theorem W0 {α : Type} {enc : α → List AV} {w : Nat} (hw : ∀ x, (enc x).length = w) {l : List α} {i k : Nat} {y y' : α} {v : AV} (hy : l[i]? = some y) (hk : k < w) (he : enc y' = (enc y).set k v) : ((l.map enc).flatten).set (i * w + k) v = ((l.set i y').map enc).flatten := by
 induction l generalizing i with
 | nil => simp at hy
 | cons x l ih =>
  cases i with
  | zero =>
   have : x = y := by simpa using hy
   subst this
   rw [List.set_cons_zero, List.map_cons, List.map_cons, List.flatten_cons, List.flatten_cons, he, Nat.zero_mul, Nat.zero_add, List.set_append_left _ _ (by rw [hw]; exact hk)]
  | succ i =>
   have := ih (i := i) (by simpa using hy)
   rw [List.set_cons_succ, List.map_cons, List.map_cons, List.flatten_cons, List.flatten_cons, List.set_append_right _ _ (by rw [hw, Nat.add_mul]; omega), hw, show (i + 1) * w + k - w = i * w + k by rw [Nat.add_mul]; omega, this]
theorem AcO {cs : List AV} {o : Nat} {v : AV} (h : o < cs.length) : Ch cs o [v] = cs.set o v := by
 unfold Ch
 rw [List.set_eq_take_append_cons_drop, if_pos h]
 simp
theorem Le {α : Type} {enc : α → List AV} {w ty k : Nat} {cty : List Nat} {x : AV} {l : List α} {y y' : α} {i : Int} {v v' : Value} {KS : Ab → Option β} (hs : Sep H L) (hty : ∃ i j, Ag ty = some i ∧ Ag i.elem = some j ∧ j.size = w ∧ j.cty = cty) (hp : Pk L (.own x ty (At enc l)) L1)
  (hi : 0 ≤ i) (hy : l[i.toNat]? = some y) (hw : ∀ x, (enc x).length = w) (hk : k < w) (hv : (enc y)[k]? = some (.sc v)) (hl : A4 (.sc v') = true) (he : enc y' = (enc y).set k (.sc v'))
  (h : ∀ H', Sep H' (.own x ty (At enc (l.set i.toNat y')) :: L1) → Gd G (KS H')) : Gd G (Cg w x (.sc (.int .i64 i)) fun t => Di k t fun t => C2 1 t (.sc v') H fun H => KS H) := by
 obtain ⟨ti, tj, e1, e2, rfl, rfl⟩ := hty
 obtain ⟨I, ⟨J, R, rfl, ⟨hlf, hok, e⟩, h2⟩, h3⟩ := hs.pick hp
 have hlt : i.toNat < l.length := (List.getElem?_eq_some_iff.1 hy).1
 rcases Qs e1 e2 e with ⟨rfl, h0, _, _⟩ | ⟨id, off, raw, J', b, rfl, rfl, hb, hlv, ha, h4, h5⟩
 ·omega
 ·obtain ⟨hl4, b', hb', _, hle, hcs⟩ := Ic h4
  rw [hb] at hb'
  cases hb'
  have hm : (i.toNat + 1) * tj.size ≤ l.length * tj.size := Nat.mul_le_mul_right _ hlt
  rw [Nat.add_mul, Nat.one_mul] at hm
  have hlc : ((l.map enc).flatten).length = l.length * tj.size := Gb hw l
  have hcv : ((l.map enc).flatten)[i.toNat * tj.size + k]? = some (.sc v) := by
   have key : ∀ (l : List α) (i : Nat), l[i]? = some y → ((l.map enc).flatten)[i * tj.size + k]? = some (.sc v) := by
    intro l
    induction l with
    | nil => intro i hi; simp at hi
    | cons z l ih =>
     intro i hi
     cases i with
     | zero =>
      have : z = y := by simpa using hi
      subst this
      rw [List.map_cons, List.flatten_cons, List.getElem?_append_left (by rw [hw]; omega), Nat.zero_mul, Nat.zero_add, hv]
     | succ i =>
      rw [List.map_cons, List.flatten_cons, List.getElem?_append_right (by rw [hw, Nat.add_mul]; omega), hw, show (i + 1) * tj.size + k - tj.size = i * tj.size + k by rw [Nat.add_mul]; omega]
      exact ih i (by simpa using hi)
   exact key l i.toNat hy
  have hid : id < H.length := (List.getElem?_eq_some_iff.1 hb).1
  refine Ahd hi (by omega) ?_
  refine Ac (o' := off + (i.toNat * tj.size + k)) (by omega) ?_
  have hst := He 1 id (off + (i.toNat * tj.size + k)) (.sc v') b [.sc v'] H (fun H => KS H) hb (by show (if A4 (.sc v') = true then some [AV.sc v'] else none) = _; rw [if_pos hl]) rfl (by omega) hlv
  refine Fc hst (h _ ?_)
  have hnd := List.nodup_cons.1 (show (id :: (J' ++ R)).Nodup from h3)
  have hfr : ∀ z, z ≠ id → (H.set id { b with cells := Ch b.cells (off + (i.toNat * tj.size + k)) [.sc v'] })[z]? = H[z]? := fun z hz => List.getElem?_set_ne (fun e => hz e.symm)
  have hRf : SepI (H.set id { b with cells := Ch b.cells (off + (i.toNat * tj.size + k)) [.sc v'] }) L1 R := h2.frame fun z hz => hfr z (fun e => hnd.1 (e ▸ List.mem_append_right _ hz))
  have h6 := Ga (f' := Cc Ag E0.tp (H.set id { b with cells := Ch b.cells (off + (i.toNat * tj.size + k)) [.sc v'] }) 5) (fun t x a h hi => D9 5 t x a h fun z hz => hfr z (fun e => hnd.1 (e ▸ List.mem_append_left _ (hi z hz)))) h5
  have h7 := Wr (v' := v') h6 hcv
  rw [W0 hw hy hk he] at h7
  refine ⟨(id :: J') ++ R, ⟨id :: J', R, rfl, ⟨rfl, ?_, ?_⟩, hRf⟩, h3⟩
  ·obtain ⟨i', j', q1, q2, q3, q4⟩ := hok
   rw [e1] at q1
   cases q1
   rw [e2] at q2
   cases q2
   refine ⟨ti, tj, e1, e2, ?_, ?_⟩
   ·show ((l.set i.toNat y').map enc).flatten.length = (l.set i.toNat y').length * tj.size
    rw [Gb hw]
   ·have q5 := Wl (d := 4) (k := i.toNat * tj.size + k) (v' := v') q4
    rw [W0 hw hy hk he] at q5
    rw [List.length_set]
    exact q5
  ·have hg : (H.set id { b with cells := Ch b.cells (off + (i.toNat * tj.size + k)) [.sc v'] })[id]? = some { b with cells := Ch b.cells (off + (i.toNat * tj.size + k)) [.sc v'] } := List.getElem?_set_self hid
   rw [show At enc (l.set i.toNat y') = .ro (l.set i.toNat y').length (((l.set i.toNat y').map enc).flatten) from rfl, List.length_set, Gi]
   have hap : F6 (H.set id { b with cells := Ch b.cells (off + (i.toNat * tj.size + k)) [.sc v'] }) id = true := by simp only [F6, hg]; exact ha
   have hrd : An (H.set id { b with cells := Ch b.cells (off + (i.toNat * tj.size + k)) [.sc v'] }) id off (l.length * tj.size) = some (raw.set (i.toNat * tj.size + k) (.sc v')) := by
    unfold An
    rw [hg]
    simp only [hlv, if_true]
    rw [AcO (by omega), if_pos (by rw [List.length_set]; omega), hcs]
    congr 1
    rw [List.drop_set, if_neg (by omega), List.take_set]
    congr 1
    omega
   simp only [e1, e2, Option.bind_some, if_true, hap, hrd, h7]
theorem Lr {f : Nat → AV → Option (AV × List Nat)} : ∀ {ts1 ts2 : List Nat} {xs cells : List AV} {I : List Nat}, Cq f (ts1 ++ ts2) xs = some (cells, I) → ts1.length ≤ xs.length → ∃ I1 I2, Cq f ts1 (xs.take ts1.length) = some (cells.take ts1.length, I1) ∧ Cq f ts2 (xs.drop ts1.length) = some (cells.drop ts1.length, I2) ∧ I = I1 ++ I2
 | [], ts2, xs, cells, I, h, _ => ⟨[], I, by simp [Cq], by simpa using h, rfl⟩
 | t :: ts1, ts2, [], cells, I, h, hl => by simp at hl
 | t :: ts1, ts2, x :: xs, cells, I, h, hl => by
  obtain ⟨a, b, h1, h2, e⟩ := F1 h
  cases e
  obtain ⟨I1, I2, g1, g2, g3⟩ := Lr (ts1 := ts1) (ts2 := ts2) h2 (by simpa using hl)
  refine ⟨a.2 ++ I1, I2, ?_, by simpa using g2, by rw [g3, List.append_assoc]⟩
  show Cq f (t :: ts1) (x :: xs.take ts1.length) = some (a.1 :: b.1.take ts1.length, a.2 ++ I1)
  rw [Cq, h1, Option.bind_some, g1]
  rfl
theorem N3 {α : Type} {enc : α → List AV} {w bytes ty i : Nat} {cty : List Nat} {x y1 y2 : AV} {l : List α} {ys : List (AV × Nat × AV)} (hs : Sep H L) (hty : ∃ i j, Ag ty = some i ∧ Ag i.elem = some j ∧ j.size = w ∧ j.cty = cty) (hp : Pk L (.shs x ty (At enc l) ys) L1)
  (hi : i < l.length) (q1 : Ada w x 0 i y1) (q2 : Ada w x (i + 1) l.length y2) (hw : ∀ x, (enc x).length = w) (hf : ∀ x, (enc x).all E6 = true) (hc : cty.length = w) (hb : l.length * bytes ≤ 140737488355328)
  (h : ∀ x' H', A4 x' = true → Sep H' (.own x' ty (At enc (l.take i ++ l.drop (i + 1))) :: L1) → Gd G (KH x' H')) : Gd G (K3 w bytes y1 y2 H fun x H => KH x H) := by
 obtain ⟨ti, tj, e1, e2, rfl, rfl⟩ := hty
 obtain ⟨I, ⟨J, R, rfl, ⟨⟨hlf, hok, e⟩, _⟩, h2⟩, h3⟩ := hs.pick hp
 have hokc : Ed (F7 Ag E0.tp 5) (List.replicate l.length tj.cty).flatten (l.map enc).flatten := by
  obtain ⟨i', j', p1, p2, p3, p4⟩ := hok
  rw [e1] at p1
  cases p1
  rw [e2] at p2
  cases p2
  exact p4
 rcases Qs e1 e2 e with ⟨rfl, h0, _, _⟩ | ⟨id, off, raw, J', b, rfl, rfl, hbb, hlv, ha, h4, h5⟩
 ·omega
 ·obtain ⟨hl4, b', hb', _, hle, hcs⟩ := Ic h4
  rw [hbb] at hb'
  cases hb'
  have hy1 : y1 = .sl id off i tj.size := by
   rcases q1 with ⟨q, _⟩ | ⟨a1, a2, a3, q, rfl⟩
   ·cases q
   ·cases q
    simp
  have hy2 : y2 = .sl id (off + (i + 1) * tj.size) (l.length - (i + 1)) tj.size := by
   rcases q2 with ⟨q, _⟩ | ⟨a1, a2, a3, q, rfl⟩
   ·cases q
   ·cases q
    rfl
  subst hy1
  subst hy2
  have hrl : ∀ k, ((List.replicate k tj.cty).flatten).length = k * tj.size := fun k => by simp [hc]
  have hm : (i + 1) * tj.size ≤ l.length * tj.size := Nat.mul_le_mul_right _ hi
  have hm1 : (i + 1) * tj.size = i * tj.size + tj.size := by rw [Nat.add_mul, Nat.one_mul]
  have hm2 : (l.length - (i + 1)) * tj.size = l.length * tj.size - (i + 1) * tj.size := Nat.sub_mul ..
  have hrep : (List.replicate l.length tj.cty).flatten = (List.replicate i tj.cty).flatten ++ ((List.replicate 1 tj.cty).flatten ++ (List.replicate (l.length - (i + 1)) tj.cty).flatten) := by
   have := U7 (cty := tj.cty) (show i ≤ i + 1 by omega) (show i + 1 ≤ l.length by omega)
   rw [show i + 1 - i = 1 by omega] at this
   exact this
  rw [hrep] at h5 hokc
  obtain ⟨I1, I2, g1, g2, g3⟩ := Lr h5 (by rw [hrl]; omega)
  obtain ⟨I3, I4, k1, k2, k3⟩ := Lr g2 (by rw [hrl, List.length_drop, hrl]; omega)
  obtain ⟨o1, o2⟩ := Iu hokc
  obtain ⟨o3, o4⟩ := Iu o2
  rw [hrl] at g1 o1
  rw [hrl, hrl, List.drop_drop, List.drop_drop] at k2
  rw [hrl, hrl, List.drop_drop] at o4
  rw [Nat.one_mul, ← hm1] at k2 o4
  subst g3
  subst k3
  have hc1 : ((l.map enc).flatten).take (i * tj.size) = ((l.take i).map enc).flatten := by
   have := Sk hw l 0 i (Nat.zero_le _) (by omega)
   rw [Nat.zero_mul, List.drop_zero, Nat.sub_zero, List.drop_zero] at this
   exact (AV.ro.inj this).2
  have hc2 : ((l.map enc).flatten).drop ((i + 1) * tj.size) = ((l.drop (i + 1)).map enc).flatten := by
   have := Sk hw l (i + 1) l.length (by omega) (Nat.le_refl _)
   have h9 := (AV.ro.inj this).2
   rw [List.take_of_length_le (by rw [List.length_drop, Gb hw, hm2]; exact Nat.le_refl _), List.take_of_length_le (by rw [List.length_drop]; exact Nat.le_refl _)] at h9
   exact h9
  rw [hc1] at g1 o1
  rw [hc2] at k2 o4
  have hcx : Cf H tj.size (.sl id off i tj.size) = some (raw.take (i * tj.size)) := by
   show (if tj.size = tj.size then An H id off (i * tj.size) else none) = _
   simp only [An, hbb, hlv, if_true]
   rw [if_pos (by omega), hcs, List.take_take, Nat.min_eq_left (by omega)]
  have hcy : Cf H tj.size (.sl id (off + (i + 1) * tj.size) (l.length - (i + 1)) tj.size) = some (raw.drop ((i + 1) * tj.size)) := by
   show (if tj.size = tj.size then An H id (off + (i + 1) * tj.size) ((l.length - (i + 1)) * tj.size) else none) = _
   simp only [An, hbb, hlv, if_true]
   rw [if_pos (by omega), hcs, List.drop_take, List.drop_drop, hm2]
  have hk : Li H (.sl id off i tj.size) = some (H.set id { b with live := false }) := by
   show (H[id]?).bind (fun b => if b.app then some (H.set id { b with live := false }) else none) = _
   rw [hbb, Option.bind_some, if_pos ha]
  have hlfy : (raw.drop ((i + 1) * tj.size)).all A4 = true := Pf (fun t x a I h hl => Ws h hl) k2 (by
   show (((l.drop (i + 1)).map enc).flatten).all E6 = true
   rw [List.all_flatten, List.all_map, List.all_eq_true]
   intro z _
   exact hf z)
  have hnd := List.nodup_cons.1 (show (id :: ((I1 ++ (I3 ++ I4)) ++ R)).Nodup from h3)
  have hfr : ∀ z, z ≠ id → z < H.length → (H.set id { b with live := false } ++ [⟨raw.take (i * tj.size) ++ raw.drop ((i + 1) * tj.size), true, true⟩])[z]? = H[z]? := fun z hz hl => by
   rw [List.getElem?_append_left (by rw [List.length_set]; exact hl), List.getElem?_set_ne (fun e => hz e.symm)]
  have hJlt : ∀ z ∈ I1 ++ (I3 ++ I4), z < H.length := fun z hz => Kq 6 ty _ _ e z (List.mem_cons_of_mem _ hz)
  have hmem : ∀ z ∈ I1 ++ (I3 ++ I4), z ≠ id := fun z hz e => hnd.1 (e ▸ List.mem_append_left _ hz)
  refine Fc (b := KH (.sl (H.set id { b with live := false }).length 0 (i + (l.length - (i + 1))) tj.size) (H.set id { b with live := false } ++ [⟨raw.take (i * tj.size) ++ raw.drop ((i + 1) * tj.size), true, true⟩])) ?_ (h _ _ rfl ?_)
  ·have hl0 : G4 (.sl id off i tj.size) = some i := rfl
   have hl1 : G4 (.sl id (off + (i + 1) * tj.size) (l.length - (i + 1)) tj.size) = some (l.length - (i + 1)) := rfl
   have hbb2 : (i + (l.length - (i + 1))) * bytes ≤ 140737488355328 := Nat.le_trans (Nat.mul_le_mul_right _ (by omega)) hb
   simp only [K3, hl0, hl1, Option.bind_some, hcx, hcy, hk]
   rw [if_pos hbb2, if_pos hlfy]
   rfl
  ·have a1 := Ga (f' := Cc Ag E0.tp (H.set id { b with live := false } ++ [⟨raw.take (i * tj.size) ++ raw.drop ((i + 1) * tj.size), true, true⟩]) 5) (fun t x a h hi => D9 5 t x a h fun z hz => by
    have := hi z hz
    exact hfr z (hmem z (List.mem_append_left _ this)) (hJlt z (List.mem_append_left _ this))) g1
   have a2 := Ga (f' := Cc Ag E0.tp (H.set id { b with live := false } ++ [⟨raw.take (i * tj.size) ++ raw.drop ((i + 1) * tj.size), true, true⟩]) 5) (fun t x a h hi => D9 5 t x a h fun z hz => by
    have := hi z hz
    exact hfr z (hmem z (List.mem_append_right _ (List.mem_append_right _ this))) (hJlt z (List.mem_append_right _ (List.mem_append_right _ this)))) k2
   have a3 := Lp a1 a2
   rw [← List.flatten_append, List.replicate_append_replicate, ← List.flatten_append, ← List.map_append] at a3
   have hlen : (l.take i ++ l.drop (i + 1)).length = i + (l.length - (i + 1)) := by
    rw [List.length_append, List.length_take, List.length_drop, Nat.min_eq_left (by omega)]
   have hR : SepI (H.set id { b with live := false } ++ [⟨raw.take (i * tj.size) ++ raw.drop ((i + 1) * tj.size), true, true⟩]) L1 R := h2.frame fun z hz => hfr z (fun e => hnd.1 (e ▸ List.mem_append_right _ hz)) (h2.lt z hz)
   have hg : (H.set id { b with live := false } ++ [(⟨raw.take (i * tj.size) ++ raw.drop ((i + 1) * tj.size), true, true⟩ : Fz)])[(H.set id { b with live := false }).length]? = some ⟨raw.take (i * tj.size) ++ raw.drop ((i + 1) * tj.size), true, true⟩ := by
    rw [List.getElem?_append_right (Nat.le_refl _), Nat.sub_self]
    rfl
   refine ⟨((H.set id { b with live := false }).length :: (I1 ++ I4)) ++ R, ⟨(H.set id { b with live := false }).length :: (I1 ++ I4), R, rfl, ⟨rfl, ?_, ?_⟩, hR⟩, ?_⟩
   ·refine ⟨ti, tj, e1, e2, Gb hw _, ?_⟩
    show Ed _ (List.replicate (l.take i ++ l.drop (i + 1)).length tj.cty).flatten ((l.take i ++ l.drop (i + 1)).map enc).flatten
    rw [hlen, ← List.replicate_append_replicate]
    simp only [List.map_append, List.flatten_append]
    exact Jh o1 o4
   ·show Cc Ag E0.tp _ 6 ty _ = some (.ro (l.take i ++ l.drop (i + 1)).length (((l.take i ++ l.drop (i + 1)).map enc).flatten), _)
    rw [hlen, Gi]
    have hap : F6 (H.set id { b with live := false } ++ [⟨raw.take (i * tj.size) ++ raw.drop ((i + 1) * tj.size), true, true⟩]) (H.set id { b with live := false }).length = true := by simp only [F6, hg]
    have hrd : An (H.set id { b with live := false } ++ [⟨raw.take (i * tj.size) ++ raw.drop ((i + 1) * tj.size), true, true⟩]) (H.set id { b with live := false }).length 0 ((i + (l.length - (i + 1))) * tj.size) = some (raw.take (i * tj.size) ++ raw.drop ((i + 1) * tj.size)) := by
     have hll : (raw.take (i * tj.size) ++ raw.drop ((i + 1) * tj.size)).length = (i + (l.length - (i + 1))) * tj.size := by
      rw [List.length_append, List.length_take, List.length_drop, hl4, Nat.add_mul i (l.length - (i + 1)) tj.size, hm2, Nat.min_eq_left (by omega)]
     simp only [An, hg, if_true, Nat.zero_add, List.drop_zero, ← hll, Nat.le_refl, List.take_length]
    simp only [e1, e2, Option.bind_some, if_true, hap, hrd, a3]
   ·rw [List.cons_append, List.nodup_cons, List.length_set]
    refine ⟨fun hm => ?_, ?_⟩
    ·rcases List.mem_append.1 hm with hm | hm
     ·have : H.length < H.length := hJlt _ (by
       rcases List.mem_append.1 hm with hm | hm
       ·exact List.mem_append_left _ hm
       ·exact List.mem_append_right _ (List.mem_append_right _ hm))
      omega
     ·have := h2.lt _ hm
      omega
    ·have hn := hnd.2
     have hsub : ((I1 ++ I4) ++ R).Sublist ((I1 ++ (I3 ++ I4)) ++ R) := List.Sublist.append (List.Sublist.append (List.Sublist.refl _) (List.sublist_append_right _ _)) (List.Sublist.refl _)
     exact hn.sublist hsub
end
end
section
open Go
section
variable {β : Type} {n : Nat} {H : Ab} {L L1 : List Ck} {G : Option β → Prop} {KH : KO β}
theorem Ak1 {α : Type} {enc : α → List AV} {w ty : Nat} {cty : List Nat} {x : AV} {l : List α} {i : Int} (hs : Sep H L) (hty : ∃ i j, Ag ty = some i ∧ Ag i.elem = some j ∧ j.size = w ∧ j.cty = cty) (hp : Pk L (.own x ty (At enc l)) L1)
  (h0 : 0 ≤ i) (hi : i < (l.length : Nat)) (hw : ∀ x, (enc x).length = w) (hf : ∀ x, (enc x).all E6 = true) (hc : cty.length = w)
  (h : ∀ x' H', A4 x' = true → Sep H' (.own x' ty (At enc (l.take i.toNat ++ l.drop (i.toNat + 1))) :: L1) → Gd G (KH x' H')) : Gd G (Afp w x (.sc (.int .i64 i)) (.sc (.int .i64 (i + 1))) H fun x H => KH x H) := by
 have hty' := hty
 obtain ⟨ti, tj, e1, e2, rfl, rfl⟩ := hty
 obtain ⟨I, ⟨J, R, rfl, ⟨hlf, hok, e⟩, h2⟩, h3⟩ := hs.pick hp
 rcases Qs e1 e2 e with ⟨rfl, hn0, _, _⟩ | ⟨id, off, raw, J', b, rfl, rfl, hbb, hlv, ha, h4, h5⟩
 ·omega
 ·obtain ⟨hl4, b', hb', _, hle, hcs⟩ := Ic h4
  rw [hbb] at hb'
  cases hb'
  have hk : ∀ o m, Li H (.sl id o m tj.size) = some (H.set id { b with live := false }) := fun o m => by
   show (H[id]?).bind (fun b => if b.app then some (H.set id { b with live := false }) else none) = _
   rw [hbb, Option.bind_some, if_pos ha]
  have hi' : i.toNat < l.length := by omega
  have hm : (i.toNat + 1) * tj.size ≤ l.length * tj.size := Nat.mul_le_mul_right _ hi'
  have hm1 : (i.toNat + 1) * tj.size = i.toNat * tj.size + tj.size := by rw [Nat.add_mul, Nat.one_mul]
  have hm2 : (l.length - (i.toNat + 1)) * tj.size = l.length * tj.size - (i.toNat + 1) * tj.size := Nat.sub_mul ..
  have hlr : raw.all A4 = true := Pf (fun t x a I h hl => Ws h hl) h5 (by
   show ((l.map enc).flatten).all E6 = true
   rw [List.all_flatten, List.all_map, List.all_eq_true]
   intro z _
   exact hf z)
  have hcx : Cf H tj.size (.sl id off i.toNat tj.size) = some (raw.take (i.toNat * tj.size)) := by
   show (if tj.size = tj.size then An H id off (i.toNat * tj.size) else none) = _
   simp only [An, hbb, hlv, if_true]
   rw [if_pos (by omega), hcs, List.take_take, Nat.min_eq_left (by omega)]
  have hcy : Cf H tj.size (.sl id (off + (i.toNat + 1) * tj.size) (l.length - (i.toNat + 1)) tj.size) = some (raw.drop ((i.toNat + 1) * tj.size)) := by
   show (if tj.size = tj.size then An H id (off + (i.toNat + 1) * tj.size) ((l.length - (i.toNat + 1)) * tj.size) else none) = _
   simp only [An, hbb, hlv, if_true]
   rw [if_pos (by omega), hcs, List.drop_take, List.drop_drop, hm2]
  refine Fc ?_ (N3 (bytes := 0) (i := i.toNat) (y1 := .sl id off i.toNat tj.size) (y2 := .sl id (off + (i.toNat + 1) * tj.size) (l.length - (i.toNat + 1)) tj.size) (hs.toShs hp) hty' .here hi' (.inr ⟨id, off, l.length, rfl, by simp⟩) (.inr ⟨id, off, l.length, rfl, rfl⟩) hw hf hc (by omega) h)
  have hl0 : G4 (.sl id off i.toNat tj.size) = some i.toNat := rfl
  have hl1 : G4 (.sl id (off + (i.toNat + 1) * tj.size) (l.length - (i.toNat + 1)) tj.size) = some (l.length - (i.toNat + 1)) := rfl
  have hly : (raw.drop ((i.toNat + 1) * tj.size)).all A4 = true := by
   rw [List.all_eq_true] at hlr ⊢
   exact fun z hz => hlr z (List.mem_of_mem_drop hz)
  simp only [K3, hl0, hl1, Option.bind_some, hcx, hcy, hk]
  rw [if_pos (by omega), if_pos hly]
  show (if _ then _ else _) = _
  rw [if_pos ⟨rfl, h0, by omega, by omega⟩, h4, Option.bind_some, if_pos hlr, hk, Option.bind_some, show (i + 1).toNat = i.toNat + 1 by omega, show l.length - (i + 1 - i).toNat = i.toNat + (l.length - (i.toNat + 1)) by omega]
theorem Pb {α : Type} {enc : α → List AV} {w bt ty ty' f : Nat} {cty : List Nat} {x : AV} {l : List α} {i : Int} (hs : Sep H L) (hx : E0.xk f = some (false, w, bt)) (hfs : E0.fs f = none) (hh : E0.hm f = true) (he : E0.ext f = none) (hty : ∃ i j, Ag ty = some i ∧ Ag i.elem = some j ∧ j.size = w ∧ j.cty = cty) (hp : Pk L (.own x ty (At enc l)) L1)
  (h0 : 0 ≤ i) (hi : i < (l.length : Nat)) (hw : ∀ x, (enc x).length = w) (hf : ∀ x, (enc x).all E6 = true) (hc : cty.length = w)
  (h : ∀ x' H', A4 x' = true → Sep H' (.own x' ty (At enc (l.take i.toNat ++ l.drop (i.toNat + 1))) :: L1) → Gd G (KH x' H')) : Gd G ((PR (n + 1) β).call ty' (.fn f [] []) [x, .sc (.int .i64 i), .sc (.int .i64 (i + 1))] H fun x H => KH x H) := by
 refine AeA hh he ?_
 have e : Cz E0 (n + 1) β f ([x, .sc (.int .i64 i), .sc (.int .i64 (i + 1))] ++ []) H (fun x H => KH x H) = Afp w x (.sc (.int .i64 i)) (.sc (.int .i64 (i + 1))) H fun x H => KH x H := by
  simp only [Cz, hfs, hx, List.append_nil]
  rfl
 rw [e]
 exact Ak1 hs hty hp h0 hi hw hf hc h
end
end
section
open Go
inductive MF where
 | str
 | int
 | bool
 | byt
 | skip
 | sub (fs : List MF)
def Gt (n : Nat) (fs : List MF) : List MF := (List.replicate n fs).flatten
theorem G3 (n : Nat) (fs : List MF) : Gt (n + 1) fs = fs ++ Gt n fs := by rw [Gt, List.replicate_succ, List.flatten_cons, Gt]
theorem Wx (n : Nat) (fs : List MF) : (Gt n fs).length = n * fs.length := by simp [Gt]
def Xz (k : Nat) (out : ByteArray) : ByteArray := if h : k = 0 then out else Xz (k / 10) (⟨#[UInt8.ofNat (48 + k % 10)]⟩ ++ out)
termination_by k
decreasing_by omega
def AcG (k : Int) : ByteArray := ⟨#[109]⟩ ++ (if k ≤ 0 then ⟨#[48]⟩ else Xz k.toNat ⟨#[]⟩)
mutual
def Gf (f : MF) (k : Int) : AV → AV × Int
 | .sc v =>
  match f with
  | .str => (.sc (.string (AcG k)), k + 1)
  | .int => (.sc (.int .i64 k), k + 1)
  | .bool => (.sc (.bool (k.tmod 3 == 0)), k + 1)
  | .byt => (.sc (.int .u8 (IntKind.u8.wrap k)), k + 1)
  | _ => (.sc v, k)
 | .ro n cells =>
  match f with
  | .sub fs => (.ro n (Ei (Gt n fs) k cells).1, (Ei (Gt n fs) k cells).2)
  | _ => (.ro n cells, k)
 | x => (x, k)
def Ei (fs : List MF) (k : Int) : List AV → List AV × Int
 | [] => ([], k)
 | c :: cs => ((Gf (fs.headD .skip) k c).1 :: (Ei fs.tail (Gf (fs.headD .skip) k c).2 cs).1, (Ei fs.tail (Gf (fs.headD .skip) k c).2 cs).2)
end
mutual
def En (f : MF) : AV → Nat
 | .sc v =>
  match f with
  | .skip => 0
  | .sub _ => 0
  | _ => 1
 | .ro n cells =>
  match f with
  | .sub fs => Dr (Gt n fs) cells
  | _ => 0
 | _ => 0
def Dr (fs : List MF) : List AV → Nat
 | [] => 0
 | c :: cs => En (fs.headD .skip) c + Dr fs.tail cs
end
mutual
def wfF (f : MF) : AV → Prop
 | .sc v =>
  match f, v with
  | .str, .string _ => True
  | .int, .int .i64 _ => True
  | .bool, .bool _ => True
  | .byt, .int .u8 _ => True
  | .skip, v => Jf v = true
  | _, _ => False
 | .ro n cells =>
  match f with
  | .sub fs => n ≤ 1048576 ∧ cells.length = n * fs.length ∧ Jk (Gt n fs) cells
  | _ => False
 | _ => False
def Jk (fs : List MF) : List AV → Prop
 | [] => fs = []
 | c :: cs => fs ≠ [] ∧ wfF (fs.headD .skip) c ∧ Jk fs.tail cs
end
mutual
def G5 : AV → Nat
 | .ro _ cells => 1 + Cy cells
 | .agg cs => Cy cs
 | .tup cs => Cy cs
 | _ => 0
def Cy : List AV → Nat
 | [] => 0
 | c :: cs => G5 c + Cy cs
end
section lists
theorem R9 (f : MF) (fs : List MF) (k : Int) (c : AV) (cs : List AV) : Ei (f :: fs) k (c :: cs) = ((Gf f k c).1 :: (Ei fs (Gf f k c).2 cs).1, (Ei fs (Gf f k c).2 cs).2) := rfl
theorem Is : ∀ (A B : List MF) (k : Int) (X Y : List AV), A.length = X.length → Ei (A ++ B) k (X ++ Y) = ((Ei A k X).1 ++ (Ei B (Ei A k X).2 Y).1, (Ei B (Ei A k X).2 Y).2)
 | [], B, k, [], Y, _ => by simp [Ei]
 | f :: A, B, k, x :: X, Y, h => by
  have ih := Is A B (Gf f k x).2 X Y (by simpa using h)
  rw [List.cons_append, List.cons_append, R9, R9, ih]
  rfl
theorem Gz : ∀ (A B : List MF) (X Y : List AV), A.length = X.length → Dr (A ++ B) (X ++ Y) = Dr A X + Dr B Y
 | [], B, [], Y, _ => by simp [Dr]
 | f :: A, B, x :: X, Y, h => by
  have ih := Gz A B X Y (by simpa using h)
  show En f x + Dr (A ++ B) (X ++ Y) = En f x + Dr A X + Dr B Y
  rw [ih, Nat.add_assoc]
theorem wfL_cons {f : MF} {fs : List MF} {c : AV} {cs : List AV} : Jk (f :: fs) (c :: cs) ↔ wfF f c ∧ Jk fs cs := by
 show (f :: fs ≠ [] ∧ wfF f c ∧ Jk fs cs) ↔ _
 simp
theorem Jl : ∀ {fs : List MF} {cs : List AV}, Jk fs cs → fs.length = cs.length
 | fs, [], h => by
  have : fs = [] := h
  rw [this]
  rfl
 | [], _ :: _, h => absurd rfl h.1
 | f :: fs, c :: cs, h => by
  have := Jl (wfL_cons.1 h).2
  simp [this]
theorem Hp : ∀ {A B : List MF} {X Y : List AV}, A.length = X.length → (Jk (A ++ B) (X ++ Y) ↔ Jk A X ∧ Jk B Y)
 | [], B, [], Y, _ => by
  show _ ↔ (([] : List MF) = [] ∧ _)
  simp
 | f :: A, B, x :: X, Y, h => by
  have ih := Hp (A := A) (B := B) (X := X) (Y := Y) (by simpa using h)
  rw [List.cons_append, List.cons_append, wfL_cons, wfL_cons, ih, and_assoc]
mutual
theorem Og : ∀ (x : AV) (f : MF) (k : Int), (Gf f k x).2 = k + En f x
 | .sc v, f, k => by cases f <;> simp [Gf, En]
 | .ro n cells, f, k => by
  cases f <;> first | (simp [Gf, En]; done) | exact Jg cells _ k
 | .agg cs, f, k => by simp [Gf, En]
 | .tup cs, f, k => by simp [Gf, En]
 | .any, f, k => by simp [Gf, En]
 | .nl, f, k => by simp [Gf, En]
 | .sl .., f, k => by simp [Gf, En]
 | .ptr .., f, k => by simp [Gf, En]
 | .rp .., f, k => by simp [Gf, En]
 | .fn .., f, k => by simp [Gf, En]
theorem Jg : ∀ (cs : List AV) (fs : List MF) (k : Int), (Ei fs k cs).2 = k + Dr fs cs
 | [], fs, k => by simp [Ei, Dr]
 | c :: cs, fs, k => by
  show (Ei fs.tail (Gf (fs.headD .skip) k c).2 cs).2 = k + ((En (fs.headD .skip) c + Dr fs.tail cs : Nat) : Int)
  rw [Jg cs, Og c]
  omega
end
theorem Mf : ∀ (cs : List AV) (fs : List MF) (k : Int), (Ei fs k cs).1.length = cs.length
 | [], fs, k => by simp [Ei]
 | c :: cs, fs, k => by
  show (Ei fs.tail _ cs).1.length + 1 = cs.length + 1
  rw [Mf cs]
mutual
theorem Uy : ∀ (x : AV) (f : MF) (k : Int), G5 (Gf f k x).1 = G5 x
 | .sc v, f, k => by cases f <;> rfl
 | .ro n cells, f, k => by
  cases f <;> first | rfl | (show 1 + Cy _ = 1 + Cy _; rw [Fo cells])
 | .agg cs, f, k => by simp [Gf]
 | .tup cs, f, k => by simp [Gf]
 | .any, f, k => by simp [Gf]
 | .nl, f, k => by simp [Gf]
 | .sl .., f, k => by simp [Gf]
 | .ptr .., f, k => by simp [Gf]
 | .rp .., f, k => by simp [Gf]
 | .fn .., f, k => by simp [Gf]
theorem Fo : ∀ (cs : List AV) (fs : List MF) (k : Int), Cy (Ei fs k cs).1 = Cy cs
 | [], fs, k => by simp [Ei]
 | c :: cs, fs, k => by
  show G5 (Gf (fs.headD .skip) k c).1 + Cy (Ei fs.tail _ cs).1 = G5 c + Cy cs
  rw [Uy c, Fo cs]
end
mutual
theorem Kl {ti : Nat → Option TI} {tp : Nat → Option (List Nat)} : ∀ (x : AV) (N ty : Nat), (A2 ti tp N ty x).2.length = G5 x
 | .sc v, N, ty => rfl
 | .ro n cells, N, ty => by
  simp only [A2, List.length_cons, G5, C6 cells, Nat.add_comm]
 | .agg cs, N, ty => C6 cs _ _
 | .tup cs, N, ty => C6 cs _ _
 | .any, N, ty => rfl
 | .nl, N, ty => rfl
 | .sl .., N, ty => rfl
 | .ptr .., N, ty => rfl
 | .rp .., N, ty => rfl
 | .fn .., N, ty => rfl
theorem C6 {ti : Nat → Option TI} {tp : Nat → Option (List Nat)} : ∀ (cs : List AV) (N : Nat) (ts : List Nat), (Aj ti tp N ts cs).2.length = Cy cs
 | [], N, ts => rfl
 | c :: cs, N, ts => by
  simp only [Aj, List.length_append, Cy, Kl c, C6 cs]
end
theorem Fp : ∀ (X Y : List AV), Cy (X ++ Y) = Cy X + Cy Y
 | [], Y => by simp [Cy]
 | c :: X, Y => by
  show G5 c + Cy (X ++ Y) = G5 c + Cy X + Cy Y
  rw [Fp X Y, Nat.add_assoc]
theorem Oc {ti : Nat → Option TI} {tp : Nat → Option (List Nat)} (TP TS : List Nat) (t : Nat) (P S : List AV) (c : AV) (N : Nat) (h : TP.length = P.length) :
  Aj ti tp N (TP ++ t :: TS) (P ++ c :: S) = ((Aj ti tp N TP P).1 ++ (A2 ti tp (N + Cy P) t c).1 :: (Aj ti tp (N + Cy P + G5 c) TS S).1, (Aj ti tp N TP P).2 ++ ((A2 ti tp (N + Cy P) t c).2 ++ (Aj ti tp (N + Cy P + G5 c) TS S).2)) := by
 rw [Fm TP P (t :: TS) (c :: S) N h, C6]
 have e : Aj ti tp (N + Cy P) (t :: TS) (c :: S) = ((A2 ti tp (N + Cy P) t c).1 :: (Aj ti tp (N + Cy P + G5 c) TS S).1, (A2 ti tp (N + Cy P) t c).2 ++ (Aj ti tp (N + Cy P + G5 c) TS S).2) := by
  rw [Aj, Kl]
  rfl
 rw [e]
end lists
section steps
variable {β : Type} {n : Nat} {r : Option β}
noncomputable def SB (N : Nat) (T : List Nat) (cells : List AV) : List Fz := ⟨(Aj Ag E0.tp (N + 1) T cells).1, true, true⟩ :: (Aj Ag E0.tp (N + 1) T cells).2
theorem Ma {ty len : Nat} {cells : List AV} {i j : TI} (h1 : Ag ty = some i) (h2 : Ag i.elem = some j) (N : Nat) : A2 Ag E0.tp N ty (.ro len cells) = (.sl N 0 len j.size, SB N (List.replicate len j.cty).flatten cells) := by
 simp only [A2, h1, Option.bind_some, h2, Option.getD_some]
 rfl
theorem Ov {A C : Ab} {TP TS : List Nat} {t p : Nat} {P S : List AV} {v0 v : Value} (hT : TP.length = P.length) (hv : Jf v = true) (hp : p = P.length) (K : Ab → Option β) :
  C2 1 (.ptr A.length p) (.sc v) (A ++ (SB A.length (TP ++ t :: TS) (P ++ .sc v0 :: S) ++ C)) K = K (A ++ (SB A.length (TP ++ t :: TS) (P ++ .sc v :: S) ++ C)) := by
 have hc : Bz (.sc v) = some [.sc v] := by simp only [Bz, A4, hv, if_true]
 have hl : (Aj Ag E0.tp (A.length + 1) TP P).1.length = P.length := D8 _ _ _
 simp only [SB, Oc TP TS t P S _ _ hT, Dk, G5, List.cons_append]
 rw [He 1 A.length p (.sc v) _ _ _ _ (Jn A _ _) hc rfl (by simp [hl, hp]) rfl, Zs]
 have := Kt (Aj Ag E0.tp (A.length + 1) TP P).1 [.sc v0] (Aj Ag E0.tp (A.length + 1 + Cy P + 0) TS S).1 [.sc v] rfl
 simp only [List.singleton_append, hl] at this
 rw [hp, this]
theorem Ah9 {A C : Ab} {TP TS : List Nat} {t p : Nat} {P S : List AV} {c : AV} (hT : TP.length = P.length) (hp : p = P.length) (K : AV → Option β) :
  Bh false 1 (.ptr A.length p) (A ++ (SB A.length (TP ++ t :: TS) (P ++ c :: S) ++ C)) K = K (A2 Ag E0.tp (A.length + 1 + Cy P) t c).1 := by
 have hl : (Aj Ag E0.tp (A.length + 1) TP P).1.length = P.length := D8 _ _ _
 simp only [SB, Oc TP TS t P S _ _ hT, List.cons_append]
 refine Zc ?_ K
 have : p + 1 ≤ ((Aj Ag E0.tp (A.length + 1) TP P).1 ++ (A2 Ag E0.tp (A.length + 1 + Cy P) t c).1 :: (Aj Ag E0.tp (A.length + 1 + Cy P + G5 c) TS S).1).length := by simp [hl, hp]
 simp only [An, Jn, if_true, this]
 rw [hp, ← hl, List.drop_append_of_le_length (Nat.le_refl _), List.drop_length]
 rfl
def AhL (n f ty : Nat) (t t' : AV) (k k' : Int) : Prop := ∀ (β : Type) (A C : Ab) (K : KO β) (r : Option β),
 (∀ X, K (.sc (.int .i64 k')) (A ++ ((A2 Ag E0.tp A.length ty t').2 ++ (C ++ X))) = r) → Cz E0 n β f [(A2 Ag E0.tp A.length ty t).1, .sc (.int .i64 k)] (A ++ ((A2 Ag E0.tp A.length ty t).2 ++ C)) K = r
theorem Aaa {ty : Nat} {f : FuncId} {args : List AV} {H : Ab} {K : KO β} (hh : E0.hm f = true) (hx : E0.ext f = none) : (PR n β).call ty (.fn f [] []) args H K = Cz E0 n β f args H K := by
 show I9 E0 (Cz E0 n) ty f ([] ++ args ++ []) H K = _
 simp only [I9, hx, hh, List.nil_append, List.append_nil, if_true]
theorem AjB {A C : Ab} {TP TS : List Nat} {t p ty g : Nat} {P S : List AV} {c c' : AV} {k k' : Int} {K : KO β} (hT : TP.length = P.length) (hp : p = P.length) (hh : E0.hm g = true) (hx : E0.ext g = none) (hmk : AhL n g t c c' k k') (hs : ∀ M, (A2 Ag E0.tp M t c').1 = (A2 Ag E0.tp M t c).1) (hn : G5 c' = G5 c)
  (h : ∀ X, K (.sc (.int .i64 k')) (A ++ (SB A.length (TP ++ t :: TS) (P ++ c' :: S) ++ (C ++ X))) = r) :
  (Bh false 1 (.ptr A.length p) (A ++ (SB A.length (TP ++ t :: TS) (P ++ c :: S) ++ C)) fun v => (PR n β).call ty (.fn g [] []) [v, .sc (.int .i64 k)] (A ++ (SB A.length (TP ++ t :: TS) (P ++ c :: S) ++ C)) K) = r := by
 rw [Ah9 hT hp, Aaa hh hx]
 have e : ∀ (d : AV) (D : Ab), A ++ (SB A.length (TP ++ t :: TS) (P ++ d :: S) ++ D) = (A ++ ⟨(Aj Ag E0.tp (A.length + 1) TP P).1 ++ (A2 Ag E0.tp (A.length + 1 + Cy P) t d).1 :: (Aj Ag E0.tp (A.length + 1 + Cy P + G5 d) TS S).1, true, true⟩ :: (Aj Ag E0.tp (A.length + 1) TP P).2) ++ ((A2 Ag E0.tp (A.length + 1 + Cy P) t d).2 ++ ((Aj Ag E0.tp (A.length + 1 + Cy P + G5 d) TS S).2 ++ D)) := by
  intro d D
  simp only [SB, Oc TP TS t P S _ _ hT, List.cons_append, List.append_assoc]
 have hN : ∀ b : Fz, (A ++ b :: (Aj Ag E0.tp (A.length + 1) TP P).2).length = A.length + 1 + Cy P := by
  intro b
  rw [List.length_append, List.length_cons, C6]
  omega
 rw [e c C]
 have key := hmk β (A ++ ⟨(Aj Ag E0.tp (A.length + 1) TP P).1 ++ (A2 Ag E0.tp (A.length + 1 + Cy P) t c).1 :: (Aj Ag E0.tp (A.length + 1 + Cy P + G5 c) TS S).1, true, true⟩ :: (Aj Ag E0.tp (A.length + 1) TP P).2) ((Aj Ag E0.tp (A.length + 1 + Cy P + G5 c) TS S).2 ++ C) K r
 rw [hN] at key
 refine key fun X => ?_
 have h2 := h X
 rw [e c' (C ++ X), hs, hn] at h2
 simp only [List.append_assoc, List.cons_append] at h2 ⊢
 exact h2
end steps
structure FD where
 f : MF
 path : List Nat
 g : FuncId
def M8 (n tS g : Nat) : Prop := Cw g = false ∧ ∀ k : Int, 0 ≤ k → k ≤ 4611686018427387904 → Bt E0 n tS g [.sc (.int .i64 k)] = some (.sc (.string (AcG k)))
def Jm (n g ty : Nat) (fs : List MF) : Prop := E0.hm g = true ∧ E0.ext g = none ∧ (∃ i j, Ag ty = some i ∧ Ag i.elem = some j) ∧ ∀ (len : Nat) (cells : List AV) (k : Int), wfF (.sub fs) (.ro len cells) → 0 ≤ k → k + En (.sub fs) (.ro len cells) ≤ 4611686018427387904 →
 AhL n g ty (.ro len cells) (Gf (.sub fs) k (.ro len cells)).1 k (Gf (.sub fs) k (.ro len cells)).2
def Kc (n g : Nat) (fs : List MF) : Prop := Cw g = false ∧ ∀ (ty len : Nat) (cells : List AV) (k : Int), wfF (.sub fs) (.ro len cells) → 0 ≤ k → k + En (.sub fs) (.ro len cells) ≤ 4611686018427387904 →
 Bt E0 n ty g [(Gf (.sub fs) k (.ro len cells)).1, .sc (.int .i64 k)] = some (.sc (.int .i64 (Gf (.sub fs) k (.ro len cells)).2))
def Al7 (n t g : Nat) : MF → Prop
 | .sub fs => Jm n g t fs
 | _ => True
def Al6 (n g : Nat) : MF → Prop
 | .sub fs => Kc n g fs
 | _ => True
def AcX (n : Nat) : Nat → List FD → List Nat → Prop
 | off, fd :: r, t :: ts => fd.path.sum = off ∧ Al7 n t fd.g fd.f ∧ AcX n (off + 1) r ts
 | _, [], [] => True
 | _, _, _ => False
def AfH (n : Nat) : Nat → List FD → Prop
 | off, fd :: r => fd.path.sum = off ∧ Al6 n fd.g fd.f ∧ AfH n (off + 1) r
 | _, [] => True
section fns
variable {β : Type}
def Dp (p : Pr β) : List Nat → AV → (AV → Option β) → Option β
 | [], x, K => K x
 | o :: r, x, K => p.fadr o x fun t => Dp p r t K
def Im (p : Pr β) (tS tI gT w : Nat) (a i : AV) : List FD → AV → Ab → (KO β) → Option β
 | [], k, H, K => K k H
 | ⟨.str, path, _⟩ :: r, k, H, K => p.call tS (.fn gT [] []) [k] H fun s H => p.iadr w a i fun t => Dp p path t fun t => p.store 1 t s H fun H => p.bin .add k (.sc (.int .i64 1)) fun k => Im p tS tI gT w a i r k H K
 | ⟨.int, path, _⟩ :: r, k, H, K => p.iadr w a i fun t => Dp p path t fun t => p.store 1 t k H fun H => p.bin .add k (.sc (.int .i64 1)) fun k => Im p tS tI gT w a i r k H K
 | ⟨.bool, path, _⟩ :: r, k, H, K => p.bin .rem k (.sc (.int .i64 3)) fun q => p.bin .eql q (.sc (.int .i64 0)) fun b => p.iadr w a i fun t => Dp p path t fun t => p.store 1 t b H fun H => p.bin .add k (.sc (.int .i64 1)) fun k => Im p tS tI gT w a i r k H K
 | ⟨.byt, path, _⟩ :: r, k, H, K => p.cvI .u8 k fun c => p.iadr w a i fun t => Dp p path t fun t => p.store 1 t c H fun H => p.bin .add k (.sc (.int .i64 1)) fun k => Im p tS tI gT w a i r k H K
 | ⟨.sub _, path, g⟩ :: r, k, H, K => p.iadr w a i fun t => Dp p path t fun t => p.load false 1 t H fun v => p.call tI (.fn g [] []) [v, k] H fun k H => Im p tS tI gT w a i r k H K
 | ⟨.skip, _, _⟩ :: r, k, H, K => Im p tS tI gT w a i r k H K
def Il (p : Pr β) (tS tI gT w : Nat) (a i : AV) (F : Ab → Option β) : List FD → AV → Ab → (KO β) → Option β
 | [], k, H, K => K k H
 | ⟨.str, path, _⟩ :: r, k, H, K => p.iadr w a i fun t => Dp p path t fun t => p.load false 1 t H fun v => p.call tS (.fn gT [] []) [k] H fun s H => p.bin .neq v s fun b => p.cond b (F H) (p.bin .add k (.sc (.int .i64 1)) fun k => Il p tS tI gT w a i F r k H K)
 | ⟨.int, path, _⟩ :: r, k, H, K => p.iadr w a i fun t => Dp p path t fun t => p.load false 1 t H fun v => p.bin .neq v k fun b => p.cond b (F H) (p.bin .add k (.sc (.int .i64 1)) fun k => Il p tS tI gT w a i F r k H K)
 | ⟨.bool, path, _⟩ :: r, k, H, K => p.iadr w a i fun t => Dp p path t fun t => p.load false 1 t H fun v => p.bin .rem k (.sc (.int .i64 3)) fun q => p.bin .eql q (.sc (.int .i64 0)) fun e => p.binB .neq v e fun b => p.cond b (F H) (p.bin .add k (.sc (.int .i64 1)) fun k => Il p tS tI gT w a i F r k H K)
 | ⟨.byt, path, _⟩ :: r, k, H, K => p.iadr w a i fun t => Dp p path t fun t => p.load false 1 t H fun v => p.cvI .u8 k fun c => p.bin .neq v c fun b => p.cond b (F H) (p.bin .add k (.sc (.int .i64 1)) fun k => Il p tS tI gT w a i F r k H K)
 | ⟨.sub _, path, g⟩ :: r, k, H, K => p.iadr w a i fun t => Dp p path t fun t => p.load false 1 t H fun v => p.call tI (.fn g [] []) [v, k] H fun k H => p.bin .lss k (.sc (.int .i64 0)) fun b => p.cond b (F H) (Il p tS tI gT w a i F r k H K)
 | ⟨.skip, _, _⟩ :: r, k, H, K => Il p tS tI gT w a i F r k H K
variable {n : Nat} {res : Option β}
theorem Ih : ∀ (path : List Nat) (id off : Nat) (K : AV → Option β), Dp (PR n β) path (.ptr id off) K = K (.ptr id (off + path.sum))
 | [], id, off, K => rfl
 | o :: r, id, off, K => by
  show Dp (PR n β) r (.ptr id (off + o)) K = _
  rw [Ih r, List.sum_cons, Nat.add_assoc]
theorem V8 : ∀ (path : List Nat) (cells : List AV) (K : AV → Option β), Dp (PR n β) path (.rp cells) K = K (.rp (cells.drop path.sum))
 | [], cells, K => by simp [Dp]
 | o :: r, cells, K => by
  show Dp (PR n β) r (.rp (cells.drop o)) K = _
  rw [V8 r, List.sum_cons, List.drop_drop]
theorem Vp (k : Int) (K : AV → Option β) (h0 : 0 ≤ k) (h1 : k ≤ 4611686018427387904) : Bn .add (.sc (.int .i64 k)) (.sc (.int .i64 1)) K = K (.sc (.int .i64 (k + 1))) := by
 show K (.sc (.int .i64 (IntKind.i64.wrap (k + 1)))) = _
 rw [Gs _ (by omega) (by omega)]
theorem Vx {tS gT : Nat} (h : M8 n tS gT) {k : Int} (h0 : 0 ≤ k) (h1 : k ≤ 4611686018427387904) (H : Ab) (K : KO β) : (PR n β).call tS (.fn gT [] []) [.sc (.int .i64 k)] H K = K (.sc (.string (AcG k))) H := by
 rw [Dd (vs := [.sc (.int .i64 k)]) h.1 rfl (h.2 k h0 h1), Dk, List.append_nil]
theorem Adg {tS tI gT w len i : Nat} (hT : M8 n tS gT) (hi : i < len) : ∀ (todo : List FD) (off : Nat) (Q R S : List AV) (TP tR TS : List Nat) (k : Int) (A C : Ab) (K : KO β),
  AcX n off todo tR → TP.length = Q.length → Q.length = i * w + off → Jk (todo.map FD.f) R → 0 ≤ k → k + Dr (todo.map FD.f) R ≤ 4611686018427387904 →
  (∀ X, K (.sc (.int .i64 (Ei (todo.map FD.f) k R).2)) (A ++ (SB A.length (TP ++ (tR ++ TS)) (Q ++ ((Ei (todo.map FD.f) k R).1 ++ S)) ++ (C ++ X))) = res) →
  Im (PR n β) tS tI gT w (.sl A.length 0 len w) (.sc (.int .i64 i)) todo (.sc (.int .i64 k)) (A ++ (SB A.length (TP ++ (tR ++ TS)) (Q ++ (R ++ S)) ++ C)) K = res
 | [], off, Q, R, S, TP, tR, TS, k, A, C, K, hf, ht, hq, hw, h0, h1, h => by
  cases R with
  | nil =>
   have := h []
   simp only [List.append_nil] at this
   exact this
  | cons c R => exact absurd rfl hw.1
 | fd :: todo, off, Q, R, S, TP, tR, TS, k, A, C, K, hf, ht, hq, hw, h0, h1, h => by
  cases R with
  | nil => exact absurd (show fd.f :: todo.map FD.f = [] from hw) (by simp)
  | cons c R =>
  cases tR with
  | nil => exact hf.elim
  | cons t tR =>
  obtain ⟨hpath, hsub, hrest⟩ := hf
  obtain ⟨hwc, hwR⟩ := wfL_cons.1 hw
  have hpl : ∀ K' : AV → Option β, (Cg w (.sl A.length 0 len w) (.sc (.int .i64 i)) fun t => Dp (PR n β) fd.path t K') = K' (.ptr A.length Q.length) := fun K' => by
   rw [Qp w _ _ _ _ _ hi, Ih, hpath, hq, Nat.zero_add]
  have hcnt : Dr ((fd :: todo).map FD.f) (c :: R) = En fd.f c + Dr (todo.map FD.f) R := rfl
  have hmk : Ei ((fd :: todo).map FD.f) k (c :: R) = ((Gf fd.f k c).1 :: (Ei (todo.map FD.f) (Gf fd.f k c).2 R).1, (Ei (todo.map FD.f) (Gf fd.f k c).2 R).2) := rfl
  rw [hcnt] at h1
  rw [hmk] at h
  have e1 : ∀ (x : AV) (Y : List AV), Q ++ (x :: Y ++ S) = Q ++ x :: (Y ++ S) := fun x Y => rfl
  have e2 : ∀ (x : AV) (Y : List AV), Q ++ x :: (Y ++ S) = (Q ++ [x]) ++ (Y ++ S) := fun x Y => by simp
  have e3 : TP ++ (t :: tR ++ TS) = (TP ++ [t]) ++ (tR ++ TS) := by simp
  have e4 : TP ++ (t :: tR ++ TS) = TP ++ t :: (tR ++ TS) := rfl
  have go : ∀ (c' : AV) (k' : Int) (C : Ab) (K : KO β), 0 ≤ k' → k' + Dr (todo.map FD.f) R ≤ 4611686018427387904 →
    (∀ X, K (.sc (.int .i64 (Ei (todo.map FD.f) k' R).2)) (A ++ (SB A.length (TP ++ (t :: tR ++ TS)) (Q ++ (c' :: (Ei (todo.map FD.f) k' R).1 ++ S)) ++ (C ++ X))) = res) →
    Im (PR n β) tS tI gT w (.sl A.length 0 len w) (.sc (.int .i64 i)) todo (.sc (.int .i64 k')) (A ++ (SB A.length (TP ++ (t :: tR ++ TS)) (Q ++ c' :: (R ++ S)) ++ C)) K = res := by
   intro c' k' C K h0' h1' h'
   have := Adg (tI := tI) (w := w) hT hi todo (off + 1) (Q ++ [c']) R S (TP ++ [t]) tR TS k' A C K hrest (by simp [ht]) (by simp [hq]; omega) hwR h0' h1' (fun X => by
    have := h' X
    rw [e1, e2, e3] at this
    exact this)
   rw [e3, e2]
   exact this
  obtain ⟨f, path, g⟩ := fd
  cases f with
  | skip =>
   have hc : ∃ v, c = .sc v := by
    cases c <;> first | exact ⟨_, rfl⟩ | exact hwc.elim
   obtain ⟨v, rfl⟩ := hc
   exact go (.sc v) k C K h0 (by simpa [En] using h1) h
  | sub fs =>
   have hc : ∃ m cells, c = .ro m cells := by
    cases c with
    | ro m cells => exact ⟨m, cells, rfl⟩
    | sc v => exact hwc.elim
    | _ => exact hwc.elim
   obtain ⟨m, cells, rfl⟩ := hc
   obtain ⟨hh, hx, ⟨j1, j2, hj1, hj2⟩, hmk'⟩ := hsub
   have hk' := Og (.ro m cells) (.sub fs) k
   have h1 : k + (En (.sub fs) (.ro m cells) + Dr (todo.map FD.f) R : Nat) ≤ 4611686018427387904 := h1
   show (Cg w (.sl A.length 0 len w) (.sc (.int .i64 i)) fun t => Dp (PR n β) path t fun t => Bh false 1 t _ fun v => (PR n β).call tI (.fn g [] []) [v, .sc (.int .i64 k)] _ fun k H => Im (PR n β) tS tI gT w _ _ todo k H K) = res
   rw [hpl]
   rw [e4, e1]
   refine AjB ht rfl hh hx (hmk' m cells k hwc h0 (by omega)) (fun M => ?_) (Uy _ _ _) fun X => ?_
   ·rw [Ma hj1 hj2]
    show (A2 Ag E0.tp M t (.ro m _)).1 = _
    rw [Ma hj1 hj2]
   ·refine go _ _ (C ++ X) K (by omega) (by omega) fun Y => ?_
    rw [List.append_assoc]
    exact h (X ++ Y)
  | str =>
   have hc : ∃ s, c = .sc (.string s) := by
    cases c with
    | sc v => cases v <;> first | exact ⟨_, rfl⟩ | exact hwc.elim
    | _ => exact hwc.elim
   obtain ⟨v, rfl⟩ := hc
   have h1 : k + (1 + Dr (todo.map FD.f) R : Nat) ≤ 4611686018427387904 := h1
   show (PR n β).call tS (.fn gT [] []) [.sc (.int .i64 k)] _ (fun s H => Cg w (.sl A.length 0 len w) (.sc (.int .i64 i)) fun t => Dp (PR n β) path t fun t => C2 1 t s H fun H => Bn .add (.sc (.int .i64 k)) (.sc (.int .i64 1)) fun k => Im (PR n β) tS tI gT w _ _ todo k H K) = res
   rw [Vx hT h0 (by omega)]
   simp only [hpl]
   rw [e4, e1, Ov ht rfl rfl, Vp _ _ h0 (by omega)]
   exact go _ _ C K (by omega) (by omega) h
  | int =>
   have hc : ∃ z, c = .sc (.int .i64 z) := by
    cases c with
    | sc v => cases v with
     | int kd z => cases kd <;> first | exact ⟨_, rfl⟩ | exact hwc.elim
     | _ => exact hwc.elim
    | _ => exact hwc.elim
   obtain ⟨v, rfl⟩ := hc
   have h1 : k + (1 + Dr (todo.map FD.f) R : Nat) ≤ 4611686018427387904 := h1
   show (Cg w (.sl A.length 0 len w) (.sc (.int .i64 i)) fun t => Dp (PR n β) path t fun t => C2 1 t (.sc (.int .i64 k)) _ fun H => Bn .add (.sc (.int .i64 k)) (.sc (.int .i64 1)) fun k => Im (PR n β) tS tI gT w _ _ todo k H K) = res
   rw [hpl]
   rw [e4, e1, Ov ht rfl rfl, Vp _ _ h0 (by omega)]
   exact go _ _ C K (by omega) (by omega) h
  | bool =>
   have hc : ∃ b, c = .sc (.bool b) := by
    cases c with
    | sc v => cases v <;> first | exact ⟨_, rfl⟩ | exact hwc.elim
    | _ => exact hwc.elim
   obtain ⟨v, rfl⟩ := hc
   have h1 : k + (1 + Dr (todo.map FD.f) R : Nat) ≤ 4611686018427387904 := h1
   show (Cg w (.sl A.length 0 len w) (.sc (.int .i64 i)) fun t => Dp (PR n β) path t fun t => C2 1 t (.sc (.bool (k.tmod 3 == 0))) _ fun H => Bn .add (.sc (.int .i64 k)) (.sc (.int .i64 1)) fun k => Im (PR n β) tS tI gT w _ _ todo k H K) = res
   rw [hpl]
   rw [e4, e1, Ov ht rfl rfl, Vp _ _ h0 (by omega)]
   exact go _ _ C K (by omega) (by omega) h
  | byt =>
   have hc : ∃ z, c = .sc (.int .u8 z) := by
    cases c with
    | sc v => cases v with
     | int kd z => cases kd <;> first | exact ⟨_, rfl⟩ | exact hwc.elim
     | _ => exact hwc.elim
    | _ => exact hwc.elim
   obtain ⟨v, rfl⟩ := hc
   have h1 : k + (1 + Dr (todo.map FD.f) R : Nat) ≤ 4611686018427387904 := h1
   show (Cg w (.sl A.length 0 len w) (.sc (.int .i64 i)) fun t => Dp (PR n β) path t fun t => C2 1 t (.sc (.int .u8 (IntKind.u8.wrap k))) _ fun H => Bn .add (.sc (.int .i64 k)) (.sc (.int .i64 1)) fun k => Im (PR n β) tS tI gT w _ _ todo k H K) = res
   rw [hpl]
   rw [e4, e1, Ov ht rfl rfl, Vp _ _ h0 (by omega)]
   exact go _ _ C K (by omega) (by omega) h
end fns
end
section
open Go
variable {β : Type} {n : Nat} {res : Option β}
theorem Vi {n : Nat} : ∀ {off : Nat} {fds : List FD} {ts : List Nat}, AcX n off fds ts → fds.length = ts.length
 | _, [], [], _ => rfl
 | _, _ :: _, _ :: _, h => by simp [Vi h.2.2]
 | _, [], _ :: _, h => h.elim
 | _, _ :: _, [], h => h.elim
theorem Afa (id off m w : Nat) (k : AV → Option β) : Gn (.sl id off m w) k = k (.sc (.int .i64 m)) := rfl
theorem Afd {tS tI gT w len : Nat} {cty : List Nat} {fds : List FD} (hT : M8 n tS gT) (hf : AcX n 0 fds cty) (hw : fds.length = w) (hlen : len ≤ 1048576) (L : Nat → AV → AV → KO β) (kk : KO β)
  (hL : ∀ m a k i H, L (m + 1) a k i H = Gn a fun t8 => Bn .lss i t8 fun t9 => Cb t9 (Im (PR n β) tS tI gT w a i fds k H fun k' H => Bn .add i (.sc (.int .i64 1)) fun i' => L m a k' i' H) (kk k H)) :
  ∀ (r i m : Nat) (P S : List AV) (TP : List Nat) (k : Int) (A C : Ab), P.length = i * w → TP.length = P.length → i + r = len → r < m → Jk (Gt r (fds.map FD.f)) S → 0 ≤ k → k + Dr (Gt r (fds.map FD.f)) S ≤ 4611686018427387904 →
   (∀ X, kk (.sc (.int .i64 (Ei (Gt r (fds.map FD.f)) k S).2)) (A ++ (SB A.length (TP ++ (List.replicate r cty).flatten) (P ++ (Ei (Gt r (fds.map FD.f)) k S).1) ++ (C ++ X))) = res) →
   L m (.sl A.length 0 len w) (.sc (.int .i64 k)) (.sc (.int .i64 i)) (A ++ (SB A.length (TP ++ (List.replicate r cty).flatten) (P ++ S) ++ C)) = res
 | 0, i, m + 1, P, S, TP, k, A, C, hP, hTP, hr, hm, hwf, h0, h1, h => by
  have hS : S = [] := by
   have := Jl hwf
   simp [Gt] at this
   exact List.eq_nil_of_length_eq_zero this.symm
  subst hS
  obtain rfl : i = len := by omega
  rw [hL]
  rw [Afa, Ct, Bl, if_neg (by simp)]
  have := h []
  simp only [List.append_nil, Ei] at this ⊢
  exact this
 | r + 1, i, m + 1, P, S, TP, k, A, C, hP, hTP, hr, hm, hwf, h0, h1, h => by
  have hi : i < len := by omega
  have hml : (fds.map FD.f).length = w := by simp [hw]
  have hSl : S.length = (r + 1) * w := by
   have := Jl hwf
   rw [Wx, hml] at this
   exact this.symm
  obtain ⟨R, S', rfl, hRl⟩ : ∃ R S', S = R ++ S' ∧ R.length = w := ⟨S.take w, S.drop w, (List.take_append_drop w S).symm, by rw [List.length_take, hSl, Nat.succ_mul]; omega⟩
  rw [G3] at hwf h1 h
  have hl : (fds.map FD.f).length = R.length := by rw [hml, hRl]
  obtain ⟨hwR, hwS⟩ := (Hp hl).1 hwf
  rw [Gz _ _ _ _ hl] at h1
  rw [Is _ _ _ _ _ hl] at h
  have hkc := Jg R (fds.map FD.f) k
  have hRl' := Mf R (fds.map FD.f) k
  have hcl : cty.length = w := by rw [← Vi hf, hw]
  rw [List.replicate_succ, List.flatten_cons] at h ⊢
  rw [hL]
  rw [Afa, Ct, Bl, if_pos (by simpa using hi)]
  refine Adg (w := w) (tI := tI) hT hi fds 0 P R S' TP cty (List.replicate r cty).flatten k A C _ hf hTP (by rw [hP, Nat.add_zero]) hwR h0 (by omega) fun X => ?_
  rw [Dt _ _ (by omega)]
  have ih := Afd hT hf hw hlen L kk hL r (i + 1) m (P ++ (Ei (fds.map FD.f) k R).1) S' (TP ++ cty) (Ei (fds.map FD.f) k R).2 A (C ++ X) (by rw [List.length_append, hP, hRl', hRl, Nat.succ_mul]) (by rw [List.length_append, List.length_append, hTP, hcl, hRl', hRl]) (by omega) (by omega) hwS (by omega) (by omega) (fun Y => by
   have := h (X ++ Y)
   simp only [List.append_assoc] at this ⊢
   exact this)
  simp only [List.append_assoc] at ih ⊢
  exact ih
theorem Me {tS tI gT w f tyS : Nat} {cty : List Nat} {fds : List FD} (hh : E0.hm f = true) (hx : E0.ext f = none) (hT : M8 n tS gT) (hf : AcX n 0 fds cty) (hw : fds.length = w) (hty : ∃ i j, Ag tyS = some i ∧ Ag i.elem = some j ∧ j.size = w ∧ j.cty = cty) (hn : 1048576 < n)
  (L : (β : Type) → (KO β) → Nat → AV → AV → KO β)
  (hL : ∀ β kk m a k i H, L β kk (m + 1) a k i H = Gn a fun t8 => Bn .lss i t8 fun t9 => Cb t9 (Im (PR n β) tS tI gT w a i fds k H fun k' H => Bn .add i (.sc (.int .i64 1)) fun i' => L β kk m a k' i' H) (kk k H))
  (hF : ∀ β a b H kk, Cz E0 (n + 1) β f [a, b] H kk = L β kk n a b (.sc (.int .i64 0)) H) : Jm (n + 1) f tyS (fds.map FD.f) := by
 obtain ⟨ti, tj, h1, h2, h3, h4⟩ := hty
 refine ⟨hh, hx, ⟨ti, tj, h1, h2⟩, fun len cells k hwf h0 hb => ?_⟩
 intro β A C K r h
 obtain ⟨hlen, hcl, hwl⟩ := (show len ≤ 1048576 ∧ cells.length = len * (fds.map FD.f).length ∧ Jk (Gt len (fds.map FD.f)) cells from hwf)
 rw [hF, Ma h1 h2, h3, h4]
 have hmk : Gf (.sub (fds.map FD.f)) k (.ro len cells) = (.ro len (Ei (Gt len (fds.map FD.f)) k cells).1, (Ei (Gt len (fds.map FD.f)) k cells).2) := rfl
 rw [hmk] at h
 simp only [Ma h1 h2, h3, h4] at h
 exact Afd (n := n) (cty := cty) hT hf hw hlen (L β K) K (hL β K) len 0 n [] cells [] k A C (by simp) rfl (by omega) (by omega) hwl h0 hb h
theorem Adf {tS tI gT w len i : Nat} {F : Ab → Option β} (hT : M8 n tS gT) (hi : i < len) (cells : List AV) (hw0 : i * w < cells.length) : ∀ (todo : List FD) (off : Nat) (Q R S : List AV) (k : Int) (H : Ab) (K : KO β),
  AfH n off todo → Q.length = i * w + off → Jk (todo.map FD.f) R → 0 ≤ k → k + Dr (todo.map FD.f) R ≤ 4611686018427387904 → cells = Q ++ ((Ei (todo.map FD.f) k R).1 ++ S) →
  (∀ X, K (.sc (.int .i64 (Ei (todo.map FD.f) k R).2)) (H ++ X) = res) →
  Il (PR n β) tS tI gT w (.ro len cells) (.sc (.int .i64 i)) F todo (.sc (.int .i64 k)) H K = res
 | [], off, Q, R, S, k, H, K, hf, hq, hw, h0, h1, hc, h => by
  cases R with
  | nil =>
   have := h []
   rw [List.append_nil] at this
   exact this
  | cons c R => exact absurd rfl hw.1
 | fd :: todo, off, Q, R, S, k, H, K, hf, hq, hw, h0, h1, hc, h => by
  cases R with
  | nil => exact absurd (show fd.f :: todo.map FD.f = [] from hw) (by simp)
  | cons c R =>
  obtain ⟨hpath, hsub, hrest⟩ := hf
  obtain ⟨hwc, hwR⟩ := wfL_cons.1 hw
  have hmk : Ei ((fd :: todo).map FD.f) k (c :: R) = ((Gf fd.f k c).1 :: (Ei (todo.map FD.f) (Gf fd.f k c).2 R).1, (Ei (todo.map FD.f) (Gf fd.f k c).2 R).2) := rfl
  rw [hmk] at h hc
  have hcells : cells = Q ++ (Gf fd.f k c).1 :: ((Ei (todo.map FD.f) (Gf fd.f k c).2 R).1 ++ S) := hc
  have hpl : ∀ K' : AV → Option β, (Cg w (.ro len cells) (.sc (.int .i64 i)) fun t => Dp (PR n β) fd.path t fun t => Bh false 1 t H K') = K' (Gf fd.f k c).1 := fun K' => by
   rw [Kk w _ _ i _ hi hw0, V8, hpath, List.drop_drop, ← hq]
   conv => lhs; rw [hcells]
   rw [List.drop_append_of_le_length (Nat.le_refl _), List.drop_length, List.nil_append, Jo]
  have go : ∀ (H' : Ab), (∀ X, K (.sc (.int .i64 (Ei (todo.map FD.f) (Gf fd.f k c).2 R).2)) (H' ++ X) = res) → 0 ≤ (Gf fd.f k c).2 → (Gf fd.f k c).2 + Dr (todo.map FD.f) R ≤ 4611686018427387904 →
    Il (PR n β) tS tI gT w (.ro len cells) (.sc (.int .i64 i)) F todo (.sc (.int .i64 (Gf fd.f k c).2)) H' K = res := by
   intro H' h' g0 g1
   exact Adf hT hi cells hw0 todo (off + 1) (Q ++ [(Gf fd.f k c).1]) R S (Gf fd.f k c).2 H' K hrest (by simp [hq]; omega) hwR g0 g1 (by rw [hcells]; simp) h'
  have hcnt := Og c fd.f k
  have h1 : k + (En fd.f c + Dr (todo.map FD.f) R : Nat) ≤ 4611686018427387904 := h1
  obtain ⟨f, path, g⟩ := fd
  simp only at hcnt h1 hpl go h
  cases f with
  | skip =>
   have hc : ∃ v, c = .sc v := by
    cases c <;> first | exact ⟨_, rfl⟩ | exact hwc.elim
   obtain ⟨v, rfl⟩ := hc
   exact go H h h0 (by simpa [En, Gf] using h1)
  | sub fs =>
   have hc : ∃ m cells, c = .ro m cells := by
    cases c with
    | ro m cells => exact ⟨m, cells, rfl⟩
    | sc v => exact hwc.elim
    | _ => exact hwc.elim
   obtain ⟨m, cs, rfl⟩ := hc
   obtain ⟨hh, hhe⟩ := hsub
   show (Cg w (.ro len cells) (.sc (.int .i64 i)) fun t => Dp (PR n β) path t fun t => Bh false 1 t H fun v => (PR n β).call tI (.fn g [] []) [v, .sc (.int .i64 k)] H fun k H => Bn .lss k (.sc (.int .i64 0)) fun b => Cb b (F H) (Il (PR n β) tS tI gT w _ _ F todo k H K)) = res
   rw [hpl, Dd (vs := [(Gf (.sub fs) k (.ro m cs)).1, .sc (.int .i64 k)]) hh rfl (hhe tI m cs k hwc h0 (by omega)), Dk, List.append_nil]
   simp only
   rw [H5, Bl, if_neg (by simp; omega)]
   exact go H h (by omega) (by omega)
  | str =>
   have hc : ∃ s, c = .sc (.string s) := by
    cases c with
    | sc v => cases v <;> first | exact ⟨_, rfl⟩ | exact hwc.elim
    | _ => exact hwc.elim
   obtain ⟨v, rfl⟩ := hc
   have h1 : k + (1 + Dr (todo.map FD.f) R : Nat) ≤ 4611686018427387904 := h1
   have hpl' : ∀ K' : AV → Option β, (Cg w (.ro len cells) (.sc (.int .i64 i)) fun t => Dp (PR n β) path t fun t => Bh false 1 t H K') = K' (.sc (.string (AcG k))) := hpl
   show (Cg w (.ro len cells) (.sc (.int .i64 i)) fun t => Dp (PR n β) path t fun t => Bh false 1 t H fun v => (PR n β).call tS (.fn gT [] []) [.sc (.int .i64 k)] H fun s H => Bn .neq v s fun b => Cb b (F H) (Bn .add (.sc (.int .i64 k)) (.sc (.int .i64 1)) fun k => Il (PR n β) tS tI gT w _ _ F todo k H K)) = res
   rw [hpl', Vx hT h0 (by omega), Al3]
   simp only [beq_self_eq_true, Bool.not_true]
   rw [Bl, if_neg (by simp), Vp _ _ h0 (by omega)]
   exact go H h (by show 0 ≤ k + 1; omega) (by show k + 1 + _ ≤ _; omega)
  | int =>
   have hc : ∃ z, c = .sc (.int .i64 z) := by
    cases c with
    | sc v => cases v with
     | int kd z => cases kd <;> first | exact ⟨_, rfl⟩ | exact hwc.elim
     | _ => exact hwc.elim
    | _ => exact hwc.elim
   obtain ⟨v, rfl⟩ := hc
   have h1 : k + (1 + Dr (todo.map FD.f) R : Nat) ≤ 4611686018427387904 := h1
   have hpl' : ∀ K' : AV → Option β, (Cg w (.ro len cells) (.sc (.int .i64 i)) fun t => Dp (PR n β) path t fun t => Bh false 1 t H K') = K' (.sc (.int .i64 k)) := hpl
   show (Cg w (.ro len cells) (.sc (.int .i64 i)) fun t => Dp (PR n β) path t fun t => Bh false 1 t H fun v => Bn .neq v (.sc (.int .i64 k)) fun b => Cb b (F H) (Bn .add (.sc (.int .i64 k)) (.sc (.int .i64 1)) fun k => Il (PR n β) tS tI gT w _ _ F todo k H K)) = res
   rw [hpl', Aiu]
   simp only [bne_self_eq_false]
   rw [Bl, if_neg (by simp), Vp _ _ h0 (by omega)]
   exact go H h (by show 0 ≤ k + 1; omega) (by show k + 1 + _ ≤ _; omega)
  | bool =>
   have hc : ∃ b, c = .sc (.bool b) := by
    cases c with
    | sc v => cases v <;> first | exact ⟨_, rfl⟩ | exact hwc.elim
    | _ => exact hwc.elim
   obtain ⟨v, rfl⟩ := hc
   have h1 : k + (1 + Dr (todo.map FD.f) R : Nat) ≤ 4611686018427387904 := h1
   have hpl' : ∀ K' : AV → Option β, (Cg w (.ro len cells) (.sc (.int .i64 i)) fun t => Dp (PR n β) path t fun t => Bh false 1 t H K') = K' (.sc (.bool (k.tmod 3 == 0))) := hpl
   show (Cg w (.ro len cells) (.sc (.int .i64 i)) fun t => Dp (PR n β) path t fun t => Bh false 1 t H fun v => Lt .neq v (.sc (.bool (k.tmod 3 == 0))) fun b => Cb b (F H) (Bn .add (.sc (.int .i64 k)) (.sc (.int .i64 1)) fun k => Il (PR n β) tS tI gT w _ _ F todo k H K)) = res
   rw [hpl', AkE]
   simp only [beq_self_eq_true, Bool.not_true]
   rw [Bl, if_neg (by simp), Vp _ _ h0 (by omega)]
   exact go H h (by show 0 ≤ k + 1; omega) (by show k + 1 + _ ≤ _; omega)
  | byt =>
   have hc : ∃ z, c = .sc (.int .u8 z) := by
    cases c with
    | sc v => cases v with
     | int kd z => cases kd <;> first | exact ⟨_, rfl⟩ | exact hwc.elim
     | _ => exact hwc.elim
    | _ => exact hwc.elim
   obtain ⟨v, rfl⟩ := hc
   have h1 : k + (1 + Dr (todo.map FD.f) R : Nat) ≤ 4611686018427387904 := h1
   have hpl' : ∀ K' : AV → Option β, (Cg w (.ro len cells) (.sc (.int .i64 i)) fun t => Dp (PR n β) path t fun t => Bh false 1 t H K') = K' (.sc (.int .u8 (IntKind.u8.wrap k))) := hpl
   show (Cg w (.ro len cells) (.sc (.int .i64 i)) fun t => Dp (PR n β) path t fun t => Bh false 1 t H fun v => Bn .neq v (.sc (.int .u8 (IntKind.u8.wrap k))) fun b => Cb b (F H) (Bn .add (.sc (.int .i64 k)) (.sc (.int .i64 1)) fun k => Il (PR n β) tS tI gT w _ _ F todo k H K)) = res
   rw [hpl']
   show Cb (.sc (.bool (IntKind.u8.wrap k != IntKind.u8.wrap k))) _ _ = res
   simp only [bne_self_eq_false]
   rw [Bl, if_neg (by simp), Vp _ _ h0 (by omega)]
   exact go H h (by show 0 ≤ k + 1; omega) (by show k + 1 + _ ≤ _; omega)
theorem Afc {tS tI gT w len : Nat} {fds : List FD} (hT : M8 n tS gT) (hf : AfH n 0 fds) (hw : fds.length = w) (hw0 : 0 < w) (hlen : len ≤ 1048576) (cells : List AV) (L : Nat → AV → AV → KO β) (kk : KO β)
  (hL : ∀ m a k i H, L (m + 1) a k i H = Gn a fun t8 => Bn .lss i t8 fun t9 => Cb t9 (Il (PR n β) tS tI gT w a i (fun H => kk (.sc (.int .i64 (-1))) H) fds k H fun k' H => Bn .add i (.sc (.int .i64 1)) fun i' => L m a k' i' H) (kk k H)) :
  ∀ (r i m : Nat) (P S : List AV) (k : Int) (H : Ab), P.length = i * w → i + r = len → r < m → Jk (Gt r (fds.map FD.f)) S → 0 ≤ k → k + Dr (Gt r (fds.map FD.f)) S ≤ 4611686018427387904 → cells = P ++ (Ei (Gt r (fds.map FD.f)) k S).1 →
   (∀ X, kk (.sc (.int .i64 (Ei (Gt r (fds.map FD.f)) k S).2)) (H ++ X) = res) →
   L m (.ro len cells) (.sc (.int .i64 k)) (.sc (.int .i64 i)) H = res
 | 0, i, m + 1, P, S, k, H, hP, hr, hm, hwf, h0, h1, hc, h => by
  have hS : S = [] := by
   have := Jl hwf
   simp [Gt] at this
   exact List.eq_nil_of_length_eq_zero this.symm
  subst hS
  obtain rfl : i = len := by omega
  rw [hL, Dg, Ct, Bl, if_neg (by simp)]
  have := h []
  simp only [List.append_nil, Ei] at this ⊢
  exact this
 | r + 1, i, m + 1, P, S, k, H, hP, hr, hm, hwf, h0, h1, hc, h => by
  have hi : i < len := by omega
  have hml : (fds.map FD.f).length = w := by simp [hw]
  have hSl : S.length = (r + 1) * w := by
   have := Jl hwf
   rw [Wx, hml] at this
   exact this.symm
  obtain ⟨R, S', rfl, hRl⟩ : ∃ R S', S = R ++ S' ∧ R.length = w := ⟨S.take w, S.drop w, (List.take_append_drop w S).symm, by rw [List.length_take, hSl, Nat.succ_mul]; omega⟩
  rw [G3] at hwf h1 h hc
  have hl : (fds.map FD.f).length = R.length := by rw [hml, hRl]
  obtain ⟨hwR, hwS⟩ := (Hp hl).1 hwf
  rw [Gz _ _ _ _ hl] at h1
  rw [Is _ _ _ _ _ hl] at h hc
  have hkc := Jg R (fds.map FD.f) k
  have hRl' := Mf R (fds.map FD.f) k
  have hcl : i * w < cells.length := by
   rw [hc, List.length_append, List.length_append, hRl', hRl, hP]
   omega
  rw [hL, Dg, Ct, Bl, if_pos (by simpa using hi)]
  refine Adf (w := w) (tI := tI) hT hi cells hcl fds 0 P R (Ei (Gt r (fds.map FD.f)) (Ei (fds.map FD.f) k R).2 S').1 k H _ hf (by rw [hP, Nat.add_zero]) hwR h0 (by omega) hc fun X => ?_
  rw [Dt _ _ (by omega)]
  exact Afc hT hf hw hw0 hlen cells L kk hL r (i + 1) m (P ++ (Ei (fds.map FD.f) k R).1) S' (Ei (fds.map FD.f) k R).2 (H ++ X) (by rw [List.length_append, hP, hRl', hRl, Nat.succ_mul]) (by omega) (by omega) hwS (by omega) (by omega) (by rw [hc, List.append_assoc]) (fun Y => by
   have := h (X ++ Y)
   rw [List.append_assoc]
   exact this)
theorem L8 {tS tI gT w f : Nat} {fds : List FD} (hh : Cw f = false) (hT : M8 n tS gT) (hf : AfH n 0 fds) (hw : fds.length = w) (hw0 : 0 < w) (hn : 1048576 < n)
  (L : (AV → Ab → Option AV) → Nat → AV → AV → AV → Ab → Option AV)
  (hL : ∀ kk m a k i H, L kk (m + 1) a k i H = Gn a fun t8 => Bn .lss i t8 fun t9 => Cb t9 (Il (PR n AV) tS tI gT w a i (fun H => kk (.sc (.int .i64 (-1))) H) fds k H fun k' H => Bn .add i (.sc (.int .i64 1)) fun i' => L kk m a k' i' H) (kk k H))
  (hF : ∀ a b H kk, Cz E0 (n + 1) AV f [a, b] H kk = L kk n a b (.sc (.int .i64 0)) H) : Kc (n + 1) f (fds.map FD.f) := by
 refine ⟨hh, fun ty len cells k hwf h0 hb => ?_⟩
 obtain ⟨hlen, hcl, hwl⟩ := (show len ≤ 1048576 ∧ cells.length = len * (fds.map FD.f).length ∧ Jk (Gt len (fds.map FD.f)) cells from hwf)
 rw [Ax, hF]
 exact Afc (n := n) hT hf hw hw0 hlen (Ei (Gt len (fds.map FD.f)) k cells).1 (L fun x H => Aw Ag E0.tp ty H x) (fun x H => Aw Ag E0.tp ty H x) (hL _) len 0 n [] cells k [] (by simp) (by omega) (by omega) hwl h0 hb rfl (fun X => rfl)
end
section
open Go
section txt
theorem Af6 (v : AV) (h : Bz v = some [v]) : Ez [(.sc (.int .u8 0))] [(0, 1, v)] = some [v] := by
 simp [Ez, h, Ch]
theorem AcU (H : Ab) (b : UInt8) : Cf (H ++ [⟨[.sc (.int .u8 b.toNat)], true, true⟩]) 1 (.sl H.length 0 1 1) = some [.sc (.int .u8 b.toNat)] := by
 simp only [Cf, if_true, An, Jn H _ []]
 rfl
theorem Adn {k : Nat} (h : ¬ k = 0) (out : ByteArray) : Xz k out = Xz (k / 10) (⟨#[UInt8.ofNat (48 + k % 10)]⟩ ++ out) := by
 rw [Xz, dif_neg h]
theorem Xc {n ty : Nat} (L : Nat → AV → AV → Ab → Option AV)
  (hL : ∀ m k s H, L (m + 1) k s H = Bn .gtr k (.sc (.int .i64 0)) fun t7 => Cb t7 (Bn .rem k (.sc (.int .i64 10)) fun t9 => Bn .add (.sc (.int .i64 48)) t9 fun t10 => Wt .u8 t10 fun t11 =>
   (Ez [(.sc (.int .u8 0))] [(0, 1, t11)]).bind fun ct12 => D2 1 1 ct12 true H fun t12 H => Oq t12 H fun t13 => Bn .add t13 s fun t15 => Bn .quo k (.sc (.int .i64 10)) fun t17 => L m t17 t15 H)
   (Bn .add (.sc (.string ⟨#[109]⟩)) s fun t19 => Aw Ag E0.tp ty H t19)) :
  ∀ (b m k : Nat) (out : ByteArray) (H : Ab), k ≤ 4611686018427387904 → k < 10 ^ b → b < m → out.size + b ≤ 1000 → L m (.sc (.int .i64 k)) (.sc (.string out)) H = some (.sc (.string (⟨#[109]⟩ ++ Xz k out)))
 | b, 0, k, out, H, hk0, h1, h2, h3 => by omega
 | b, m + 1, k, out, H, hk0, h1, h2, h3 => by
  rw [hL, Ais, Bl]
  by_cases hk : k = 0
  ·subst hk
   rw [if_neg (by simp)]
   have hs : (⟨#[109]⟩ : ByteArray).size + out.size ≤ 9223372036854775807 := by
    show 1 + out.size ≤ _
    omega
   show (S4 .add ⟨#[109]⟩ out).bind _ = _
   simp only [S4, if_pos hs, Option.bind_some]
   rw [Xz, dif_pos rfl]
   rfl
  ·rw [if_pos (by simp; omega)]
   have e9 : ∀ K : AV → Option AV, Bn .rem (.sc (.int .i64 (k : Int))) (.sc (.int .i64 10)) K = K (.sc (.int .i64 ((k % 10 : Nat) : Int))) := by
    intro K
    show K (.sc (.int .i64 ((k : Int).tmod 10))) = _
    rw [show ((k : Int).tmod 10) = ((k % 10 : Nat) : Int) from by
     rw [Int.tmod_eq_emod_of_nonneg (by omega)]; simp]
   have e10 : ∀ K : AV → Option AV, Bn .add (.sc (.int .i64 48)) (.sc (.int .i64 ((k % 10 : Nat) : Int))) K = K (.sc (.int .i64 ((48 + k % 10 : Nat) : Int))) := by
    intro K
    show K (.sc (.int .i64 (IntKind.i64.wrap (48 + ((k % 10 : Nat) : Int))))) = _
    rw [Gs _ (by omega) (by omega)]
    rfl
   have e11 : ∀ K : AV → Option AV, Wt .u8 (.sc (.int .i64 ((48 + k % 10 : Nat) : Int))) K = K (.sc (.int .u8 ((UInt8.ofNat (48 + k % 10)).toNat : Int))) := by
    intro K
    show K (.sc (.int .u8 (IntKind.u8.wrap ((48 + k % 10 : Nat) : Int)))) = _
    have : (UInt8.ofNat (48 + k % 10)).toNat = 48 + k % 10 := by
     rw [UInt8.toNat_ofNat']
     omega
    rw [this]
    have hw : IntKind.u8.wrap ((48 + k % 10 : Nat) : Int) = ((48 + k % 10 : Nat) : Int) := by
     have h10 : k % 10 < 10 := Nat.mod_lt _ (by decide)
     unfold IntKind.wrap
     simp [IntKind.bits, IntKind.signed]
     omega
    rw [hw]
   have e17 : ∀ K : AV → Option AV, Bn .quo (.sc (.int .i64 (k : Int))) (.sc (.int .i64 10)) K = K (.sc (.int .i64 ((k / 10 : Nat) : Int))) := by
    intro K
    show K (.sc (.int .i64 (IntKind.i64.wrap ((k : Int).tdiv 10)))) = _
    rw [Int.tdiv_eq_ediv_of_nonneg (by omega), Gs _ (by omega) (by omega)]
    rfl
   rw [e9, e10, e11, Af6 _ rfl]
   have hb : ((UInt8.ofNat (48 + k % 10)).toNat : Int).toNat = (UInt8.ofNat (48 + k % 10)).toNat := Int.toNat_natCast _
   have hbb : ([.sc (.int .u8 ((UInt8.ofNat (48 + k % 10)).toNat : Int))] : List AV).mapM Ke = some [UInt8.ofNat (48 + k % 10)] := H7 [UInt8.ofNat (48 + k % 10)]
   simp only [Option.bind_some, D2, Oq, AcU, hbb]
   have hs : (⟨#[UInt8.ofNat (48 + k % 10)]⟩ : ByteArray).size + out.size ≤ 9223372036854775807 := by
    show 1 + out.size ≤ _
    omega
   have e15 : ∀ K : AV → Option AV, Bn .add (.sc (.string ⟨[UInt8.ofNat (48 + k % 10)].toArray⟩)) (.sc (.string out)) K = K (.sc (.string (⟨#[UInt8.ofNat (48 + k % 10)]⟩ ++ out))) := by
    intro K
    show (S4 .add ⟨#[UInt8.ofNat (48 + k % 10)]⟩ out).bind _ = _
    simp only [S4, if_pos hs, Option.bind_some]
   rw [e15, e17]
   cases b with
   | zero => simp at h1; omega
   | succ b =>
    have hk10 : k / 10 < 10 ^ b := by
     rw [Nat.pow_succ] at h1
     omega
    have hsz : (⟨#[UInt8.ofNat (48 + k % 10)]⟩ ++ out : ByteArray).size = 1 + out.size := by
     rw [ByteArray.size_append]
     rfl
    rw [Xc (n := n) (ty := ty) L hL b m (k / 10) _ _ (by omega) hk10 (by omega) (by rw [hsz]; omega)]
    rw [Adn hk out]
end txt
theorem AjT {n tS f : Nat} (hh : Cw f = false) (hn : 1048576 < n) (L : (AV → Ab → Option AV) → Nat → AV → AV → Ab → Option AV)
  (hL : ∀ kk m k s H, L kk (m + 1) k s H = Bn .gtr k (.sc (.int .i64 0)) fun t7 => Cb t7 (Bn .rem k (.sc (.int .i64 10)) fun t9 => Bn .add (.sc (.int .i64 48)) t9 fun t10 => Wt .u8 t10 fun t11 =>
   (Ez [(.sc (.int .u8 0))] [(0, 1, t11)]).bind fun ct12 => D2 1 1 ct12 true H fun t12 H => Oq t12 H fun t13 => Bn .add t13 s fun t15 => Bn .quo k (.sc (.int .i64 10)) fun t17 => L kk m t17 t15 H)
   (Bn .add (.sc (.string ⟨#[109]⟩)) s fun t19 => kk t19 H))
  (hF : ∀ a H kk, Cz E0 (n + 1) AV f [a] H kk = Bn .leq a (.sc (.int .i64 0)) fun t5 => Cb t5 (kk (.sc (.string ⟨#[109, 48]⟩)) H) (L kk n a (.sc (.string ⟨#[]⟩)) H)) : M8 (n + 1) tS f := by
 refine ⟨hh, fun k h0 h1 => ?_⟩
 rw [Ax, hF, Tq, Bl]
 by_cases hk : k ≤ 0
 ·rw [if_pos (by simpa using hk), AkG, AcG, if_pos hk]
  rfl
 ·rw [if_neg (by simpa using hk)]
  obtain ⟨m, rfl⟩ : ∃ m : Nat, k = m := ⟨k.toNat, by omega⟩
  have := Xc (n := n) (ty := tS) (L fun x H => Aw Ag E0.tp tS H x) (hL _) 19 n m ⟨#[]⟩ [] (by omega) (by omega) (by omega) (by decide)
  rw [this, AcG, if_neg hk]
  rfl
inductive FV where
 | skip
 | sub (fs : List MF) (path : List Nat) (g : FuncId)
 | agg (l : List MF) (path : List Nat) (w : Nat) (g : FuncId)
def Co : List FV → List MF
 | [] => []
 | .skip :: r => .skip :: Co r
 | .sub fs _ _ :: r => .sub fs :: Co r
 | .agg l _ _ _ :: r => l ++ Co r
def Vm (n g : Nat) (cty : List Nat) (fs : List MF) : Prop := E0.hm g = true ∧ E0.ext g = none ∧ ∀ (cs : List AV) (k : Int) (β : Type) (A C : Ab) (K : KO β) (r : Option β), Jk fs cs → 0 ≤ k → k + Dr fs cs ≤ 4611686018427387904 →
 (∀ X, K (.sc (.int .i64 (Ei fs k cs).2)) (A ++ ((Aj Ag E0.tp A.length cty (Ei fs k cs).1).2 ++ (C ++ X))) = r) → Cz E0 n β g [.agg (Aj Ag E0.tp A.length cty cs).1, .sc (.int .i64 k)] (A ++ ((Aj Ag E0.tp A.length cty cs).2 ++ C)) K = r
def Vk (n g : Nat) (fs : List MF) : Prop := Cw g = false ∧ ∀ (ty : Nat) (cs : List AV) (k : Int), Jk fs cs → 0 ≤ k → k + Dr fs cs ≤ 4611686018427387904 → Bt E0 n ty g [.agg (Ei fs k cs).1, .sc (.int .i64 k)] = some (.sc (.int .i64 (Ei fs k cs).2))
def isV : MF → Bool
 | .skip => true
 | .sub _ => true
 | _ => false
def FvM (n : Nat) : Nat → List FV → List Nat → Prop
 | _, [], [] => True
 | off, .skip :: r, _ :: ts => FvM n (off + 1) r ts
 | off, .sub fs path g :: r, t :: ts => path.sum = off ∧ Jm n g t fs ∧ FvM n (off + 1) r ts
 | off, .agg l path w g :: r, ts => path.sum = off ∧ l.length = w ∧ 0 < w ∧ l.all isV = true ∧ Vm n g (ts.take w) l ∧ w ≤ ts.length ∧ FvM n (off + w) r (ts.drop w)
 | _, _, _ => False
def FvH (n : Nat) : Nat → List FV → Prop
 | _, [] => True
 | off, .skip :: r => FvH n (off + 1) r
 | off, .sub fs path g :: r => path.sum = off ∧ Kc n g fs ∧ FvH n (off + 1) r
 | off, .agg l path w g :: r => path.sum = off ∧ l.length = w ∧ 0 < w ∧ Vk n g l ∧ FvH n (off + w) r
section fns
variable {β : Type}
def Na (p : Pr β) (tI : Nat) (x : AV) : List FV → AV → Ab → (KO β) → Option β
 | [], k, H, K => K k H
 | .skip :: r, k, H, K => Na p tI x r k H K
 | .sub _ path g :: r, k, H, K => Dp p path x fun t => p.load false 1 t H fun v => p.call tI (.fn g [] []) [v, k] H fun k H => Na p tI x r k H K
 | .agg _ path w g :: r, k, H, K => Dp p path x fun t => p.load true w t H fun v => p.call tI (.fn g [] []) [v, k] H fun k H => Na p tI x r k H K
def Mv (p : Pr β) (tI : Nat) (x : AV) (F : Ab → Option β) : List FV → AV → Ab → (KO β) → Option β
 | [], k, H, K => K k H
 | .skip :: r, k, H, K => Mv p tI x F r k H K
 | .sub _ path g :: r, k, H, K => Dp p path x fun t => p.load false 1 t H fun v => p.call tI (.fn g [] []) [v, k] H fun k H => p.bin .lss k (.sc (.int .i64 0)) fun b => p.cond b (F H) (Mv p tI x F r k H K)
 | .agg _ path w g :: r, k, H, K => Dp p path x fun t => p.load true w t H fun v => p.call tI (.fn g [] []) [v, k] H fun k H => p.bin .lss k (.sc (.int .i64 0)) fun b => p.cond b (F H) (Mv p tI x F r k H K)
variable {n : Nat} {res : Option β}
theorem Zm {t g : Nat} {n : Nat} {fs : List MF} (h : Jm n g t fs) (k : Int) (m : Nat) (cells : List AV) (M : Nat) : (A2 Ag E0.tp M t (Gf (.sub fs) k (.ro m cells)).1).1 = (A2 Ag E0.tp M t (.ro m cells)).1 := by
 obtain ⟨_, _, ⟨j1, j2, hj1, hj2⟩, _⟩ := h
 rw [Ma hj1 hj2]
 show (A2 Ag E0.tp M t (.ro m _)).1 = _
 rw [Ma hj1 hj2]
theorem Sa {ti : Nat → Option TI} {tp : Nat → Option (List Nat)} : ∀ (cs : List AV) (fs : List MF) (k : Int) (N : Nat) (ts : List Nat), fs.all isV = true → Jk fs cs → (Aj ti tp N ts (Ei fs k cs).1).1 = (Aj ti tp N ts cs).1
 | [], fs, k, N, ts, _, _ => by simp [Ei]
 | c :: cs, [], k, N, ts, _, hw => absurd rfl hw.1
 | c :: cs, f :: fs, k, N, ts, hv, hw => by
  obtain ⟨h1, h2⟩ := wfL_cons.1 hw
  rw [List.all_cons, Bool.and_eq_true] at hv
  have ih := Sa (ti := ti) (tp := tp) cs fs (Gf f k c).2 (N + G5 c) ts.tail hv.2 h2
  have hn := Uy c f k
  have e : (A2 ti tp N (ts.headD 0) (Gf f k c).1).1 = (A2 ti tp N (ts.headD 0) c).1 := by
   cases c with
   | sc v => cases f <;> first | rfl | (exfalso; simpa [isV] using hv.1)
   | ro m cells => cases f <;> first | rfl | exact h1.elim
   | _ => exact h1.elim
  show (A2 ti tp N (ts.headD 0) (Gf f k c).1).1 :: (Aj ti tp (N + (A2 ti tp N (ts.headD 0) (Gf f k c).1).2.length) ts.tail (Ei fs (Gf f k c).2 cs).1).1 = _ :: (Aj ti tp (N + (A2 ti tp N (ts.headD 0) c).2.length) ts.tail cs).1
  rw [Kl, Kl, e, hn, ih]
theorem Ub {tI idx : Nat} {ys : List AV} : ∀ (todo : List FV) (off : Nat) (Q R : List AV) (TP tR : List Nat) (k : Int) (A D : Ab) (K : KO β),
  FvM n off todo tR → TP.length = Q.length → Q.length = off → Jk (Co todo) R → 0 ≤ k → k + Dr (Co todo) R ≤ 4611686018427387904 →
  (Aj Ag E0.tp A.length (TP ++ tR) (Q ++ R)).1 = ys → D[idx]? = some ⟨ys, true, true⟩ →
  (∀ X, K (.sc (.int .i64 (Ei (Co todo) k R).2)) (A ++ ((Aj Ag E0.tp A.length (TP ++ tR) (Q ++ (Ei (Co todo) k R).1)).2 ++ (D ++ X))) = res) →
  Na (PR n β) tI (.ptr (A.length + Cy (Q ++ R) + idx) 0) todo (.sc (.int .i64 k)) (A ++ ((Aj Ag E0.tp A.length (TP ++ tR) (Q ++ R)).2 ++ D)) K = res
 | [], off, Q, R, TP, tR, k, A, D, K, hf, hT, hq, hw, h0, h1, hy, hD, h => by
  cases R with
  | nil =>
   have := h []
   rw [List.append_nil D] at this
   exact this
  | cons c R => exact absurd rfl hw.1
 | .skip :: todo, off, Q, R, TP, tR, k, A, D, K, hf, hT, hq, hw, h0, h1, hy, hD, h => by
  cases R with
  | nil => exact absurd (show MF.skip :: Co todo = [] from hw) (by simp)
  | cons c R =>
  cases tR with
  | nil => exact hf.elim
  | cons t tR =>
  obtain ⟨hwc, hwR⟩ := wfL_cons.1 (show Jk (MF.skip :: Co todo) (c :: R) from hw)
  obtain ⟨v, rfl⟩ : ∃ v, c = .sc v := by
   cases c <;> first | exact ⟨_, rfl⟩ | exact hwc.elim
  have e1 : Q ++ .sc v :: R = (Q ++ [.sc v]) ++ R := by simp
  have e2 : TP ++ t :: tR = (TP ++ [t]) ++ tR := by simp
  have h1 : k + (0 + Dr (Co todo) R : Nat) ≤ 4611686018427387904 := h1
  rw [e1, e2] at hy ⊢
  refine Ub todo (off + 1) (Q ++ [.sc v]) R (TP ++ [t]) tR k A D K hf (by simp [hT]) (by simp [hq]) hwR h0 (by omega) hy hD fun X => ?_
  have := h X
  rw [e2] at this
  simp only [List.append_assoc] at this ⊢
  exact this
 | .sub fs path g :: todo, off, Q, R, TP, tR, k, A, D, K, hf, hT, hq, hw, h0, h1, hy, hD, h => by
  cases R with
  | nil => exact absurd (show MF.sub fs :: Co todo = [] from hw) (by simp)
  | cons c R =>
  cases tR with
  | nil => exact hf.elim
  | cons t tR =>
  obtain ⟨hpath, hmk, hrest⟩ := hf
  obtain ⟨hwc, hwR⟩ := wfL_cons.1 (show Jk (MF.sub fs :: Co todo) (c :: R) from hw)
  obtain ⟨m, cells, rfl⟩ : ∃ m cells, c = .ro m cells := by
   cases c with
   | ro m cells => exact ⟨m, cells, rfl⟩
   | sc v => exact hwc.elim
   | _ => exact hwc.elim
  have h1 : k + (En (.sub fs) (.ro m cells) + Dr (Co todo) R : Nat) ≤ 4611686018427387904 := h1
  have hk' := Og (.ro m cells) (.sub fs) k
  have hn' := Uy (.ro m cells) (.sub fs) k
  have hs' := Zm hmk k m cells
  have hmk2 := hmk.2.2.2 m cells k hwc h0 (by omega)
  have hl : (Aj Ag E0.tp A.length TP Q).1.length = Q.length := D8 _ _ _
  have hsplit := fun (x : AV) => Oc (ti := Ag) (tp := E0.tp) TP tR t Q R x A.length hT
  rw [hsplit] at hy
  have hys : ys.drop off = (A2 Ag E0.tp (A.length + Cy Q) t (.ro m cells)).1 :: (Aj Ag E0.tp (A.length + Cy Q + G5 (.ro m cells)) tR R).1 := by
   rw [← hy, ← hq, ← hl, List.drop_append_of_le_length (Nat.le_refl _), List.drop_length, List.nil_append]
  have hlen : (Aj Ag E0.tp A.length (TP ++ t :: tR) (Q ++ .ro m cells :: R)).2.length = Cy (Q ++ .ro m cells :: R) := C6 _ _ _
  show (Dp (PR n β) path (.ptr (A.length + Cy (Q ++ .ro m cells :: R) + idx) 0) fun t => Bh false 1 t _ fun v => (PR n β).call tI (.fn g [] []) [v, .sc (.int .i64 k)] _ fun k H => Na (PR n β) tI _ todo k H K) = res
  rw [Ih, hpath, Nat.zero_add]
  have hget : (A ++ ((Aj Ag E0.tp A.length (TP ++ t :: tR) (Q ++ .ro m cells :: R)).2 ++ D))[A.length + Cy (Q ++ .ro m cells :: R) + idx]? = some ⟨ys, true, true⟩ := by
   rw [List.getElem?_append_right (by omega), List.getElem?_append_right (by omega), hlen]
   rw [show A.length + Cy (Q ++ .ro m cells :: R) + idx - A.length - Cy (Q ++ .ro m cells :: R) = idx by omega]
   exact hD
  have hld : An (A ++ ((Aj Ag E0.tp A.length (TP ++ t :: tR) (Q ++ .ro m cells :: R)).2 ++ D)) (A.length + Cy (Q ++ .ro m cells :: R) + idx) off 1 = some [(A2 Ag E0.tp (A.length + Cy Q) t (.ro m cells)).1] := by
   have hle : off + 1 ≤ ys.length := by
    have := congrArg List.length hys
    rw [List.length_drop, List.length_cons] at this
    omega
   simp only [An, hget, if_true, hle, hys]
   rfl
  rw [Zc hld, Aaa hmk.1 hmk.2.1]
  have e : ∀ (x : AV) (B : Ab), A ++ ((Aj Ag E0.tp A.length (TP ++ t :: tR) (Q ++ x :: R)).2 ++ B) = (A ++ (Aj Ag E0.tp A.length TP Q).2) ++ ((A2 Ag E0.tp (A.length + Cy Q) t x).2 ++ ((Aj Ag E0.tp (A.length + Cy Q + G5 x) tR R).2 ++ B)) := by
   intro x B
   simp only [hsplit, List.append_assoc]
  have hN : (A ++ (Aj Ag E0.tp A.length TP Q).2).length = A.length + Cy Q := by rw [List.length_append, C6]
  rw [e]
  have key := hmk2 β (A ++ (Aj Ag E0.tp A.length TP Q).2) ((Aj Ag E0.tp (A.length + Cy Q + G5 (.ro m cells)) tR R).2 ++ D) (fun k H => Na (PR n β) tI (.ptr (A.length + Cy (Q ++ .ro m cells :: R) + idx) 0) todo k H K) res
  rw [hN] at key
  refine key fun X => ?_
  generalize hc' : (Gf (.sub fs) k (.ro m cells)).1 = c' at hn' hs' h ⊢
  have e1 : ∀ (Y : List AV), Q ++ c' :: Y = (Q ++ [c']) ++ Y := fun Y => by simp
  have e2 : TP ++ t :: tR = (TP ++ [t]) ++ tR := by simp
  have e3 : Cy (Q ++ .ro m cells :: R) = Cy ((Q ++ [c']) ++ R) := by
   rw [Fp, Fp, Fp]
   show Cy Q + (G5 (.ro m cells) + Cy R) = Cy Q + (G5 c' + 0) + Cy R
   rw [hn']
   omega
  have e4 := e c' (D ++ X)
  rw [hn'] at e4
  rw [List.append_assoc (Aj Ag E0.tp (A.length + Cy Q + G5 (.ro m cells)) tR R).2 D X, ← e4, e3, e2, e1 R]
  refine Ub (tI := tI) (idx := idx) (ys := ys) todo (off + 1) (Q ++ [c']) R (TP ++ [t]) tR (Gf (.sub fs) k (.ro m cells)).2 A (D ++ X) K hrest (by simp [hT]) (by simp [hq]) hwR (by omega) (by omega) ?_ ?_ fun Y => ?_
  ·rw [← e1, ← e2, hsplit, hs', hn', hy]
  ·rw [List.getElem?_append_left (List.getElem?_eq_some_iff.1 hD).1]
   exact hD
  ·have := h (X ++ Y)
   have hm : Ei (Co (.sub fs path g :: todo)) k (.ro m cells :: R) = (c' :: (Ei (Co todo) (Gf (.sub fs) k (.ro m cells)).2 R).1, (Ei (Co todo) (Gf (.sub fs) k (.ro m cells)).2 R).2) := by rw [← hc']; rfl
   rw [hm, e2, e1] at this
   rw [List.append_assoc D X Y]
   exact this
 | .agg l path w g :: todo, off, Q, R, TP, tR, k, A, D, K, hf, hT, hq, hw, h0, h1, hy, hD, h => by
  obtain ⟨hpath, hlw, hw0, hlv, hmk, hwt, hrest⟩ := hf
  have hRlen : w ≤ R.length := by
   have := Jl (show Jk (l ++ Co todo) R from hw)
   rw [List.length_append] at this
   omega
  obtain ⟨c, R, rfl, hcl⟩ : ∃ c R', R = c ++ R' ∧ c.length = w := ⟨R.take w, R.drop w, (List.take_append_drop w R).symm, by rw [List.length_take]; omega⟩
  obtain ⟨t, tR, rfl, htl⟩ : ∃ c R', tR = c ++ R' ∧ c.length = w := ⟨tR.take w, tR.drop w, (List.take_append_drop w tR).symm, by rw [List.length_take]; omega⟩
  rw [List.take_left' htl] at hmk
  rw [List.drop_left' htl] at hrest
  have hlc : l.length = c.length := by rw [hlw, hcl]
  obtain ⟨hwc, hwR⟩ := (Hp hlc).1 (show Jk (l ++ Co todo) (c ++ R) from hw)
  have h1 : k + (Dr l c + Dr (Co todo) R : Nat) ≤ 4611686018427387904 := by
   have := Gz l (Co todo) c R hlc
   rw [← this]
   exact h1
  have hk' := Jg c l k
  have hn' := Fo c l k
  have hl' := Mf c l k
  have hs' := fun N => Sa (ti := Ag) (tp := E0.tp) c l k N t hlv hwc
  have hl : (Aj Ag E0.tp A.length TP Q).1.length = Q.length := D8 _ _ _
  have hsplit : ∀ x : List AV, x.length = c.length → Aj Ag E0.tp A.length (TP ++ (t ++ tR)) (Q ++ (x ++ R)) = ((Aj Ag E0.tp A.length TP Q).1 ++ ((Aj Ag E0.tp (A.length + Cy Q) t x).1 ++ (Aj Ag E0.tp (A.length + Cy Q + Cy x) tR R).1), (Aj Ag E0.tp A.length TP Q).2 ++ ((Aj Ag E0.tp (A.length + Cy Q) t x).2 ++ (Aj Ag E0.tp (A.length + Cy Q + Cy x) tR R).2)) := by
   intro x hx
   rw [Fm TP Q (t ++ tR) (x ++ R) _ hT, C6, Fm t x tR R _ (by rw [htl, hx, hcl]), C6]
  rw [hsplit c rfl] at hy
  have hil : (Aj Ag E0.tp (A.length + Cy Q) t c).1.length = w := by rw [D8, hcl]
  have hys : ys.drop off = (Aj Ag E0.tp (A.length + Cy Q) t c).1 ++ (Aj Ag E0.tp (A.length + Cy Q + Cy c) tR R).1 := by
   rw [← hy, ← hq, ← hl, List.drop_append_of_le_length (Nat.le_refl _), List.drop_length, List.nil_append]
  have hlen : (Aj Ag E0.tp A.length (TP ++ (t ++ tR)) (Q ++ (c ++ R))).2.length = Cy (Q ++ (c ++ R)) := C6 _ _ _
  show (Dp (PR n β) path (.ptr (A.length + Cy (Q ++ (c ++ R)) + idx) 0) fun t => Bh true w t _ fun v => (PR n β).call tI (.fn g [] []) [v, .sc (.int .i64 k)] _ fun k H => Na (PR n β) tI _ todo k H K) = res
  rw [Ih, hpath, Nat.zero_add]
  have hget : (A ++ ((Aj Ag E0.tp A.length (TP ++ (t ++ tR)) (Q ++ (c ++ R))).2 ++ D))[A.length + Cy (Q ++ (c ++ R)) + idx]? = some ⟨ys, true, true⟩ := by
   rw [List.getElem?_append_right (by omega), List.getElem?_append_right (by omega), hlen]
   rw [show A.length + Cy (Q ++ (c ++ R)) + idx - A.length - Cy (Q ++ (c ++ R)) = idx by omega]
   exact hD
  have hld : An (A ++ ((Aj Ag E0.tp A.length (TP ++ (t ++ tR)) (Q ++ (c ++ R))).2 ++ D)) (A.length + Cy (Q ++ (c ++ R)) + idx) off w = some (Aj Ag E0.tp (A.length + Cy Q) t c).1 := by
   have hle : off + w ≤ ys.length := by
    have := congrArg List.length hys
    rw [List.length_drop, List.length_append, hil] at this
    omega
   simp only [An, hget, if_true, hle, hys]
   rw [List.take_left' hil]
  rw [ldT hld, Aaa hmk.1 hmk.2.1]
  have e : ∀ (x : List AV) (B : Ab), x.length = c.length → A ++ ((Aj Ag E0.tp A.length (TP ++ (t ++ tR)) (Q ++ (x ++ R))).2 ++ B) = (A ++ (Aj Ag E0.tp A.length TP Q).2) ++ ((Aj Ag E0.tp (A.length + Cy Q) t x).2 ++ ((Aj Ag E0.tp (A.length + Cy Q + Cy x) tR R).2 ++ B)) := by
   intro x B hx
   simp only [hsplit x hx, List.append_assoc]
  have hN : (A ++ (Aj Ag E0.tp A.length TP Q).2).length = A.length + Cy Q := by rw [List.length_append, C6]
  rw [e c _ rfl]
  have key := hmk.2.2 c k β (A ++ (Aj Ag E0.tp A.length TP Q).2) ((Aj Ag E0.tp (A.length + Cy Q + Cy c) tR R).2 ++ D) (fun k H => Na (PR n β) tI (.ptr (A.length + Cy (Q ++ (c ++ R)) + idx) 0) todo k H K) res hwc h0 (by omega)
  rw [hN] at key
  refine key fun X => ?_
  have hm : Ei (Co (.agg l path w g :: todo)) k (c ++ R) = ((Ei l k c).1 ++ (Ei (Co todo) (Ei l k c).2 R).1, (Ei (Co todo) (Ei l k c).2 R).2) := Is l (Co todo) k c R hlc
  generalize hc' : (Ei l k c).1 = c' at hn' hl' hs' hm ⊢
  have e1 : ∀ (Y : List AV), Q ++ (c' ++ Y) = (Q ++ c') ++ Y := fun Y => by simp
  have e2 : TP ++ (t ++ tR) = (TP ++ t) ++ tR := by simp
  have e3 : Cy (Q ++ (c ++ R)) = Cy ((Q ++ c') ++ R) := by
   rw [Fp, Fp, Fp, Fp, hn']
   omega
  have e4 := e c' (D ++ X) hl'
  rw [hn'] at e4
  rw [List.append_assoc (Aj Ag E0.tp (A.length + Cy Q + Cy c) tR R).2 D X, ← e4, e3, e2, e1 R]
  refine Ub (tI := tI) (idx := idx) (ys := ys) todo (off + w) (Q ++ c') R (TP ++ t) tR (Ei l k c).2 A (D ++ X) K hrest (by simp [hT, htl, hl', hcl]) (by simp [hq, hl', hcl]) hwR (by omega) (by omega) ?_ ?_ fun Y => ?_
  ·rw [← e1, ← e2, hsplit _ hl', hs', hn', hy]
  ·rw [List.getElem?_append_left (List.getElem?_eq_some_iff.1 hD).1]
   exact hD
  ·have := h (X ++ Y)
   rw [hm, e2, e1] at this
   rw [List.append_assoc D X Y]
   exact this
theorem Wi {tI f : Nat} {cty : List Nat} {fvs : List FV} (hh : E0.hm f = true) (hx : E0.ext f = none) (hf : FvM n 0 fvs cty) (hv : (Co fvs).all isV = true) (hlf : ∀ (cs : List AV) (N : Nat), Jk (Co fvs) cs → (Aj Ag E0.tp N cty cs).1.all A4 = true)
  (hF : ∀ β a b H kk, Cz E0 (n + 1) β f [a, b] H kk = Sf a H fun x H => Na (PR n β) tI x fvs b H kk) : Vm (n + 1) f cty (Co fvs) := by
 refine ⟨hh, hx, fun cs k β A C K r hw h0 hb h => ?_⟩
 rw [hF]
 have hc : Bz (.agg (Aj Ag E0.tp A.length cty cs).1) = some (Aj Ag E0.tp A.length cty cs).1 := by
  show (if _ then _ else none) = _
  rw [if_pos (hlf cs _ hw)]
 simp only [Sf, hc, Option.bind_some, K4]
 have hlen : (Aj Ag E0.tp A.length cty cs).2.length = Cy cs := C6 _ _ _
 have e1 : (A ++ ((Aj Ag E0.tp A.length cty cs).2 ++ C)).length = A.length + Cy ([] ++ cs) + C.length := by
  simp only [List.length_append, hlen, List.nil_append]
  omega
 rw [e1]
 have e2 : A ++ ((Aj Ag E0.tp A.length cty cs).2 ++ C) ++ [⟨(Aj Ag E0.tp A.length cty cs).1, true, true⟩] = A ++ ((Aj Ag E0.tp A.length ([] ++ cty) ([] ++ cs)).2 ++ (C ++ [⟨(Aj Ag E0.tp A.length cty cs).1, true, true⟩])) := by simp
 rw [e2]
 refine Ub fvs 0 [] cs [] cty k A _ K hf rfl rfl hw h0 hb rfl (by rw [List.getElem?_append_right (Nat.le_refl _), Nat.sub_self]; rfl) fun X => ?_
 have := h ([⟨(Aj Ag E0.tp A.length cty cs).1, true, true⟩] ++ X)
 simp only [List.append_assoc, List.nil_append] at this ⊢
 exact this
theorem Qk {tI : Nat} {F : Ab → Option β} (cells : List AV) (hfl : cells.all E6 = true) : ∀ (todo : List FV) (off : Nat) (Q R : List AV) (k : Int) (H : Ab) (K : KO β),
  FvH n off todo → Q.length = off → Jk (Co todo) R → 0 ≤ k → k + Dr (Co todo) R ≤ 4611686018427387904 → cells = Q ++ (Ei (Co todo) k R).1 → H[0]? = some ⟨cells, true, true⟩ →
  (∀ X, K (.sc (.int .i64 (Ei (Co todo) k R).2)) (H ++ X) = res) →
  Mv (PR n β) tI (.ptr 0 0) F todo (.sc (.int .i64 k)) H K = res
 | [], off, Q, R, k, H, K, hf, hq, hw, h0, h1, hc, hH, h => by
  cases R with
  | nil =>
   have := h []
   rw [List.append_nil H] at this
   exact this
  | cons c R => exact absurd rfl hw.1
 | .skip :: todo, off, Q, R, k, H, K, hf, hq, hw, h0, h1, hc, hH, h => by
  cases R with
  | nil => exact absurd (show MF.skip :: Co todo = [] from hw) (by simp)
  | cons c R =>
  obtain ⟨hwc, hwR⟩ := wfL_cons.1 (show Jk (MF.skip :: Co todo) (c :: R) from hw)
  obtain ⟨v, rfl⟩ : ∃ v, c = .sc v := by
   cases c <;> first | exact ⟨_, rfl⟩ | exact hwc.elim
  have h1 : k + (0 + Dr (Co todo) R : Nat) ≤ 4611686018427387904 := h1
  exact Qk cells hfl todo (off + 1) (Q ++ [.sc v]) R k H K hf (by simp [hq]) hwR h0 (by omega) (by rw [List.append_assoc]; exact hc) hH h
 | .sub fs path g :: todo, off, Q, R, k, H, K, hf, hq, hw, h0, h1, hc, hH, h => by
  cases R with
  | nil => exact absurd (show MF.sub fs :: Co todo = [] from hw) (by simp)
  | cons c R =>
  obtain ⟨hpath, hhe, hrest⟩ := hf
  obtain ⟨hwc, hwR⟩ := wfL_cons.1 (show Jk (MF.sub fs :: Co todo) (c :: R) from hw)
  obtain ⟨m, cs, rfl⟩ : ∃ m cells, c = .ro m cells := by
   cases c with
   | ro m cells => exact ⟨m, cells, rfl⟩
   | sc v => exact hwc.elim
   | _ => exact hwc.elim
  have h1 : k + (En (.sub fs) (.ro m cs) + Dr (Co todo) R : Nat) ≤ 4611686018427387904 := h1
  have hk' := Og (.ro m cs) (.sub fs) k
  have hm : Ei (Co (.sub fs path g :: todo)) k (.ro m cs :: R) = ((Gf (.sub fs) k (.ro m cs)).1 :: (Ei (Co todo) (Gf (.sub fs) k (.ro m cs)).2 R).1, (Ei (Co todo) (Gf (.sub fs) k (.ro m cs)).2 R).2) := rfl
  rw [hm] at hc h
  have hld : An H 0 off 1 = some [(Gf (.sub fs) k (.ro m cs)).1] := by
   have hle : off + 1 ≤ cells.length := by
    rw [hc, List.length_append, List.length_cons]
    omega
   have hd : (cells.drop off).take 1 = [(Gf (.sub fs) k (.ro m cs)).1] := by
    rw [hc, ← hq, List.drop_append_of_le_length (Nat.le_refl _), List.drop_length]
    rfl
   simp only [An, hH, if_true, hle, hd]
  show (Dp (PR n β) path (.ptr 0 0) fun t => Bh false 1 t H fun v => (PR n β).call tI (.fn g [] []) [v, .sc (.int .i64 k)] H fun k H => Bn .lss k (.sc (.int .i64 0)) fun b => Cb b (F H) (Mv (PR n β) tI _ F todo k H K)) = res
  rw [Ih, hpath, Nat.zero_add, Zc hld, Dd (vs := [(Gf (.sub fs) k (.ro m cs)).1, .sc (.int .i64 k)]) hhe.1 rfl (hhe.2 tI m cs k hwc h0 (by omega)), Dk, List.append_nil]
  simp only
  rw [H5, Bl, if_neg (by simp; omega)]
  exact Qk cells hfl todo (off + 1) (Q ++ [(Gf (.sub fs) k (.ro m cs)).1]) R _ H K hrest (by simp [hq]) hwR (by omega) (by omega) (by rw [List.append_assoc]; exact hc) hH h
 | .agg l path w g :: todo, off, Q, R, k, H, K, hf, hq, hw, h0, h1, hc, hH, h => by
  obtain ⟨hpath, hlw, hw0, hhe, hrest⟩ := hf
  have hRlen : w ≤ R.length := by
   have := Jl (show Jk (l ++ Co todo) R from hw)
   rw [List.length_append] at this
   omega
  obtain ⟨c, R, rfl, hcl⟩ : ∃ c R', R = c ++ R' ∧ c.length = w := ⟨R.take w, R.drop w, (List.take_append_drop w R).symm, by rw [List.length_take]; omega⟩
  have hlc : l.length = c.length := by rw [hlw, hcl]
  obtain ⟨hwc, hwR⟩ := (Hp hlc).1 (show Jk (l ++ Co todo) (c ++ R) from hw)
  have h1 : k + (Dr l c + Dr (Co todo) R : Nat) ≤ 4611686018427387904 := by
   have := Gz l (Co todo) c R hlc
   rw [← this]
   exact h1
  have hk' := Jg c l k
  have hl' := Mf c l k
  have hm : Ei (Co (.agg l path w g :: todo)) k (c ++ R) = ((Ei l k c).1 ++ (Ei (Co todo) (Ei l k c).2 R).1, (Ei (Co todo) (Ei l k c).2 R).2) := Is l (Co todo) k c R hlc
  rw [hm] at hc h
  have hd : (cells.drop off).take w = (Ei l k c).1 := by
   rw [hc, ← hq, List.drop_append_of_le_length (Nat.le_refl _), List.drop_length, List.nil_append, List.take_left' (by rw [hl', hcl])]
  have hld : An H 0 off w = some (Ei l k c).1 := by
   have hle : off + w ≤ cells.length := by
    rw [hc, List.length_append, List.length_append, hl', hcl]
    omega
   simp only [An, hH, if_true, hle, hd]
  have hfc : (Ei l k c).1.all E6 = true := by
   rw [hc, List.all_append, List.all_append, Bool.and_eq_true, Bool.and_eq_true] at hfl
   exact hfl.2.1
  show (Dp (PR n β) path (.ptr 0 0) fun t => Bh true w t H fun v => (PR n β).call tI (.fn g [] []) [v, .sc (.int .i64 k)] H fun k H => Bn .lss k (.sc (.int .i64 0)) fun b => Cb b (F H) (Mv (PR n β) tI _ F todo k H K)) = res
  rw [Ih, hpath, Nat.zero_add, ldT hld, Dd (vs := [.agg (Ei l k c).1, .sc (.int .i64 k)]) hhe.1 (A8 (E2 _ hfc) (A8 (Cr _ _) Dc)) (hhe.2 tI c k hwc h0 (by omega)), Dk, List.append_nil]
  simp only
  rw [H5, Bl, if_neg (by simp; omega)]
  exact Qk cells hfl todo (off + w) (Q ++ (Ei l k c).1) R _ H K hrest (by simp [hq, hl', hcl]) hwR (by omega) (by omega) (by rw [List.append_assoc]; exact hc) hH h
theorem Aff : ∀ (cs : List AV) (fs : List MF) (k : Int), Jk fs cs → fs.all isV = true → (Ei fs k cs).1.all E6 = true
 | [], fs, k, _, _ => by simp [Ei]
 | c :: cs, [], k, hw, _ => absurd rfl hw.1
 | c :: cs, f :: fs, k, hw, hv => by
  obtain ⟨h1, h2⟩ := wfL_cons.1 hw
  rw [List.all_cons, Bool.and_eq_true] at hv
  rw [R9, List.all_cons, Aff cs fs _ h2 hv.2, Bool.and_true]
  cases c with
  | sc v => cases f <;> first | exact h1 | (exfalso; simpa [isV] using hv.1) | exact h1.elim
  | ro m cells => cases f <;> first | rfl | exact h1.elim
  | _ => exact h1.elim
theorem Wc {tI f : Nat} {fvs : List FV} (hh : Cw f = false) (hf : FvH n 0 fvs) (hv : (Co fvs).all isV = true)
  (hF : ∀ a b H kk, Cz E0 (n + 1) AV f [a, b] H kk = Sf a H fun x H => Mv (PR n AV) tI x (fun H => kk (.sc (.int .i64 (-1))) H) fvs b H kk) : Vk (n + 1) f (Co fvs) := by
 refine ⟨hh, fun ty cs k hw h0 hb => ?_⟩
 have hfl := Aff cs (Co fvs) k hw hv
 rw [Ax, hF, E3 _ _ _ hfl]
 exact Qk (Ei (Co fvs) k cs).1 hfl fvs 0 [] cs k _ _ hf rfl hw h0 hb rfl rfl (fun X => rfl)
end fns
end
section
open Go
def AtT (H : Ab) (y : AV) (N ty : Nat) (t : AV) : Prop := y = (A2 Ag E0.tp N ty t).1 ∧ N + G5 t ≤ H.length ∧ Lies H N (A2 Ag E0.tp N ty t).2
def AtL (H : Ab) (ys : List AV) (N : Nat) (ts : List Nat) (cs : List AV) : Prop := ys = (Aj Ag E0.tp N ts cs).1 ∧ N + Cy cs ≤ H.length ∧ Lies H N (Aj Ag E0.tp N ts cs).2
def Vl (H H' : Ab) (N m : Nat) : Prop := H.length ≤ H'.length ∧ ∀ (i : Nat) b, H[i]? = some b → (i < N ∨ N + m ≤ i) → H'[i]? = some b
theorem Lies.grow {H : Ab} {N : Nat} {B : List Fz} (h : Lies H N B) (X : List Fz) : Lies (H ++ X) N B := fun j b hj => by
 have := h j b hj
 rw [List.getElem?_append_left (List.getElem?_eq_some_iff.1 this).1]
 exact this
theorem Lies.kept {H H' : Ab} {N M m : Nat} {B : List Fz} (h : Lies H N B) (k : Vl H H' M m) (hd : N + B.length ≤ M ∨ M + m ≤ N) : Lies H' N B := fun j b hj => by
 have hlt := (List.getElem?_eq_some_iff.1 hj).1
 exact k.2 _ b (h j b hj) (by omega)
theorem AtT.grow {H : Ab} {y : AV} {N ty : Nat} {t : AV} (h : AtT H y N ty t) (X : List Fz) : AtT (H ++ X) y N ty t := ⟨h.1, by rw [List.length_append]; have := h.2.1; omega, h.2.2.grow X⟩
theorem AtL.grow {H : Ab} {ys : List AV} {N : Nat} {ts : List Nat} {cs : List AV} (h : AtL H ys N ts cs) (X : List Fz) : AtL (H ++ X) ys N ts cs := ⟨h.1, by rw [List.length_append]; have := h.2.1; omega, h.2.2.grow X⟩
theorem AtT.kept {H H' : Ab} {y : AV} {N ty M m : Nat} {t : AV} (h : AtT H y N ty t) (k : Vl H H' M m) (hd : N + G5 t ≤ M ∨ M + m ≤ N) : AtT H' y N ty t := ⟨h.1, Nat.le_trans h.2.1 k.1, h.2.2.kept k (by rw [Kl]; exact hd)⟩
theorem AtL.kept {H H' : Ab} {ys : List AV} {N M m : Nat} {ts : List Nat} {cs : List AV} (h : AtL H ys N ts cs) (k : Vl H H' M m) (hd : N + Cy cs ≤ M ∨ M + m ≤ N) : AtL H' ys N ts cs := ⟨h.1, Nat.le_trans h.2.1 k.1, h.2.2.kept k (by rw [C6]; exact hd)⟩
theorem Bs {H H' : Ab} {i M m : Nat} {b : Fz} (h : H[i]? = some b) (k : Vl H H' M m) (hd : i < M ∨ M + m ≤ i) : H'[i]? = some b := k.2 i b h hd
theorem AtL.cons {H : Ab} {ys : List AV} {N t : Nat} {ts : List Nat} {c : AV} {cs : List AV} (h : AtL H ys N (t :: ts) (c :: cs)) : ∃ y ys', ys = y :: ys' ∧ AtT H y N t c ∧ AtL H ys' (N + G5 c) ts cs := by
 obtain ⟨h1, h2, h3⟩ := h
 have h2 : N + (G5 c + Cy cs) ≤ H.length := h2
 have e : Aj Ag E0.tp N (t :: ts) (c :: cs) = ((A2 Ag E0.tp N t c).1 :: (Aj Ag E0.tp (N + G5 c) ts cs).1, (A2 Ag E0.tp N t c).2 ++ (Aj Ag E0.tp (N + G5 c) ts cs).2) := by
  rw [Aj, Kl]
  rfl
 rw [e] at h1 h3
 refine ⟨_, _, h1, ⟨rfl, by omega, h3.left⟩, ⟨rfl, by omega, ?_⟩⟩
 have := h3.right
 rwa [Kl] at this
theorem AtL.nil {H : Ab} {ys : List AV} {N : Nat} {ts : List Nat} (h : AtL H ys N ts []) : ys = [] := h.1
theorem AtT.sc {H : Ab} {y : AV} {N ty : Nat} {v : Value} (h : AtT H y N ty (.sc v)) : y = .sc v := h.1
theorem AtT.agg {H : Ab} {y : AV} {N ty : Nat} {cs : List AV} {cty : List Nat} (h : AtT H y N ty (.agg cs)) (hty : ∃ i, Ag ty = some i ∧ i.cty = cty) : ∃ ys, y = .agg ys ∧ AtL H ys N cty cs := by
 obtain ⟨i, hi, rfl⟩ := hty
 obtain ⟨h1, h2, h3⟩ := h
 rw [Gg, hi, Option.getD_some] at h1 h3
 exact ⟨_, h1, rfl, h2, h3⟩
theorem AtT.vw {H : Ab} {y : AV} {N ty : Nat} {t : AV} (h : AtT H y N ty t) (hok : F7 Ag E0.tp 8 ty t) : Vw H y t := fun X => by
 rw [h.1]
 exact Ps 8 ty t N (Lo 8 ty t hok) (h.2.2.grow X)
theorem AtL.vw {H : Ab} {ys : List AV} {N : Nat} {ts : List Nat} {cs : List AV} (h : AtL H ys N ts cs) (hok : Ed (F7 Ag E0.tp 7) ts cs) : Vw H (.agg ys) (.agg cs) := fun X => by
 rw [h.1, Ka, M7 (fun ty t N => Ps 7 ty t N) cs ts N (Lm (Lo 7) hok) (h.2.2.grow X)]
 rfl
theorem AtL.leaf {H : Ab} {ys : List AV} {N : Nat} {ts : List Nat} {cs : List AV} (h : AtL H ys N ts cs) (hf : cs.all E6 = true) : ys.all A4 = true := by
 rw [h.1]
 exact F8 _ _ _ hf
theorem AtL.len {H : Ab} {ys : List AV} {N : Nat} {ts : List Nat} {cs : List AV} (h : AtL H ys N ts cs) : ys.length = cs.length := by rw [h.1, D8]
theorem U0 {d : Nat} (hd : ∀ ty x f k, F7 Ag E0.tp d ty x → F7 Ag E0.tp d ty (Gf f k x).1) : ∀ (cs : List AV) (ts : List Nat) (fs : List MF) (k : Int), Ed (F7 Ag E0.tp d) ts cs → Ed (F7 Ag E0.tp d) ts (Ei fs k cs).1
 | [], ts, fs, k, h => by simpa [Ei] using h
 | c :: cs, [], fs, k, h => h.elim
 | c :: cs, t :: ts, fs, k, h => ⟨hd _ _ _ _ h.1, U0 hd cs ts fs.tail _ h.2⟩
theorem Afk : ∀ (d ty : Nat) (x : AV) (f : MF) (k : Int), F7 Ag E0.tp d ty x → F7 Ag E0.tp d ty (Gf f k x).1
 | 0, _, _, _, _, h => h
 | d + 1, ty, x, f, k, h => by
  cases x with
  | sc v => cases f <;> trivial
  | ro n cells =>
   cases f with
   | sub fs =>
    obtain ⟨i, j, h1, h2, h3, h4⟩ := h
    exact ⟨i, j, h1, h2, by rw [Mf]; exact h3, U0 (Afk d) _ _ _ _ h4⟩
   | _ => exact h
  | _ => exact h
theorem Oj {cs : List AV} {ts : List Nat} (fs : List MF) (k : Int) (h : Ed (F7 Ag E0.tp 7) ts cs) : Ed (F7 Ag E0.tp 7) ts (Ei fs k cs).1 := U0 (Afk 7) cs ts fs k h
section steps
variable {β : Type} {n : Nat} {H : Ab} {r : Option β}
theorem Zg {ty f : Nat} {args vs cs : List AV} {ts : List Nat} {K : KO β} (hh : Cw f = false) (hv : args.mapM (B8 H 8) = some vs) (ht : Bt E0 n ty f vs = some (.tup cs)) (hts : E0.tp ty = some ts) (h : ∀ ys X N, N = H.length → AtL (H ++ X) ys N ts cs → K (.tup ys) (H ++ X) = r) : (PR n β).call ty (.fn f [] []) args H (fun x H => K x H) = r := by
 rw [Dd hh hv ht, Tn, hts, Option.getD_some]
 exact h _ _ _ rfl ⟨rfl, by rw [List.length_append, C6]; exact Nat.le_refl _, Js _ _⟩
theorem Uw {ty f : Nat} {args vs cs : List AV} {cty : List Nat} {K : KO β} (hh : Cw f = false) (hv : args.mapM (B8 H 8) = some vs) (ht : Bt E0 n ty f vs = some (.agg cs)) (hty : ∃ i, Ag ty = some i ∧ i.cty = cty) (h : ∀ ys X N, N = H.length → AtL (H ++ X) ys N cty cs → K (.agg ys) (H ++ X) = r) : (PR n β).call ty (.fn f [] []) args H (fun x H => K x H) = r := by
 obtain ⟨i, hi, rfl⟩ := hty
 rw [Dd hh hv ht, Gg, hi, Option.getD_some]
 exact h _ _ _ rfl ⟨rfl, by rw [List.length_append, C6]; exact Nat.le_refl _, Js _ _⟩
theorem AjA {w : Nat} {z ys : List AV} {K : KO β} (hz : z.length = w) (hy : ys.length = w) (hl : ys.all A4 = true) (h : ∀ i, i = H.length → (H ++ [⟨ys, true, true⟩])[i]? = some ⟨ys, true, true⟩ → K (.ptr i 0) (H ++ [⟨ys, true, true⟩]) = r) :
  K4 z H (fun t H => C2 w t (.agg ys) H fun H => K t H) = r := by
 have hg : (H ++ [(⟨z, true, true⟩ : Fz)])[H.length]? = some ⟨z, true, true⟩ := Jn H _ []
 have hc : Bz (.agg ys) = some ys := by
  show (if ys.all A4 then some ys else none) = _
  rw [if_pos hl]
 show C2 w (.ptr H.length 0) (.agg ys) (H ++ [⟨z, true, true⟩]) _ = r
 rw [He w H.length 0 _ ⟨z, true, true⟩ ys _ _ hg hc hy (by rw [hz]; omega) rfl]
 have hs : Ch z 0 ys = ys := by
  unfold Ch
  rw [List.take_zero, List.nil_append, List.drop_of_length_le (by rw [hz, hy]; omega), List.append_nil]
 simp only [hs, Zs]
 exact h _ rfl (Jn H _ [])
theorem AiR {N : Nat} {B : List Fz} (h1 : N + B.length ≤ H.length) (h2 : Lies H N B) : ∃ A C : Ab, A.length = N ∧ H = A ++ (B ++ C) := by
 refine ⟨H.take N, H.drop (N + B.length), by rw [List.length_take]; omega, ?_⟩
 have e : (H.drop N).take B.length = B := by
  apply List.ext_getElem?
  intro j
  by_cases hj : j < B.length
  ·rw [List.getElem?_take_of_lt hj, List.getElem?_drop]
   have hb : B[j]? = some (B[j]) := List.getElem?_eq_getElem hj
   rw [hb, h2 j _ hb]
  ·rw [List.getElem?_eq_none (by rw [List.length_take]; omega), List.getElem?_eq_none (by omega)]
 conv => lhs; rw [← List.take_append_drop N H, ← List.take_append_drop B.length (H.drop N), e, List.drop_drop]
theorem Ahl {A B B' C X : Ab} (hl : B'.length = B.length) : Vl (A ++ (B ++ C)) (A ++ (B' ++ (C ++ X))) A.length B.length := by
 refine ⟨by simp only [List.length_append, hl]; omega, fun i b h hd => ?_⟩
 rcases hd with hd | hd
 ·rw [List.getElem?_append_left hd] at h ⊢
  exact h
 ·rw [List.getElem?_append_right (by omega), List.getElem?_append_right (by omega)] at h ⊢
  rw [hl, List.getElem?_append_left (List.getElem?_eq_some_iff.1 h).1]
  exact h
theorem R5 {tI g N : Nat} {cty : List Nat} {fs : List MF} {cs ys : List AV} {k : Int} {K : KO β} (hmk : Vm n g cty fs) (hv : fs.all isV = true) (ha : AtL H ys N cty cs) (hw : Jk fs cs) (h0 : 0 ≤ k) (hb : k + Dr fs cs ≤ 4611686018427387904)
  (h : ∀ H', AtL H' ys N cty (Ei fs k cs).1 → Vl H H' N (Cy cs) → K (.sc (.int .i64 (k + Dr fs cs))) H' = r) : (PR n β).call tI (.fn g [] []) [.agg ys, .sc (.int .i64 k)] H (fun x H => K x H) = r := by
 obtain ⟨rfl, h2, h3⟩ := ha
 have hnb : ∀ M, (Aj Ag E0.tp M cty cs).2.length = Cy cs := fun M => C6 _ _ _
 obtain ⟨A, C, rfl, rfl⟩ := AiR (by rw [hnb]; exact h2) h3
 rw [Aaa hmk.1 hmk.2.1]
 refine hmk.2.2 cs k β A C _ r hw h0 hb fun X => ?_
 rw [Jg]
 have hl : (Aj Ag E0.tp A.length cty (Ei fs k cs).1).2.length = (Aj Ag E0.tp A.length cty cs).2.length := by rw [C6, C6, Fo]
 refine h _ ⟨(Sa cs fs k A.length cty hv hw).symm, ?_, ?_⟩ ?_
 ·rw [Fo]
  simp only [List.length_append, C6, Fo]
  omega
 ·have := T8 A (Aj Ag E0.tp A.length cty (Ei fs k cs).1).2 (C ++ X)
  rwa [List.append_assoc] at this
 ·rw [← hnb A.length]
  exact Ahl hl
theorem Of {tI g : Nat} {fs : List MF} {cs : List AV} {y : AV} {k : Int} {K : KO β} (hhe : Vk n g fs) (hv : Vw H y (.agg (Ei fs k cs).1)) (hw : Jk fs cs) (h0 : 0 ≤ k) (hb : k + Dr fs cs ≤ 4611686018427387904)
  {F : Ab → Option β} (h : K (.sc (.int .i64 (k + Dr fs cs))) H = r) : (PR n β).call tI (.fn g [] []) [y, .sc (.int .i64 k)] H (fun t H => Bn .lss t (.sc (.int .i64 0)) fun t' => Cb t' (F H) (K t H)) = r := by
 refine Dv hhe.1 (A8 hv (A8 (Cr _ _) Dc)) (hhe.2 tI cs k hw h0 hb) ?_
 rw [Jg, H5, Bl, if_neg (by simp; omega)]
 exact h
theorem Ft {m : (KO β) → Option β} {k : KO β} (h : m k = r) : Gw (.sc (.bool false)) false H m k = r := h
theorem R6 {v : Value} {K : AV → Option β} (h : K (.sc v) = r) : Mr (.sc (.bool false)) (.sc (.bool true)) (.sc v) (fun t => K t) = r := h
theorem M2 {b : Bool} {K : AV → Option β} (h : K (.sc (.bool (!b))) = r) : pUn .not (.sc (.bool b)) (fun t => K t) = r := h
theorem Ts {A K : Option β} (h : K = r) : Cb (.sc (.bool false)) A K = r := h
theorem R4 {ty f : Nat} {args vs : List AV} {K : KO β} (hh : Cw f = false) (hv : args.mapM (B8 H 8) = some vs) (ht : Bt E0 n ty f vs = some (.sc (.bool true))) (h : K (.sc (.bool true)) H = r) : (PR n β).call ty (.fn f [] []) args H (fun t H => K t H) = r := Dv hh hv ht h
theorem Zf {b : Bool} {K : AV → Option β} (h : K (.sc (.bool false)) = r) : Lt .neq (.sc (.bool b)) (.sc (.bool b)) (fun t => K t) = r := by
 rw [AkE]
 cases b <;> exact h
theorem Afb {z : Int} {K : AV → Option β} (h : K (.sc (.bool false)) = r) : Bn .neq (.sc (.int .i64 z)) (.sc (.int .i64 z)) (fun t => K t) = r := by
 rw [Aiu, bne_self_eq_false]
 exact h
theorem Aj9 {z : Int} {K : AV → Option β} (h0 : 0 ≤ z) (h : K (.sc (.bool false)) = r) : Bn .lss (.sc (.int .i64 z)) (.sc (.int .i64 0)) (fun t => K t) = r := by
 rw [H5, show decide (z < 0) = false from by simp; omega]
 exact h
theorem Oe {vs : List AV} {i : Nat} {v : AV} {K : AV → Option β} (hi : vs[i]? = some v) (h : K v = r) : Sh (.tup vs) i (fun t => K t) = r := by
 simp only [Sh, hi, Option.bind_some]
 exact h
end steps
end
section
open Go
variable {α : Type}
theorem Z6 : ∀ (cs : List AV) (fs : List MF), Jk fs cs → fs.all isV = true → cs.all E6 = true
 | [], fs, _, _ => rfl
 | c :: cs, [], hw, _ => absurd rfl hw.1
 | c :: cs, f :: fs, hw, hv => by
  obtain ⟨h1, h2⟩ := wfL_cons.1 hw
  rw [List.all_cons, Bool.and_eq_true] at hv
  rw [List.all_cons, Z6 cs fs h2 hv.2, Bool.and_true]
  cases c with
  | sc v => cases f <;> first | exact h1 | (exfalso; simpa [isV] using hv.1) | exact h1.elim
  | ro m cells => cases f <;> first | rfl | exact h1.elim
  | _ => exact h1.elim
theorem Ea {f : MF} {fs : List MF} {c : AV} {cs : List AV} {a b : Nat} (h1 : En f c = a) (h2 : Dr fs cs = b) : Dr (f :: fs) (c :: cs) = a + b := by
 subst h1
 subst h2
 rfl
theorem Hw (n : Nat) (hn : 1048576 < n) : M8 (n + 1) 9 216 := AjT (n := n) rfl hn (fun kk => Nz (PR n AV) n kk) (fun kk m k s H => rfl) (fun a H kk => Ag7 n a H kk)
def fdByteS : List FD := [⟨.byt, [], 0⟩]
def Du : List MF := fdByteS.map FD.f
theorem Lk (n : Nat) (hn : 1048576 < n) : Jm (n + 2) 100 31 Du :=
 Me (n := n + 1) (tI := 3) (w := 1) (cty := [5]) (fds := fdByteS) rfl rfl (Hw n hn) ⟨rfl, trivial, trivial⟩ rfl ⟨_, _, rfl, rfl, rfl, rfl⟩ (by omega) (fun β kk => Ng (PR (n + 1) β) (n + 1) kk) (fun β kk m a k i H => rfl) (fun β a b H kk => AfQ (n + 1) a b H kk)
theorem Lg (n : Nat) (hn : 1048576 < n) : Kc (n + 2) 105 Du :=
 L8 (n := n + 1) (tI := 3) (w := 1) (fds := fdByteS) rfl (Hw n hn) ⟨rfl, trivial, trivial⟩ rfl (by decide) (by omega) (fun kk => Nl (PR (n + 1) AV) (n + 1) kk) (fun kk m a k i H => rfl) (fun a b H kk => AfV (n + 1) a b H kk)
def fdIntS : List FD := [⟨.int, [], 0⟩]
def Ko : List MF := fdIntS.map FD.f
theorem Ahp (n : Nat) (hn : 1048576 < n) : Jm (n + 2) 39 34 Ko :=
 Me (n := n + 1) (tI := 3) (w := 1) (cty := [3]) (fds := fdIntS) rfl rfl (Hw n hn) ⟨rfl, trivial, trivial⟩ rfl ⟨_, _, rfl, rfl, rfl, rfl⟩ (by omega) (fun β kk => Rb (PR (n + 1) β) (n + 1) kk) (fun β kk m a k i H => rfl) (fun β a b H kk => Ajg (n + 1) a b H kk)
theorem Ahe (n : Nat) (hn : 1048576 < n) : Kc (n + 2) 40 Ko :=
 L8 (n := n + 1) (tI := 3) (w := 1) (fds := fdIntS) rfl (Hw n hn) ⟨rfl, trivial, trivial⟩ rfl (by decide) (by omega) (fun kk => Rc (PR (n + 1) AV) (n + 1) kk) (fun kk m a k i H => rfl) (fun a b H kk => Ajh (n + 1) a b H kk)
def fdStringS : List FD := [⟨.str, [], 0⟩]
def Gh : List MF := fdStringS.map FD.f
theorem Zl (n : Nat) (hn : 1048576 < n) : Jm (n + 2) 102 33 Gh :=
 Me (n := n + 1) (tI := 3) (w := 1) (cty := [9]) (fds := fdStringS) rfl rfl (Hw n hn) ⟨rfl, trivial, trivial⟩ rfl ⟨_, _, rfl, rfl, rfl, rfl⟩ (by omega) (fun β kk => Ni (PR (n + 1) β) (n + 1) kk) (fun β kk m a k i H => rfl) (fun β a b H kk => AfS (n + 1) a b H kk)
theorem Y6 (n : Nat) (hn : 1048576 < n) : Kc (n + 2) 107 Gh :=
 L8 (n := n + 1) (tI := 3) (w := 1) (fds := fdStringS) rfl (Hw n hn) ⟨rfl, trivial, trivial⟩ rfl (by decide) (by omega) (fun kk => Nn (PR (n + 1) AV) (n + 1) kk) (fun kk m a k i H => rfl) (fun a b H kk => AfX (n + 1) a b H kk)
theorem L3 (s : ByteArray) (h : s.size ≤ 1048576) : wfF (.sub Du) (As s) := by
 refine ⟨h, by rw [Fi]; show _ = s.size * 1; omega, ?_⟩
 have key : ∀ l : List UInt8, Jk (Gt l.length Du) (l.map fun b => .sc (.int .u8 b.toNat)) := by
  intro l
  induction l with
  | nil => rfl
  | cons b l ih =>
   rw [List.length_cons, G3, List.map_cons]
   exact wfL_cons.2 ⟨trivial, ih⟩
 have := key s.data.toList
 rwa [show s.data.toList.length = s.size by simp] at this
theorem Nc (f : MF) (e : α → Value) (h : ∀ x, En f (.sc (e x)) = 1) : ∀ l : List α, Dr (Gt l.length [f]) (l.map fun x => .sc (e x)) = l.length
 | [] => rfl
 | x :: l => by
  rw [List.length_cons, G3, List.map_cons]
  show En f (.sc (e x)) + Dr (Gt l.length [f]) _ = _
  rw [h, Nc f e h l]
  omega
theorem Jw (s : ByteArray) : En (.sub Du) (As s) = s.size := by
 have := Nc .byt (fun b : UInt8 => .int .u8 b.toNat) (fun _ => rfl) s.data.toList
 rw [show s.data.toList.length = s.size by simp] at this
 exact this
theorem AhI (l : List Int) (h : l.length ≤ 1048576) : wfF (.sub Ko) (Fs l) := by
 refine ⟨h, by simp [Ko, fdIntS], ?_⟩
 clear h
 induction l with
 | nil => rfl
 | cons b l ih =>
  rw [List.length_cons, G3, List.map_cons]
  exact wfL_cons.2 ⟨trivial, ih⟩
theorem Adk (l : List Int) : En (.sub Ko) (Fs l) = l.length := Nc .int (fun z : Int => .int .i64 z) (fun _ => rfl) l
theorem AhJ (l : List ByteArray) (h : l.length ≤ 1048576) : wfF (.sub Gh) (Fv l) := by
 refine ⟨h, by simp [Gh, fdStringS], ?_⟩
 clear h
 induction l with
 | nil => rfl
 | cons b l ih =>
  rw [List.length_cons, G3, List.map_cons]
  exact wfL_cons.2 ⟨trivial, ih⟩
theorem Adl (l : List ByteArray) : En (.sub Gh) (Fv l) = l.length := Nc .str (fun z : ByteArray => .string z) (fun _ => rfl) l
theorem AjM {wt : α → Nat} (sm : α → Prop) (hs : ∀ x, wt x ≤ 1048576 → sm x) (l : List α) (h : Mm wt l ≤ 1048576) : l.length ≤ 1048576 ∧ ∀ y ∈ l, sm y := by
 have h1 := Ge wt l
 refine ⟨by omega, fun y hy => hs y ?_⟩
 have h2 := Ig (wt := wt) hy
 omega
theorem Vd {enc : α → List AV} {fs : List MF} (l : List α) (h : l.length ≤ 1048576) (hw : ∀ x ∈ l, Jk fs (enc x)) : wfF (.sub fs) (At enc l) := by
 have key : ∀ l : List α, (∀ x ∈ l, Jk fs (enc x)) → (l.map enc).flatten.length = l.length * fs.length ∧ Jk (Gt l.length fs) (l.map enc).flatten := by
  intro l
  induction l with
  | nil => intro _; exact ⟨by simp, rfl⟩
  | cons x l ih =>
   intro hw
   obtain ⟨h1, h2⟩ := ih fun y hy => hw y (List.mem_cons_of_mem _ hy)
   have hx := hw x List.mem_cons_self
   have hl := Jl hx
   rw [List.map_cons, List.flatten_cons, List.length_cons, G3]
   exact ⟨by rw [List.length_append, h1, ← hl, Nat.succ_mul]; omega, (Hp hl).2 ⟨hx, h2⟩⟩
 obtain ⟨h1, h2⟩ := key l hw
 exact ⟨h, h1, h2⟩
theorem Nd {enc : α → List AV} {fs : List MF} {wt : α → Nat} : ∀ (l : List α), (∀ x ∈ l, fs.length = (enc x).length) → (∀ x ∈ l, Dr fs (enc x) ≤ 64 * (1 + wt x)) → En (.sub fs) (At enc l) ≤ 64 * Mm wt l
 | [], _, _ => Nat.zero_le _
 | x :: l, hl, h => by
  have ih := Nd l (fun y hy => hl y (List.mem_cons_of_mem _ hy)) (fun y hy => h y (List.mem_cons_of_mem _ hy))
  have hx := h x List.mem_cons_self
  show Dr (Gt (l.length + 1) fs) (enc x ++ (l.map enc).flatten) ≤ _
  rw [G3, Gz _ _ _ _ (hl x List.mem_cons_self), Mm]
  have ih : Dr (Gt l.length fs) (l.map enc).flatten ≤ 64 * Mm wt l := ih
  omega
def fdMsgS : List FD := [⟨.str, [0], 0⟩, ⟨.sub Du, [1], 100⟩, ⟨.int, [2], 0⟩, ⟨.bool, [3], 0⟩]
def Aj2 : List FD := [⟨.str, [0], 0⟩, ⟨.sub Du, [1], 105⟩, ⟨.int, [2], 0⟩, ⟨.bool, [3], 0⟩]
def Lj : List MF := fdMsgS.map FD.f
def AaZ (x : Ej) : Prop := x.fBody.size ≤ 1048576 ∧ True
theorem Ahq (n : Nat) (hn : 1048576 < n) : Jm (n + 3) 99 28 Lj :=
 Me (n := n + 2) (tI := 3) (w := 4) (cty := G8) (fds := fdMsgS) rfl rfl (Hw (n + 1) (by omega)) ⟨rfl, trivial, ⟨rfl, Lk (n + 0) (by omega), ⟨rfl, trivial, ⟨rfl, trivial, trivial⟩⟩⟩⟩ rfl ⟨_, _, rfl, rfl, rfl, rfl⟩ (by omega) (fun β kk => Rp (PR (n + 2) β) (n + 2) kk) (fun β kk m a k i H => rfl) (fun β a b H kk => Aj1 (n + 2) a b H kk)
theorem Ahf (n : Nat) (hn : 1048576 < n) : Kc (n + 3) 104 Lj :=
 L8 (n := n + 2) (tI := 3) (w := 4) (fds := Aj2) rfl (Hw (n + 1) (by omega)) ⟨rfl, trivial, ⟨rfl, Lg (n + 0) (by omega), ⟨rfl, trivial, ⟨rfl, trivial, trivial⟩⟩⟩⟩ rfl (by decide) (by omega) (fun kk => Nk (PR (n + 2) AV) (n + 2) kk) (fun kk m a k i H => rfl) (fun a b H kk => AfU (n + 2) a b H kk)
theorem AjL (x : Ej) (h : Eu x ≤ 1048576) : AaZ x := by
 have h0 := h
 unfold Eu at h0
 exact ⟨by omega, trivial⟩
theorem AkN (x : Ej) (h : AaZ x) : Jk Lj (A1 x) := by
 obtain ⟨h0, _⟩ := h
 exact wfL_cons.2 ⟨trivial, wfL_cons.2 ⟨L3 _ h0, wfL_cons.2 ⟨trivial, wfL_cons.2 ⟨trivial, rfl⟩⟩⟩⟩
theorem AiP (x : Ej) : Dr Lj (A1 x) ≤ 64 * (1 + Eu x) := by
 have c0 := Jw x.fBody
 show 1 + (En (.sub Du) (As x.fBody) + (1 + (1 + 0))) ≤ _
 unfold Eu
 omega
def fdFlightS : List FD := [⟨.int, [0], 0⟩, ⟨.str, [1, 0], 0⟩, ⟨.sub Du, [1, 1], 100⟩, ⟨.int, [1, 2], 0⟩, ⟨.bool, [1, 3], 0⟩, ⟨.int, [5], 0⟩]
def Ac6 : List FD := [⟨.int, [0], 0⟩, ⟨.str, [1, 0], 0⟩, ⟨.sub Du, [1, 1], 105⟩, ⟨.int, [1, 2], 0⟩, ⟨.bool, [1, 3], 0⟩, ⟨.int, [5], 0⟩]
def G1 : List MF := fdFlightS.map FD.f
def Ow (x : Af) : Prop := x.fM.fBody.size ≤ 1048576 ∧ True
theorem Zj (n : Nat) (hn : 1048576 < n) : Jm (n + 3) 98 27 G1 :=
 Me (n := n + 2) (tI := 3) (w := 6) (cty := Ek) (fds := fdFlightS) rfl rfl (Hw (n + 1) (by omega)) ⟨rfl, trivial, ⟨rfl, trivial, ⟨rfl, Lk (n + 0) (by omega), ⟨rfl, trivial, ⟨rfl, trivial, ⟨rfl, trivial, trivial⟩⟩⟩⟩⟩⟩ rfl ⟨_, _, rfl, rfl, rfl, rfl⟩ (by omega) (fun β kk => Ro (PR (n + 2) β) (n + 2) kk) (fun β kk m a k i H => rfl) (fun β a b H kk => Aj0 (n + 2) a b H kk)
theorem Y5 (n : Nat) (hn : 1048576 < n) : Kc (n + 3) 103 G1 :=
 L8 (n := n + 2) (tI := 3) (w := 6) (fds := Ac6) rfl (Hw (n + 1) (by omega)) ⟨rfl, trivial, ⟨rfl, trivial, ⟨rfl, Lg (n + 0) (by omega), ⟨rfl, trivial, ⟨rfl, trivial, ⟨rfl, trivial, trivial⟩⟩⟩⟩⟩⟩ rfl (by decide) (by omega) (fun kk => Nj (PR (n + 2) AV) (n + 2) kk) (fun kk m a k i H => rfl) (fun a b H kk => AfT (n + 2) a b H kk)
theorem AcK (x : Af) (h : B9 x ≤ 1048576) : Ow x := by
 have h0 := h
 unfold B9 Eu at h0
 exact ⟨by omega, trivial⟩
theorem AfE (x : Af) (h : Ow x) : Jk G1 (Ap x) := by
 obtain ⟨h0, _⟩ := h
 exact wfL_cons.2 ⟨trivial, wfL_cons.2 ⟨trivial, wfL_cons.2 ⟨L3 _ h0, wfL_cons.2 ⟨trivial, wfL_cons.2 ⟨trivial, wfL_cons.2 ⟨trivial, rfl⟩⟩⟩⟩⟩⟩
theorem Abk (x : Af) : Dr G1 (Ap x) ≤ 64 * (1 + B9 x) := by
 have c0 := Jw x.fM.fBody
 show 1 + (1 + (En (.sub Du) (As x.fM.fBody) + (1 + (1 + (1 + 0))))) ≤ _
 unfold B9 Eu
 omega
def Afx (x : Ci) : Prop := (x.fFl.length ≤ 1048576 ∧ ∀ y ∈ x.fFl, Ow y) ∧ (x.fQ.length ≤ 1048576 ∧ ∀ y ∈ x.fQ, AaZ y) ∧ True
theorem Zt (x : Ci) (h : Ev x ≤ 1048576) : Afx x := by
 have e0 := Ge B9 x.fFl
 have e1 := Ge Eu x.fQ
 have h0 := h
 unfold Ev at h0
 exact ⟨AjM Ow AcK _ (by omega), AjM AaZ AjL _ (by omega), trivial⟩
def Aip : List FV := [.skip, .sub G1 [1] 98, .sub Lj [2] 99]
def Ak0 : List FV := [.skip, .sub G1 [1] 103, .sub Lj [2] 104]
def Tt : List MF := Co Aip
theorem Ve (x : Ci) (h : Afx x) : Jk Tt (Ar x) := by
 obtain ⟨h0, h1, _⟩ := h
 exact wfL_cons.2 ⟨rfl, wfL_cons.2 ⟨Vd _ h0.1 fun y hy => AfE y (h0.2 y hy), wfL_cons.2 ⟨Vd _ h1.1 fun y hy => AkN y (h1.2 y hy), rfl⟩⟩⟩
theorem Aag (x : Ci) : Dr Tt (Ar x) ≤ 64 * Ev x := by
 have c0 := Nd (fs := G1) (wt := B9) x.fFl (fun y _ => rfl) (fun y _ => Abk y)
 have c1 := Nd (fs := Lj) (wt := Eu) x.fQ (fun y _ => rfl) (fun y _ => AiP y)
 show 0 + (En (.sub G1) (At Ap x.fFl) + (En (.sub Lj) (At A1 x.fQ) + 0)) ≤ _
 unfold Ev
 omega
theorem Aj8 : ∀ (cs : List AV) (N : Nat), Jk Tt cs → (Aj Ag E0.tp N Mx cs).1.all A4 = true := fun cs N h => F8 _ _ _ (Z6 cs Tt h rfl)
theorem AaQ (n : Nat) (hn : 1048576 < n) : Vm (n + 4) 18 Mx Tt :=
 Wi (n := n + 3) (tI := 3) (fvs := Aip) rfl rfl ⟨rfl, Zj (n + 0) (by omega), ⟨rfl, Ahq (n + 0) (by omega), trivial⟩⟩ rfl Aj8 (fun β a b H kk => Ajb (n + 3) a b H kk)
theorem AaJ (n : Nat) (hn : 1048576 < n) : Vk (n + 4) 20 Tt :=
 Wc (n := n + 3) (tI := 3) (fvs := Ak0) rfl ⟨rfl, Y5 (n + 0) (by omega), ⟨rfl, Ahf (n + 0) (by omega), trivial⟩⟩ rfl (fun a b H kk => Ajd (n + 3) a b H kk)
def fdWantS : List FD := [⟨.str, [0], 0⟩, ⟨.int, [1], 0⟩]
def Aha : List FD := [⟨.str, [0], 0⟩, ⟨.int, [1], 0⟩]
def H9 : List MF := fdWantS.map FD.f
def U9 (x : H0) : Prop := True
theorem Afg (n : Nat) (hn : 1048576 < n) : Jm (n + 2) 101 32 H9 :=
 Me (n := n + 1) (tI := 3) (w := 2) (cty := Ue) (fds := fdWantS) rfl rfl (Hw (n + 0) (by omega)) ⟨rfl, trivial, ⟨rfl, trivial, trivial⟩⟩ rfl ⟨_, _, rfl, rfl, rfl, rfl⟩ (by omega) (fun β kk => Nh (PR (n + 1) β) (n + 1) kk) (fun β kk m a k i H => rfl) (fun β a b H kk => AfR (n + 1) a b H kk)
theorem AeF (n : Nat) (hn : 1048576 < n) : Kc (n + 2) 106 H9 :=
 L8 (n := n + 1) (tI := 3) (w := 2) (fds := Aha) rfl (Hw (n + 0) (by omega)) ⟨rfl, trivial, ⟨rfl, trivial, trivial⟩⟩ rfl (by decide) (by omega) (fun kk => Nm (PR (n + 1) AV) (n + 1) kk) (fun kk m a k i H => rfl) (fun a b H kk => AfW (n + 1) a b H kk)
theorem AhA (x : H0) (h : I5 x ≤ 1048576) : U9 x := by
 have h0 := h
 unfold I5 at h0
 exact trivial
theorem AjV (x : H0) (h : U9 x) : Jk H9 (B0 x) := by
 exact wfL_cons.2 ⟨trivial, wfL_cons.2 ⟨trivial, rfl⟩⟩
theorem AfO (x : H0) : Dr H9 (B0 x) ≤ 64 * (1 + I5 x) := by
 show 1 + (1 + 0) ≤ _
 unfold I5
 omega
def Sq (x : Ay) : Prop := x.fBody.size ≤ 1048576 ∧ x.fWBody.size ≤ 1048576 ∧ x.fPass.size ≤ 1048576 ∧ (x.fWants.length ≤ 1048576 ∧ ∀ y ∈ x.fWants, U9 y) ∧ x.fNames.length ≤ 1048576 ∧ x.fCodes.length ≤ 1048576 ∧ True
theorem AcL (x : Ay) (h : Ee x ≤ 1048576) : Sq x := by
 have e3 := Ge I5 x.fWants
 have e4 := Ge ByteArray.size x.fNames
 have h0 := h
 unfold Ee at h0
 exact ⟨by omega, by omega, by omega, AjM U9 AhA _ (by omega), by omega, by omega, trivial⟩
def Wa : List FV := [.skip, .skip, .skip, .skip, .skip, .skip, .sub Du [6] 100, .skip, .skip, .skip, .skip, .skip, .skip, .sub Du [13] 100, .skip, .skip, .skip, .skip, .skip, .sub Du [19] 100, .skip, .skip, .sub H9 [22] 101, .sub Gh [23] 102, .sub Ko [24] 39]
def Ae9 : List FV := [.skip, .skip, .skip, .skip, .skip, .skip, .sub Du [6] 105, .skip, .skip, .skip, .skip, .skip, .skip, .sub Du [13] 105, .skip, .skip, .skip, .skip, .skip, .sub Du [19] 105, .skip, .skip, .sub H9 [22] 106, .sub Gh [23] 107, .sub Ko [24] 40]
def It : List MF := Co Wa
theorem Pu (x : Ay) (h : Sq x) : Jk It (Aq x) := by
 obtain ⟨h0, h1, h2, h3, h4, h5, _⟩ := h
 exact wfL_cons.2 ⟨rfl, wfL_cons.2 ⟨rfl, wfL_cons.2 ⟨rfl, wfL_cons.2 ⟨rfl, wfL_cons.2 ⟨rfl, wfL_cons.2 ⟨rfl, wfL_cons.2 ⟨L3 _ h0, wfL_cons.2 ⟨rfl, wfL_cons.2 ⟨rfl, wfL_cons.2 ⟨rfl, wfL_cons.2 ⟨rfl, wfL_cons.2 ⟨rfl, wfL_cons.2 ⟨rfl, wfL_cons.2 ⟨L3 _ h1, wfL_cons.2 ⟨rfl, wfL_cons.2 ⟨rfl, wfL_cons.2 ⟨rfl, wfL_cons.2 ⟨rfl, wfL_cons.2 ⟨rfl, wfL_cons.2 ⟨L3 _ h2, wfL_cons.2 ⟨rfl, wfL_cons.2 ⟨rfl, wfL_cons.2 ⟨Vd _ h3.1 fun y hy => AjV y (h3.2 y hy), wfL_cons.2 ⟨AhJ _ h4, wfL_cons.2 ⟨AhI _ h5, rfl⟩⟩⟩⟩⟩⟩⟩⟩⟩⟩⟩⟩⟩⟩⟩⟩⟩⟩⟩⟩⟩⟩⟩⟩⟩
theorem Xv (x : Ay) : Dr It (Aq x) ≤ 64 * Ee x := by
 have c0 := Jw x.fBody
 have c1 := Jw x.fWBody
 have c2 := Jw x.fPass
 have c3 := Nd (fs := H9) (wt := I5) x.fWants (fun y _ => rfl) (fun y _ => AfO y)
 have c4 := Adl x.fNames
 have c5 := Adk x.fCodes
 have e4 := Ge ByteArray.size x.fNames
 obtain ⟨u, hu⟩ : ∃ u : Nat, u = 0 := ⟨_, rfl⟩
 have cE : Dr It (Aq x) = u + (u + (u + (u + (u + (u + (En (.sub Du) (As x.fBody) + (u + (u + (u + (u + (u + (u + (En (.sub Du) (As x.fWBody) + (u + (u + (u + (u + (u + (En (.sub Du) (As x.fPass) + (u + (u + (En (.sub H9) (At B0 x.fWants) + (En (.sub Gh) (Fv x.fNames) + (En (.sub Ko) (Fs x.fCodes) + 0)))))))))))))))))))))))) := by
  subst hu
  exact Ea rfl (Ea rfl (Ea rfl (Ea rfl (Ea rfl (Ea rfl (Ea rfl (Ea rfl (Ea rfl (Ea rfl (Ea rfl (Ea rfl (Ea rfl (Ea rfl (Ea rfl (Ea rfl (Ea rfl (Ea rfl (Ea rfl (Ea rfl (Ea rfl (Ea rfl (Ea rfl (Ea rfl (Ea rfl (rfl)))))))))))))))))))))))))
 rw [cE]
 clear cE
 generalize En (.sub Du) (As x.fBody) = a0 at c0 ⊢
 generalize En (.sub Du) (As x.fWBody) = a1 at c1 ⊢
 generalize En (.sub Du) (As x.fPass) = a2 at c2 ⊢
 generalize En (.sub H9) (At B0 x.fWants) = a3 at c3 ⊢
 generalize En (.sub Gh) (Fv x.fNames) = a4 at c4 ⊢
 generalize En (.sub Ko) (Fs x.fCodes) = a5 at c5 ⊢
 unfold Ee
 simp only [← Nat.add_assoc, Nat.add_zero, Nat.mul_add]
 omega
theorem AcF : ∀ (cs : List AV) (N : Nat), Jk It cs → (Aj Ag E0.tp N Jx cs).1.all A4 = true := fun cs N h => F8 _ _ _ (Z6 cs It h rfl)
theorem Zk (n : Nat) (hn : 1048576 < n) : Vm (n + 3) 19 Jx It :=
 Wi (n := n + 2) (tI := 3) (fvs := Wa) rfl rfl ⟨rfl, Lk (n + 0) (by omega), ⟨rfl, Lk (n + 0) (by omega), ⟨rfl, Lk (n + 0) (by omega), ⟨rfl, Afg (n + 0) (by omega), ⟨rfl, Zl (n + 0) (by omega), ⟨rfl, Ahp (n + 0) (by omega), trivial⟩⟩⟩⟩⟩⟩ rfl AcF (fun β a b H kk => Ajc (n + 2) a b H kk)
theorem Rt (n : Nat) (hn : 1048576 < n) : Vk (n + 3) 21 It :=
 Wc (n := n + 2) (tI := 3) (fvs := Ae9) rfl ⟨rfl, Lg (n + 0) (by omega), ⟨rfl, Lg (n + 0) (by omega), ⟨rfl, Lg (n + 0) (by omega), ⟨rfl, AeF (n + 0) (by omega), ⟨rfl, Y6 (n + 0) (by omega), ⟨rfl, Ahe (n + 0) (by omega), trivial⟩⟩⟩⟩⟩⟩ rfl (fun a b H kk => Aje (n + 2) a b H kk)
end
end Go.Proofs.YtjiahcekpohehaaGreatDoor.Abs
