/- What the proof needs, part 5: a sound evaluator over trees, the program's functions on it, and what they come to. -/
import Derived.Test.YtjiahcekpohehaaMd
set_option linter.unusedVariables false
set_option linter.unusedSimpArgs false
set_option maxRecDepth 100000
set_option maxHeartbeats 3200000
namespace Go.Proofs.Ytjiahcekpohehaa.Abs
section
open Go
def H4 (t : Int) : B8 := ⟨t, false, 0, false, 0, ⟨#[]⟩, ⟨#[]⟩, ⟨#[]⟩, 0, false, 0, false, ⟨#[]⟩, ⟨#[]⟩, 0, false, false, ⟨#[]⟩, false, ⟨#[]⟩, 0, false, [], [], []⟩
def Gg (p q : B8) : B8 := if p.fHasWill then { q with fHasWill := true, fWTopic := p.fWTopic, fWBody := p.fWBody, fWQos := p.fWQos, fWRetain := p.fWRetain } else q
def Gf (p q : B8) : B8 := if p.fHasUser then (if p.fHasPass then { q with fHasUser := true, fUser := p.fUser, fHasPass := true, fPass := p.fPass } else { q with fHasUser := true, fUser := p.fUser }) else q
def C6 (pc : Bool) (p : B8) : B8 :=
 if p.fType = 1 then Gf p (Gg p { H4 p.fType with fClient := p.fClient, fLevel := p.fLevel, fClean := p.fClean, fKeep := p.fKeep })
 else if p.fType = 2 then { H4 p.fType with fCode := p.fCode, fPresent := p.fPresent && (!pc || decide (p.fCode = 0)) }
 else if p.fType = 3 then (if 0 < p.fQos then { H4 p.fType with fQos := p.fQos, fRetain := p.fRetain, fTopic := p.fTopic, fBody := p.fBody, fDup := p.fDup, fId := p.fId } else { H4 p.fType with fQos := p.fQos, fRetain := p.fRetain, fTopic := p.fTopic, fBody := p.fBody })
 else if p.fType = 4 ∨ p.fType = 5 ∨ p.fType = 6 ∨ p.fType = 7 ∨ p.fType = 11 then { H4 p.fType with fId := p.fId }
 else if p.fType = 8 then { H4 p.fType with fId := p.fId, fWants := p.fWants }
 else if p.fType = 9 then { H4 p.fType with fId := p.fId, fCodes := p.fCodes }
 else if p.fType = 10 then { H4 p.fType with fId := p.fId, fNames := p.fNames }
 else H4 p.fType
theorem Rs (n : Nat) (hn : 1048576 < n) (p : B8) {β : Type} {G : Option β → Prop} {KH : KO β} {H : Ac} {L : List Ck} (s0 : Sep H (L)) (hk : ∀ raw H', (∀ L', VwL L' 7 raw (C7 (C6 true p))) → Sep H' L → Gd G (KH (.agg raw) H')) : Gd G (Dc E0 (n + 1) β 183 [.agg (C7 p)] H fun x H => KH x H) := by
 rw [Ae6, f183]
 try simp only [De, Cj, Bi, A4, A6, A9, Aw, Bx, Ch, Be]
 refine Qh s0 (H8 (K9 _)) fun i1 H s2 => ?_
 refine C8 s2 fun i3 H s4 => ?_
 refine Af (o' := 0) rfl ?_
 refine Ay (c := .sc (.int .i64 p.fType)) s4 A8 rfl ?_
 refine Bk (cs := [.sc (.int .i64 p.fType), .sc (.bool false), .sc (.int .i64 0), .sc (.bool false), .sc (.int .i64 0), .sc (.string (⟨#[]⟩)), .nl, .sc (.string (⟨#[]⟩)), .sc (.int .i64 0), .sc (.bool false), .sc (.int .i64 0), .sc (.bool false), .sc (.string (⟨#[]⟩)), .nl, .sc (.int .i64 0), .sc (.bool false), .sc (.bool false), .sc (.string (⟨#[]⟩)), .sc (.bool false), .nl, .sc (.int .i64 0), .sc (.bool false), .nl, .nl, .nl]) rfl ?_
 refine C8 s4 fun i5 H s6 => ?_
 refine A3 (cs' := [.sc (.int .i64 p.fType), .sc (.bool false), .sc (.int .i64 0), .sc (.bool false), .sc (.int .i64 0), .sc (.string (⟨#[]⟩)), .nl, .sc (.string (⟨#[]⟩)), .sc (.int .i64 0), .sc (.bool false), .sc (.int .i64 0), .sc (.bool false), .sc (.string (⟨#[]⟩)), .nl, .sc (.int .i64 0), .sc (.bool false), .sc (.bool false), .sc (.string (⟨#[]⟩)), .sc (.bool false), .nl, .sc (.int .i64 0), .sc (.bool false), .nl, .nl, .nl]) s6 (.here) (Ad (Aa rfl (Aa rfl (Aa rfl (Aa rfl (Aa rfl (Aa rfl (Aa rfl (Aa rfl (Aa rfl (Aa rfl (Aa rfl (Aa rfl (Aa rfl (Aa rfl (Aa rfl (Aa rfl (Aa rfl (Aa rfl (Aa rfl (Aa rfl (Aa rfl (Aa rfl (Aa rfl (Aa rfl (Aa rfl rfl)))))))))))))))))))))))))) rfl (A7 rfl) rfl fun H s7 => ?_
 refine Af (o' := 0) rfl ?_
 refine Ay (c := .sc (.int .i64 p.fType)) s7 Ci rfl ?_
 refine Bv ?_
 refine Ai ((decide (p.fType = 1))) (fun h8 => ?_) (fun h8 => ?_)
 ·refine C1 h8 ?_
  refine Af (o' := 8) rfl ?_
  refine Ay (c := .sc (.int .i64 p.fLevel)) s7 Ci rfl ?_
  refine Af (o' := 8) rfl ?_
  refine A3 (cs' := [.sc (.int .i64 p.fType), .sc (.bool false), .sc (.int .i64 0), .sc (.bool false), .sc (.int .i64 0), .sc (.string (⟨#[]⟩)), .nl, .sc (.string (⟨#[]⟩)), .sc (.int .i64 p.fLevel), .sc (.bool false), .sc (.int .i64 0), .sc (.bool false), .sc (.string (⟨#[]⟩)), .nl, .sc (.int .i64 0), .sc (.bool false), .sc (.bool false), .sc (.string (⟨#[]⟩)), .sc (.bool false), .nl, .sc (.int .i64 0), .sc (.bool false), .nl, .nl, .nl]) s7 (.here) (Ak rfl) rfl (A7 rfl) rfl fun H s9 => ?_
  refine Af (o' := 7) rfl ?_
  refine Ay (c := .sc (.string p.fClient)) s9 Ci rfl ?_
  refine Af (o' := 7) rfl ?_
  refine A3 (cs' := [.sc (.int .i64 p.fType), .sc (.bool false), .sc (.int .i64 0), .sc (.bool false), .sc (.int .i64 0), .sc (.string (⟨#[]⟩)), .nl, .sc (.string p.fClient), .sc (.int .i64 p.fLevel), .sc (.bool false), .sc (.int .i64 0), .sc (.bool false), .sc (.string (⟨#[]⟩)), .nl, .sc (.int .i64 0), .sc (.bool false), .sc (.bool false), .sc (.string (⟨#[]⟩)), .sc (.bool false), .nl, .sc (.int .i64 0), .sc (.bool false), .nl, .nl, .nl]) s9 (.here) (Ak rfl) rfl (A7 rfl) rfl fun H s10 => ?_
  refine Af (o' := 9) rfl ?_
  refine Ay (c := .sc (.bool p.fClean)) s10 Ci rfl ?_
  refine Af (o' := 9) rfl ?_
  refine A3 (cs' := [.sc (.int .i64 p.fType), .sc (.bool false), .sc (.int .i64 0), .sc (.bool false), .sc (.int .i64 0), .sc (.string (⟨#[]⟩)), .nl, .sc (.string p.fClient), .sc (.int .i64 p.fLevel), .sc (.bool p.fClean), .sc (.int .i64 0), .sc (.bool false), .sc (.string (⟨#[]⟩)), .nl, .sc (.int .i64 0), .sc (.bool false), .sc (.bool false), .sc (.string (⟨#[]⟩)), .sc (.bool false), .nl, .sc (.int .i64 0), .sc (.bool false), .nl, .nl, .nl]) s10 (.here) (Ak rfl) rfl (A7 rfl) rfl fun H s11 => ?_
  refine Af (o' := 10) rfl ?_
  refine Ay (c := .sc (.int .i64 p.fKeep)) s11 Ci rfl ?_
  refine Af (o' := 10) rfl ?_
  refine A3 (cs' := [.sc (.int .i64 p.fType), .sc (.bool false), .sc (.int .i64 0), .sc (.bool false), .sc (.int .i64 0), .sc (.string (⟨#[]⟩)), .nl, .sc (.string p.fClient), .sc (.int .i64 p.fLevel), .sc (.bool p.fClean), .sc (.int .i64 p.fKeep), .sc (.bool false), .sc (.string (⟨#[]⟩)), .nl, .sc (.int .i64 0), .sc (.bool false), .sc (.bool false), .sc (.string (⟨#[]⟩)), .sc (.bool false), .nl, .sc (.int .i64 0), .sc (.bool false), .nl, .nl, .nl]) s11 (.here) (Ak rfl) rfl (A7 rfl) rfl fun H s12 => ?_
  refine Af (o' := 11) rfl ?_
  refine Ay (c := .sc (.bool p.fHasWill)) s12 Ci rfl ?_
  refine F3 ?_
  refine Ai (p.fHasWill) (fun h13 => ?_) (fun h13 => ?_)
  ·refine C1 h13 ?_
   refine Af (o' := 11) rfl ?_
   refine A3 (cs' := [.sc (.int .i64 p.fType), .sc (.bool false), .sc (.int .i64 0), .sc (.bool false), .sc (.int .i64 0), .sc (.string (⟨#[]⟩)), .nl, .sc (.string p.fClient), .sc (.int .i64 p.fLevel), .sc (.bool p.fClean), .sc (.int .i64 p.fKeep), .sc (.bool true), .sc (.string (⟨#[]⟩)), .nl, .sc (.int .i64 0), .sc (.bool false), .sc (.bool false), .sc (.string (⟨#[]⟩)), .sc (.bool false), .nl, .sc (.int .i64 0), .sc (.bool false), .nl, .nl, .nl]) s12 (.here) (Ak rfl) rfl (A7 rfl) rfl fun H s14 => ?_
   refine Af (o' := 12) rfl ?_
   refine Ay (c := .sc (.string p.fWTopic)) s14 Ci rfl ?_
   refine Af (o' := 12) rfl ?_
   refine A3 (cs' := [.sc (.int .i64 p.fType), .sc (.bool false), .sc (.int .i64 0), .sc (.bool false), .sc (.int .i64 0), .sc (.string (⟨#[]⟩)), .nl, .sc (.string p.fClient), .sc (.int .i64 p.fLevel), .sc (.bool p.fClean), .sc (.int .i64 p.fKeep), .sc (.bool true), .sc (.string p.fWTopic), .nl, .sc (.int .i64 0), .sc (.bool false), .sc (.bool false), .sc (.string (⟨#[]⟩)), .sc (.bool false), .nl, .sc (.int .i64 0), .sc (.bool false), .nl, .nl, .nl]) s14 (.here) (Ak rfl) rfl (A7 rfl) rfl fun H s15 => ?_
   refine Af (o' := 13) rfl ?_
   refine Ay (c := Bj p.fWBody) s15 Ci rfl ?_
   refine Af (o' := 13) rfl ?_
   refine A3 (cs' := [.sc (.int .i64 p.fType), .sc (.bool false), .sc (.int .i64 0), .sc (.bool false), .sc (.int .i64 0), .sc (.string (⟨#[]⟩)), .nl, .sc (.string p.fClient), .sc (.int .i64 p.fLevel), .sc (.bool p.fClean), .sc (.int .i64 p.fKeep), .sc (.bool true), .sc (.string p.fWTopic), Bj p.fWBody, .sc (.int .i64 0), .sc (.bool false), .sc (.bool false), .sc (.string (⟨#[]⟩)), .sc (.bool false), .nl, .sc (.int .i64 0), .sc (.bool false), .nl, .nl, .nl]) s15 (.here) (Ak rfl) rfl (A7 rfl) rfl fun H s16 => ?_
   refine Af (o' := 14) rfl ?_
   refine Ay (c := .sc (.int .i64 p.fWQos)) s16 Ci rfl ?_
   refine Af (o' := 14) rfl ?_
   refine A3 (cs' := [.sc (.int .i64 p.fType), .sc (.bool false), .sc (.int .i64 0), .sc (.bool false), .sc (.int .i64 0), .sc (.string (⟨#[]⟩)), .nl, .sc (.string p.fClient), .sc (.int .i64 p.fLevel), .sc (.bool p.fClean), .sc (.int .i64 p.fKeep), .sc (.bool true), .sc (.string p.fWTopic), Bj p.fWBody, .sc (.int .i64 p.fWQos), .sc (.bool false), .sc (.bool false), .sc (.string (⟨#[]⟩)), .sc (.bool false), .nl, .sc (.int .i64 0), .sc (.bool false), .nl, .nl, .nl]) s16 (.here) (Ak rfl) rfl (A7 rfl) rfl fun H s17 => ?_
   refine Af (o' := 15) rfl ?_
   refine Ay (c := .sc (.bool p.fWRetain)) s17 Ci rfl ?_
   refine Af (o' := 15) rfl ?_
   refine A3 (cs' := [.sc (.int .i64 p.fType), .sc (.bool false), .sc (.int .i64 0), .sc (.bool false), .sc (.int .i64 0), .sc (.string (⟨#[]⟩)), .nl, .sc (.string p.fClient), .sc (.int .i64 p.fLevel), .sc (.bool p.fClean), .sc (.int .i64 p.fKeep), .sc (.bool true), .sc (.string p.fWTopic), Bj p.fWBody, .sc (.int .i64 p.fWQos), .sc (.bool p.fWRetain), .sc (.bool false), .sc (.string (⟨#[]⟩)), .sc (.bool false), .nl, .sc (.int .i64 0), .sc (.bool false), .nl, .nl, .nl]) s17 (.here) (Ak rfl) rfl (A7 rfl) rfl fun H s18 => ?_
   refine Af (o' := 16) rfl ?_
   refine Ay (c := .sc (.bool p.fHasUser)) s18 Ci rfl ?_
   refine Ai (p.fHasUser) (fun h19 => ?_) (fun h19 => ?_)
   ·refine C1 h19 ?_
    refine Af (o' := 16) rfl ?_
    refine A3 (cs' := [.sc (.int .i64 p.fType), .sc (.bool false), .sc (.int .i64 0), .sc (.bool false), .sc (.int .i64 0), .sc (.string (⟨#[]⟩)), .nl, .sc (.string p.fClient), .sc (.int .i64 p.fLevel), .sc (.bool p.fClean), .sc (.int .i64 p.fKeep), .sc (.bool true), .sc (.string p.fWTopic), Bj p.fWBody, .sc (.int .i64 p.fWQos), .sc (.bool p.fWRetain), .sc (.bool true), .sc (.string (⟨#[]⟩)), .sc (.bool false), .nl, .sc (.int .i64 0), .sc (.bool false), .nl, .nl, .nl]) s18 (.here) (Ak rfl) rfl (A7 rfl) rfl fun H s20 => ?_
    refine Af (o' := 17) rfl ?_
    refine Ay (c := .sc (.string p.fUser)) s20 Ci rfl ?_
    refine Af (o' := 17) rfl ?_
    refine A3 (cs' := [.sc (.int .i64 p.fType), .sc (.bool false), .sc (.int .i64 0), .sc (.bool false), .sc (.int .i64 0), .sc (.string (⟨#[]⟩)), .nl, .sc (.string p.fClient), .sc (.int .i64 p.fLevel), .sc (.bool p.fClean), .sc (.int .i64 p.fKeep), .sc (.bool true), .sc (.string p.fWTopic), Bj p.fWBody, .sc (.int .i64 p.fWQos), .sc (.bool p.fWRetain), .sc (.bool true), .sc (.string p.fUser), .sc (.bool false), .nl, .sc (.int .i64 0), .sc (.bool false), .nl, .nl, .nl]) s20 (.here) (Ak rfl) rfl (A7 rfl) rfl fun H s21 => ?_
    refine Af (o' := 18) rfl ?_
    refine Ay (c := .sc (.bool p.fHasPass)) s21 Ci rfl ?_
    refine Ai (p.fHasPass) (fun h22 => ?_) (fun h22 => ?_)
    ·refine C1 h22 ?_
     refine Af (o' := 18) rfl ?_
     refine A3 (cs' := [.sc (.int .i64 p.fType), .sc (.bool false), .sc (.int .i64 0), .sc (.bool false), .sc (.int .i64 0), .sc (.string (⟨#[]⟩)), .nl, .sc (.string p.fClient), .sc (.int .i64 p.fLevel), .sc (.bool p.fClean), .sc (.int .i64 p.fKeep), .sc (.bool true), .sc (.string p.fWTopic), Bj p.fWBody, .sc (.int .i64 p.fWQos), .sc (.bool p.fWRetain), .sc (.bool true), .sc (.string p.fUser), .sc (.bool true), .nl, .sc (.int .i64 0), .sc (.bool false), .nl, .nl, .nl]) s21 (.here) (Ak rfl) rfl (A7 rfl) rfl fun H s23 => ?_
     refine Af (o' := 19) rfl ?_
     refine Ay (c := Bj p.fPass) s23 Ci rfl ?_
     refine Af (o' := 19) rfl ?_
     refine A3 (cs' := [.sc (.int .i64 p.fType), .sc (.bool false), .sc (.int .i64 0), .sc (.bool false), .sc (.int .i64 0), .sc (.string (⟨#[]⟩)), .nl, .sc (.string p.fClient), .sc (.int .i64 p.fLevel), .sc (.bool p.fClean), .sc (.int .i64 p.fKeep), .sc (.bool true), .sc (.string p.fWTopic), Bj p.fWBody, .sc (.int .i64 p.fWQos), .sc (.bool p.fWRetain), .sc (.bool true), .sc (.string p.fUser), .sc (.bool true), Bj p.fPass, .sc (.int .i64 0), .sc (.bool false), .nl, .nl, .nl]) s23 (.here) (Ak rfl) rfl (A7 rfl) rfl fun H s24 => ?_
     refine Aj s24 (.here) rfl ?_
     refine A3 (cs' := [.sc (.int .i64 p.fType), .sc (.bool false), .sc (.int .i64 0), .sc (.bool false), .sc (.int .i64 0), .sc (.string (⟨#[]⟩)), .nl, .sc (.string p.fClient), .sc (.int .i64 p.fLevel), .sc (.bool p.fClean), .sc (.int .i64 p.fKeep), .sc (.bool true), .sc (.string p.fWTopic), Bj p.fWBody, .sc (.int .i64 p.fWQos), .sc (.bool p.fWRetain), .sc (.bool true), .sc (.string p.fUser), .sc (.bool true), Bj p.fPass, .sc (.int .i64 0), .sc (.bool false), .nl, .nl, .nl]) s24 A8 (Ad (Aa rfl (Aa rfl (Aa rfl (Aa rfl (Aa rfl (Aa rfl (Aa rfl (Aa rfl (Aa rfl (Aa rfl (Aa rfl (Aa rfl (Aa rfl (Aa rfl (Aa rfl (Aa rfl (Aa rfl (Aa rfl (Aa rfl (Aa rfl (Aa rfl (Aa rfl (Aa rfl (Aa rfl (Aa rfl rfl)))))))))))))))))))))))))) rfl (A7 rfl) rfl fun H s25 => ?_
     refine Aj s25 (.here) rfl ?_
     have e : C6 true p = (⟨p.fType, false, 0, false, 0, ⟨#[]⟩, ⟨#[]⟩, p.fClient, p.fLevel, p.fClean, p.fKeep, true, p.fWTopic, p.fWBody, p.fWQos, p.fWRetain, true, p.fUser, true, p.fPass, 0, false, [], [], []⟩ : B8) := by
      clear hk s0 s2 s4 s6 s7 s9 s10 s11 s12 s14 s15 s16 s17 s18 s20 s21 s23 s24 s25
      simp only [decide_eq_true_eq, decide_eq_false_iff_not] at h8 h13 h19 h22
      simp [C6, Gg, Gf, H4, h8, h13, h19, h22]
     rw [e] at hk
     exact hk _ _ (fun L' => (.cons .sc (.cons .sc (.cons .sc (.cons .sc (.cons .sc (.cons .sc (.cons .nl (.cons .sc (.cons .sc (.cons .sc (.cons .sc (.cons .sc (.cons .sc (.cons .ro (.cons .sc (.cons .sc (.cons .sc (.cons .sc (.cons .sc (.cons .ro (.cons .sc (.cons .sc (.cons .nl (.cons .nl (.cons .nl .nil)))))))))))))))))))))))))) s25.tail.tail.tail
    ·refine B3 h22 ?_
     refine Aj s21 (.here) rfl ?_
     refine A3 (cs' := [.sc (.int .i64 p.fType), .sc (.bool false), .sc (.int .i64 0), .sc (.bool false), .sc (.int .i64 0), .sc (.string (⟨#[]⟩)), .nl, .sc (.string p.fClient), .sc (.int .i64 p.fLevel), .sc (.bool p.fClean), .sc (.int .i64 p.fKeep), .sc (.bool true), .sc (.string p.fWTopic), Bj p.fWBody, .sc (.int .i64 p.fWQos), .sc (.bool p.fWRetain), .sc (.bool true), .sc (.string p.fUser), .sc (.bool false), .nl, .sc (.int .i64 0), .sc (.bool false), .nl, .nl, .nl]) s21 A8 (Ad (Aa rfl (Aa rfl (Aa rfl (Aa rfl (Aa rfl (Aa rfl (Aa rfl (Aa rfl (Aa rfl (Aa rfl (Aa rfl (Aa rfl (Aa rfl (Aa rfl (Aa rfl (Aa rfl (Aa rfl (Aa rfl (Aa rfl (Aa rfl (Aa rfl (Aa rfl (Aa rfl (Aa rfl (Aa rfl rfl)))))))))))))))))))))))))) rfl (A7 rfl) rfl fun H s26 => ?_
     refine Aj s26 (.here) rfl ?_
     have e : C6 true p = (⟨p.fType, false, 0, false, 0, ⟨#[]⟩, ⟨#[]⟩, p.fClient, p.fLevel, p.fClean, p.fKeep, true, p.fWTopic, p.fWBody, p.fWQos, p.fWRetain, true, p.fUser, false, ⟨#[]⟩, 0, false, [], [], []⟩ : B8) := by
      clear hk s0 s2 s4 s6 s7 s9 s10 s11 s12 s14 s15 s16 s17 s18 s20 s21 s26
      simp only [decide_eq_true_eq, decide_eq_false_iff_not] at h8 h13 h19 h22
      simp [C6, Gg, Gf, H4, h8, h13, h19, h22]
     rw [e] at hk
     exact hk _ _ (fun L' => (.cons .sc (.cons .sc (.cons .sc (.cons .sc (.cons .sc (.cons .sc (.cons .nl (.cons .sc (.cons .sc (.cons .sc (.cons .sc (.cons .sc (.cons .sc (.cons .ro (.cons .sc (.cons .sc (.cons .sc (.cons .sc (.cons .sc (.cons .nl (.cons .sc (.cons .sc (.cons .nl (.cons .nl (.cons .nl .nil)))))))))))))))))))))))))) s26.tail.tail.tail
   ·refine B3 h19 ?_
    refine Aj s18 (.here) rfl ?_
    refine A3 (cs' := [.sc (.int .i64 p.fType), .sc (.bool false), .sc (.int .i64 0), .sc (.bool false), .sc (.int .i64 0), .sc (.string (⟨#[]⟩)), .nl, .sc (.string p.fClient), .sc (.int .i64 p.fLevel), .sc (.bool p.fClean), .sc (.int .i64 p.fKeep), .sc (.bool true), .sc (.string p.fWTopic), Bj p.fWBody, .sc (.int .i64 p.fWQos), .sc (.bool p.fWRetain), .sc (.bool false), .sc (.string (⟨#[]⟩)), .sc (.bool false), .nl, .sc (.int .i64 0), .sc (.bool false), .nl, .nl, .nl]) s18 A8 (Ad (Aa rfl (Aa rfl (Aa rfl (Aa rfl (Aa rfl (Aa rfl (Aa rfl (Aa rfl (Aa rfl (Aa rfl (Aa rfl (Aa rfl (Aa rfl (Aa rfl (Aa rfl (Aa rfl (Aa rfl (Aa rfl (Aa rfl (Aa rfl (Aa rfl (Aa rfl (Aa rfl (Aa rfl (Aa rfl rfl)))))))))))))))))))))))))) rfl (A7 rfl) rfl fun H s27 => ?_
    refine Aj s27 (.here) rfl ?_
    have e : C6 true p = (⟨p.fType, false, 0, false, 0, ⟨#[]⟩, ⟨#[]⟩, p.fClient, p.fLevel, p.fClean, p.fKeep, true, p.fWTopic, p.fWBody, p.fWQos, p.fWRetain, false, ⟨#[]⟩, false, ⟨#[]⟩, 0, false, [], [], []⟩ : B8) := by
     clear hk s0 s2 s4 s6 s7 s9 s10 s11 s12 s14 s15 s16 s17 s18 s27
     simp only [decide_eq_true_eq, decide_eq_false_iff_not] at h8 h13 h19
     simp [C6, Gg, Gf, H4, h8, h13, h19]
    rw [e] at hk
    exact hk _ _ (fun L' => (.cons .sc (.cons .sc (.cons .sc (.cons .sc (.cons .sc (.cons .sc (.cons .nl (.cons .sc (.cons .sc (.cons .sc (.cons .sc (.cons .sc (.cons .sc (.cons .ro (.cons .sc (.cons .sc (.cons .sc (.cons .sc (.cons .sc (.cons .nl (.cons .sc (.cons .sc (.cons .nl (.cons .nl (.cons .nl .nil)))))))))))))))))))))))))) s27.tail.tail.tail
  ·refine B3 h13 ?_
   refine Af (o' := 16) rfl ?_
   refine Ay (c := .sc (.bool p.fHasUser)) s12 Ci rfl ?_
   refine Ai (p.fHasUser) (fun h28 => ?_) (fun h28 => ?_)
   ·refine C1 h28 ?_
    refine Af (o' := 16) rfl ?_
    refine A3 (cs' := [.sc (.int .i64 p.fType), .sc (.bool false), .sc (.int .i64 0), .sc (.bool false), .sc (.int .i64 0), .sc (.string (⟨#[]⟩)), .nl, .sc (.string p.fClient), .sc (.int .i64 p.fLevel), .sc (.bool p.fClean), .sc (.int .i64 p.fKeep), .sc (.bool false), .sc (.string (⟨#[]⟩)), .nl, .sc (.int .i64 0), .sc (.bool false), .sc (.bool true), .sc (.string (⟨#[]⟩)), .sc (.bool false), .nl, .sc (.int .i64 0), .sc (.bool false), .nl, .nl, .nl]) s12 (.here) (Ak rfl) rfl (A7 rfl) rfl fun H s29 => ?_
    refine Af (o' := 17) rfl ?_
    refine Ay (c := .sc (.string p.fUser)) s29 Ci rfl ?_
    refine Af (o' := 17) rfl ?_
    refine A3 (cs' := [.sc (.int .i64 p.fType), .sc (.bool false), .sc (.int .i64 0), .sc (.bool false), .sc (.int .i64 0), .sc (.string (⟨#[]⟩)), .nl, .sc (.string p.fClient), .sc (.int .i64 p.fLevel), .sc (.bool p.fClean), .sc (.int .i64 p.fKeep), .sc (.bool false), .sc (.string (⟨#[]⟩)), .nl, .sc (.int .i64 0), .sc (.bool false), .sc (.bool true), .sc (.string p.fUser), .sc (.bool false), .nl, .sc (.int .i64 0), .sc (.bool false), .nl, .nl, .nl]) s29 (.here) (Ak rfl) rfl (A7 rfl) rfl fun H s30 => ?_
    refine Af (o' := 18) rfl ?_
    refine Ay (c := .sc (.bool p.fHasPass)) s30 Ci rfl ?_
    refine Ai (p.fHasPass) (fun h31 => ?_) (fun h31 => ?_)
    ·refine C1 h31 ?_
     refine Af (o' := 18) rfl ?_
     refine A3 (cs' := [.sc (.int .i64 p.fType), .sc (.bool false), .sc (.int .i64 0), .sc (.bool false), .sc (.int .i64 0), .sc (.string (⟨#[]⟩)), .nl, .sc (.string p.fClient), .sc (.int .i64 p.fLevel), .sc (.bool p.fClean), .sc (.int .i64 p.fKeep), .sc (.bool false), .sc (.string (⟨#[]⟩)), .nl, .sc (.int .i64 0), .sc (.bool false), .sc (.bool true), .sc (.string p.fUser), .sc (.bool true), .nl, .sc (.int .i64 0), .sc (.bool false), .nl, .nl, .nl]) s30 (.here) (Ak rfl) rfl (A7 rfl) rfl fun H s32 => ?_
     refine Af (o' := 19) rfl ?_
     refine Ay (c := Bj p.fPass) s32 Ci rfl ?_
     refine Af (o' := 19) rfl ?_
     refine A3 (cs' := [.sc (.int .i64 p.fType), .sc (.bool false), .sc (.int .i64 0), .sc (.bool false), .sc (.int .i64 0), .sc (.string (⟨#[]⟩)), .nl, .sc (.string p.fClient), .sc (.int .i64 p.fLevel), .sc (.bool p.fClean), .sc (.int .i64 p.fKeep), .sc (.bool false), .sc (.string (⟨#[]⟩)), .nl, .sc (.int .i64 0), .sc (.bool false), .sc (.bool true), .sc (.string p.fUser), .sc (.bool true), Bj p.fPass, .sc (.int .i64 0), .sc (.bool false), .nl, .nl, .nl]) s32 (.here) (Ak rfl) rfl (A7 rfl) rfl fun H s33 => ?_
     refine Aj s33 (.here) rfl ?_
     refine A3 (cs' := [.sc (.int .i64 p.fType), .sc (.bool false), .sc (.int .i64 0), .sc (.bool false), .sc (.int .i64 0), .sc (.string (⟨#[]⟩)), .nl, .sc (.string p.fClient), .sc (.int .i64 p.fLevel), .sc (.bool p.fClean), .sc (.int .i64 p.fKeep), .sc (.bool false), .sc (.string (⟨#[]⟩)), .nl, .sc (.int .i64 0), .sc (.bool false), .sc (.bool true), .sc (.string p.fUser), .sc (.bool true), Bj p.fPass, .sc (.int .i64 0), .sc (.bool false), .nl, .nl, .nl]) s33 A8 (Ad (Aa rfl (Aa rfl (Aa rfl (Aa rfl (Aa rfl (Aa rfl (Aa rfl (Aa rfl (Aa rfl (Aa rfl (Aa rfl (Aa rfl (Aa rfl (Aa rfl (Aa rfl (Aa rfl (Aa rfl (Aa rfl (Aa rfl (Aa rfl (Aa rfl (Aa rfl (Aa rfl (Aa rfl (Aa rfl rfl)))))))))))))))))))))))))) rfl (A7 rfl) rfl fun H s34 => ?_
     refine Aj s34 (.here) rfl ?_
     have e : C6 true p = (⟨p.fType, false, 0, false, 0, ⟨#[]⟩, ⟨#[]⟩, p.fClient, p.fLevel, p.fClean, p.fKeep, false, ⟨#[]⟩, ⟨#[]⟩, 0, false, true, p.fUser, true, p.fPass, 0, false, [], [], []⟩ : B8) := by
      clear hk s0 s2 s4 s6 s7 s9 s10 s11 s12 s29 s30 s32 s33 s34
      simp only [decide_eq_true_eq, decide_eq_false_iff_not] at h8 h13 h28 h31
      simp [C6, Gg, Gf, H4, h8, h13, h28, h31]
     rw [e] at hk
     exact hk _ _ (fun L' => (.cons .sc (.cons .sc (.cons .sc (.cons .sc (.cons .sc (.cons .sc (.cons .nl (.cons .sc (.cons .sc (.cons .sc (.cons .sc (.cons .sc (.cons .sc (.cons .nl (.cons .sc (.cons .sc (.cons .sc (.cons .sc (.cons .sc (.cons .ro (.cons .sc (.cons .sc (.cons .nl (.cons .nl (.cons .nl .nil)))))))))))))))))))))))))) s34.tail.tail.tail
    ·refine B3 h31 ?_
     refine Aj s30 (.here) rfl ?_
     refine A3 (cs' := [.sc (.int .i64 p.fType), .sc (.bool false), .sc (.int .i64 0), .sc (.bool false), .sc (.int .i64 0), .sc (.string (⟨#[]⟩)), .nl, .sc (.string p.fClient), .sc (.int .i64 p.fLevel), .sc (.bool p.fClean), .sc (.int .i64 p.fKeep), .sc (.bool false), .sc (.string (⟨#[]⟩)), .nl, .sc (.int .i64 0), .sc (.bool false), .sc (.bool true), .sc (.string p.fUser), .sc (.bool false), .nl, .sc (.int .i64 0), .sc (.bool false), .nl, .nl, .nl]) s30 A8 (Ad (Aa rfl (Aa rfl (Aa rfl (Aa rfl (Aa rfl (Aa rfl (Aa rfl (Aa rfl (Aa rfl (Aa rfl (Aa rfl (Aa rfl (Aa rfl (Aa rfl (Aa rfl (Aa rfl (Aa rfl (Aa rfl (Aa rfl (Aa rfl (Aa rfl (Aa rfl (Aa rfl (Aa rfl (Aa rfl rfl)))))))))))))))))))))))))) rfl (A7 rfl) rfl fun H s35 => ?_
     refine Aj s35 (.here) rfl ?_
     have e : C6 true p = (⟨p.fType, false, 0, false, 0, ⟨#[]⟩, ⟨#[]⟩, p.fClient, p.fLevel, p.fClean, p.fKeep, false, ⟨#[]⟩, ⟨#[]⟩, 0, false, true, p.fUser, false, ⟨#[]⟩, 0, false, [], [], []⟩ : B8) := by
      clear hk s0 s2 s4 s6 s7 s9 s10 s11 s12 s29 s30 s35
      simp only [decide_eq_true_eq, decide_eq_false_iff_not] at h8 h13 h28 h31
      simp [C6, Gg, Gf, H4, h8, h13, h28, h31]
     rw [e] at hk
     exact hk _ _ (fun L' => (.cons .sc (.cons .sc (.cons .sc (.cons .sc (.cons .sc (.cons .sc (.cons .nl (.cons .sc (.cons .sc (.cons .sc (.cons .sc (.cons .sc (.cons .sc (.cons .nl (.cons .sc (.cons .sc (.cons .sc (.cons .sc (.cons .sc (.cons .nl (.cons .sc (.cons .sc (.cons .nl (.cons .nl (.cons .nl .nil)))))))))))))))))))))))))) s35.tail.tail.tail
   ·refine B3 h28 ?_
    refine Aj s12 (.here) rfl ?_
    refine A3 (cs' := [.sc (.int .i64 p.fType), .sc (.bool false), .sc (.int .i64 0), .sc (.bool false), .sc (.int .i64 0), .sc (.string (⟨#[]⟩)), .nl, .sc (.string p.fClient), .sc (.int .i64 p.fLevel), .sc (.bool p.fClean), .sc (.int .i64 p.fKeep), .sc (.bool false), .sc (.string (⟨#[]⟩)), .nl, .sc (.int .i64 0), .sc (.bool false), .sc (.bool false), .sc (.string (⟨#[]⟩)), .sc (.bool false), .nl, .sc (.int .i64 0), .sc (.bool false), .nl, .nl, .nl]) s12 A8 (Ad (Aa rfl (Aa rfl (Aa rfl (Aa rfl (Aa rfl (Aa rfl (Aa rfl (Aa rfl (Aa rfl (Aa rfl (Aa rfl (Aa rfl (Aa rfl (Aa rfl (Aa rfl (Aa rfl (Aa rfl (Aa rfl (Aa rfl (Aa rfl (Aa rfl (Aa rfl (Aa rfl (Aa rfl (Aa rfl rfl)))))))))))))))))))))))))) rfl (A7 rfl) rfl fun H s36 => ?_
    refine Aj s36 (.here) rfl ?_
    have e : C6 true p = (⟨p.fType, false, 0, false, 0, ⟨#[]⟩, ⟨#[]⟩, p.fClient, p.fLevel, p.fClean, p.fKeep, false, ⟨#[]⟩, ⟨#[]⟩, 0, false, false, ⟨#[]⟩, false, ⟨#[]⟩, 0, false, [], [], []⟩ : B8) := by
     clear hk s0 s2 s4 s6 s7 s9 s10 s11 s12 s36
     simp only [decide_eq_true_eq, decide_eq_false_iff_not] at h8 h13 h28
     simp [C6, Gg, Gf, H4, h8, h13, h28]
    rw [e] at hk
    exact hk _ _ (fun L' => (.cons .sc (.cons .sc (.cons .sc (.cons .sc (.cons .sc (.cons .sc (.cons .nl (.cons .sc (.cons .sc (.cons .sc (.cons .sc (.cons .sc (.cons .sc (.cons .nl (.cons .sc (.cons .sc (.cons .sc (.cons .sc (.cons .sc (.cons .nl (.cons .sc (.cons .sc (.cons .nl (.cons .nl (.cons .nl .nil)))))))))))))))))))))))))) s36.tail.tail.tail
 ·refine B3 h8 ?_
  refine Bv ?_
  refine Ai ((decide (p.fType = 2))) (fun h37 => ?_) (fun h37 => ?_)
  ·refine C1 h37 ?_
   refine Af (o' := 20) rfl ?_
   refine Ay (c := .sc (.int .i64 p.fCode)) s7 Ci rfl ?_
   refine Af (o' := 20) rfl ?_
   refine A3 (cs' := [.sc (.int .i64 p.fType), .sc (.bool false), .sc (.int .i64 0), .sc (.bool false), .sc (.int .i64 0), .sc (.string (⟨#[]⟩)), .nl, .sc (.string (⟨#[]⟩)), .sc (.int .i64 0), .sc (.bool false), .sc (.int .i64 0), .sc (.bool false), .sc (.string (⟨#[]⟩)), .nl, .sc (.int .i64 0), .sc (.bool false), .sc (.bool false), .sc (.string (⟨#[]⟩)), .sc (.bool false), .nl, .sc (.int .i64 p.fCode), .sc (.bool false), .nl, .nl, .nl]) s7 (.here) (Ak rfl) rfl (A7 rfl) rfl fun H s38 => ?_
   refine Af (o' := 21) rfl ?_
   refine Ay (c := .sc (.bool p.fPresent)) s38 Ci rfl ?_
   refine Ai (p.fPresent) (fun h39 => ?_) (fun h39 => ?_)
   ·refine Ag h39 ?_
    refine Af (o' := 20) rfl ?_
    refine Ag h39 ?_
    refine Ay (c := .sc (.int .i64 p.fCode)) s38 Ci rfl ?_
    refine Ag h39 ?_
    refine Bv ?_
    refine D9 h39 ?_
    refine Af (o' := 21) rfl ?_
    refine A3 (cs' := [.sc (.int .i64 p.fType), .sc (.bool false), .sc (.int .i64 0), .sc (.bool false), .sc (.int .i64 0), .sc (.string (⟨#[]⟩)), .nl, .sc (.string (⟨#[]⟩)), .sc (.int .i64 0), .sc (.bool false), .sc (.int .i64 0), .sc (.bool false), .sc (.string (⟨#[]⟩)), .nl, .sc (.int .i64 0), .sc (.bool false), .sc (.bool false), .sc (.string (⟨#[]⟩)), .sc (.bool false), .nl, .sc (.int .i64 p.fCode), .sc (.bool (decide (p.fCode = 0))), .nl, .nl, .nl]) s38 (.here) (Ak rfl) rfl (A7 rfl) rfl fun H s40 => ?_
    refine Aj s40 (.here) rfl ?_
    refine A3 (cs' := [.sc (.int .i64 p.fType), .sc (.bool false), .sc (.int .i64 0), .sc (.bool false), .sc (.int .i64 0), .sc (.string (⟨#[]⟩)), .nl, .sc (.string (⟨#[]⟩)), .sc (.int .i64 0), .sc (.bool false), .sc (.int .i64 0), .sc (.bool false), .sc (.string (⟨#[]⟩)), .nl, .sc (.int .i64 0), .sc (.bool false), .sc (.bool false), .sc (.string (⟨#[]⟩)), .sc (.bool false), .nl, .sc (.int .i64 p.fCode), .sc (.bool (decide (p.fCode = 0))), .nl, .nl, .nl]) s40 A8 (Ad (Aa rfl (Aa rfl (Aa rfl (Aa rfl (Aa rfl (Aa rfl (Aa rfl (Aa rfl (Aa rfl (Aa rfl (Aa rfl (Aa rfl (Aa rfl (Aa rfl (Aa rfl (Aa rfl (Aa rfl (Aa rfl (Aa rfl (Aa rfl (Aa rfl (Aa rfl (Aa rfl (Aa rfl (Aa rfl rfl)))))))))))))))))))))))))) rfl (A7 rfl) rfl fun H s41 => ?_
    refine Aj s41 (.here) rfl ?_
    have e : C6 true p = (⟨p.fType, false, 0, false, 0, ⟨#[]⟩, ⟨#[]⟩, ⟨#[]⟩, 0, false, 0, false, ⟨#[]⟩, ⟨#[]⟩, 0, false, false, ⟨#[]⟩, false, ⟨#[]⟩, p.fCode, (decide (p.fCode = 0)), [], [], []⟩ : B8) := by
     clear hk s0 s2 s4 s6 s7 s38 s40 s41
     simp only [decide_eq_true_eq, decide_eq_false_iff_not] at h8 h37 h39
     simp [C6, Gg, Gf, H4, h8, h37, h39]
    rw [e] at hk
    exact hk _ _ (fun L' => (.cons .sc (.cons .sc (.cons .sc (.cons .sc (.cons .sc (.cons .sc (.cons .nl (.cons .sc (.cons .sc (.cons .sc (.cons .sc (.cons .sc (.cons .sc (.cons .nl (.cons .sc (.cons .sc (.cons .sc (.cons .sc (.cons .sc (.cons .nl (.cons .sc (.cons .sc (.cons .nl (.cons .nl (.cons .nl .nil)))))))))))))))))))))))))) s41.tail.tail.tail
   ·refine B0 h39 ?_
    refine B0 h39 ?_
    refine B0 h39 ?_
    refine C4 h39 ?_
    refine Af (o' := 21) rfl ?_
    refine A3 (cs' := [.sc (.int .i64 p.fType), .sc (.bool false), .sc (.int .i64 0), .sc (.bool false), .sc (.int .i64 0), .sc (.string (⟨#[]⟩)), .nl, .sc (.string (⟨#[]⟩)), .sc (.int .i64 0), .sc (.bool false), .sc (.int .i64 0), .sc (.bool false), .sc (.string (⟨#[]⟩)), .nl, .sc (.int .i64 0), .sc (.bool false), .sc (.bool false), .sc (.string (⟨#[]⟩)), .sc (.bool false), .nl, .sc (.int .i64 p.fCode), .sc (.bool false), .nl, .nl, .nl]) s38 (.here) (Ak rfl) rfl (A7 rfl) rfl fun H s42 => ?_
    refine Aj s42 (.here) rfl ?_
    refine A3 (cs' := [.sc (.int .i64 p.fType), .sc (.bool false), .sc (.int .i64 0), .sc (.bool false), .sc (.int .i64 0), .sc (.string (⟨#[]⟩)), .nl, .sc (.string (⟨#[]⟩)), .sc (.int .i64 0), .sc (.bool false), .sc (.int .i64 0), .sc (.bool false), .sc (.string (⟨#[]⟩)), .nl, .sc (.int .i64 0), .sc (.bool false), .sc (.bool false), .sc (.string (⟨#[]⟩)), .sc (.bool false), .nl, .sc (.int .i64 p.fCode), .sc (.bool false), .nl, .nl, .nl]) s42 A8 (Ad (Aa rfl (Aa rfl (Aa rfl (Aa rfl (Aa rfl (Aa rfl (Aa rfl (Aa rfl (Aa rfl (Aa rfl (Aa rfl (Aa rfl (Aa rfl (Aa rfl (Aa rfl (Aa rfl (Aa rfl (Aa rfl (Aa rfl (Aa rfl (Aa rfl (Aa rfl (Aa rfl (Aa rfl (Aa rfl rfl)))))))))))))))))))))))))) rfl (A7 rfl) rfl fun H s43 => ?_
    refine Aj s43 (.here) rfl ?_
    have e : C6 true p = (⟨p.fType, false, 0, false, 0, ⟨#[]⟩, ⟨#[]⟩, ⟨#[]⟩, 0, false, 0, false, ⟨#[]⟩, ⟨#[]⟩, 0, false, false, ⟨#[]⟩, false, ⟨#[]⟩, p.fCode, false, [], [], []⟩ : B8) := by
     clear hk s0 s2 s4 s6 s7 s38 s42 s43
     simp only [decide_eq_true_eq, decide_eq_false_iff_not] at h8 h37 h39
     simp [C6, Gg, Gf, H4, h8, h37, h39]
    rw [e] at hk
    exact hk _ _ (fun L' => (.cons .sc (.cons .sc (.cons .sc (.cons .sc (.cons .sc (.cons .sc (.cons .nl (.cons .sc (.cons .sc (.cons .sc (.cons .sc (.cons .sc (.cons .sc (.cons .nl (.cons .sc (.cons .sc (.cons .sc (.cons .sc (.cons .sc (.cons .nl (.cons .sc (.cons .sc (.cons .nl (.cons .nl (.cons .nl .nil)))))))))))))))))))))))))) s43.tail.tail.tail
  ·refine B3 h37 ?_
   refine Bv ?_
   refine Ai ((decide (p.fType = 3))) (fun h44 => ?_) (fun h44 => ?_)
   ·refine C1 h44 ?_
    refine Af (o' := 2) rfl ?_
    refine Ay (c := .sc (.int .i64 p.fQos)) s7 Ci rfl ?_
    refine Af (o' := 2) rfl ?_
    refine A3 (cs' := [.sc (.int .i64 p.fType), .sc (.bool false), .sc (.int .i64 p.fQos), .sc (.bool false), .sc (.int .i64 0), .sc (.string (⟨#[]⟩)), .nl, .sc (.string (⟨#[]⟩)), .sc (.int .i64 0), .sc (.bool false), .sc (.int .i64 0), .sc (.bool false), .sc (.string (⟨#[]⟩)), .nl, .sc (.int .i64 0), .sc (.bool false), .sc (.bool false), .sc (.string (⟨#[]⟩)), .sc (.bool false), .nl, .sc (.int .i64 0), .sc (.bool false), .nl, .nl, .nl]) s7 (.here) (Ak rfl) rfl (A7 rfl) rfl fun H s45 => ?_
    refine Af (o' := 3) rfl ?_
    refine Ay (c := .sc (.bool p.fRetain)) s45 Ci rfl ?_
    refine Af (o' := 3) rfl ?_
    refine A3 (cs' := [.sc (.int .i64 p.fType), .sc (.bool false), .sc (.int .i64 p.fQos), .sc (.bool p.fRetain), .sc (.int .i64 0), .sc (.string (⟨#[]⟩)), .nl, .sc (.string (⟨#[]⟩)), .sc (.int .i64 0), .sc (.bool false), .sc (.int .i64 0), .sc (.bool false), .sc (.string (⟨#[]⟩)), .nl, .sc (.int .i64 0), .sc (.bool false), .sc (.bool false), .sc (.string (⟨#[]⟩)), .sc (.bool false), .nl, .sc (.int .i64 0), .sc (.bool false), .nl, .nl, .nl]) s45 (.here) (Ak rfl) rfl (A7 rfl) rfl fun H s46 => ?_
    refine Af (o' := 5) rfl ?_
    refine Ay (c := .sc (.string p.fTopic)) s46 Ci rfl ?_
    refine Af (o' := 5) rfl ?_
    refine A3 (cs' := [.sc (.int .i64 p.fType), .sc (.bool false), .sc (.int .i64 p.fQos), .sc (.bool p.fRetain), .sc (.int .i64 0), .sc (.string p.fTopic), .nl, .sc (.string (⟨#[]⟩)), .sc (.int .i64 0), .sc (.bool false), .sc (.int .i64 0), .sc (.bool false), .sc (.string (⟨#[]⟩)), .nl, .sc (.int .i64 0), .sc (.bool false), .sc (.bool false), .sc (.string (⟨#[]⟩)), .sc (.bool false), .nl, .sc (.int .i64 0), .sc (.bool false), .nl, .nl, .nl]) s46 (.here) (Ak rfl) rfl (A7 rfl) rfl fun H s47 => ?_
    refine Af (o' := 6) rfl ?_
    refine Ay (c := Bj p.fBody) s47 Ci rfl ?_
    refine Af (o' := 6) rfl ?_
    refine A3 (cs' := [.sc (.int .i64 p.fType), .sc (.bool false), .sc (.int .i64 p.fQos), .sc (.bool p.fRetain), .sc (.int .i64 0), .sc (.string p.fTopic), Bj p.fBody, .sc (.string (⟨#[]⟩)), .sc (.int .i64 0), .sc (.bool false), .sc (.int .i64 0), .sc (.bool false), .sc (.string (⟨#[]⟩)), .nl, .sc (.int .i64 0), .sc (.bool false), .sc (.bool false), .sc (.string (⟨#[]⟩)), .sc (.bool false), .nl, .sc (.int .i64 0), .sc (.bool false), .nl, .nl, .nl]) s47 (.here) (Ak rfl) rfl (A7 rfl) rfl fun H s48 => ?_
    refine Af (o' := 2) rfl ?_
    refine Ay (c := .sc (.int .i64 p.fQos)) s48 Ci rfl ?_
    refine Js ?_
    refine Ai ((decide (0 < p.fQos))) (fun h49 => ?_) (fun h49 => ?_)
    ·refine C1 h49 ?_
     refine Af (o' := 1) rfl ?_
     refine Ay (c := .sc (.bool p.fDup)) s48 Ci rfl ?_
     refine Af (o' := 1) rfl ?_
     refine A3 (cs' := [.sc (.int .i64 p.fType), .sc (.bool p.fDup), .sc (.int .i64 p.fQos), .sc (.bool p.fRetain), .sc (.int .i64 0), .sc (.string p.fTopic), Bj p.fBody, .sc (.string (⟨#[]⟩)), .sc (.int .i64 0), .sc (.bool false), .sc (.int .i64 0), .sc (.bool false), .sc (.string (⟨#[]⟩)), .nl, .sc (.int .i64 0), .sc (.bool false), .sc (.bool false), .sc (.string (⟨#[]⟩)), .sc (.bool false), .nl, .sc (.int .i64 0), .sc (.bool false), .nl, .nl, .nl]) s48 (.here) (Ak rfl) rfl (A7 rfl) rfl fun H s50 => ?_
     refine Af (o' := 4) rfl ?_
     refine Ay (c := .sc (.int .i64 p.fId)) s50 Ci rfl ?_
     refine Af (o' := 4) rfl ?_
     refine A3 (cs' := [.sc (.int .i64 p.fType), .sc (.bool p.fDup), .sc (.int .i64 p.fQos), .sc (.bool p.fRetain), .sc (.int .i64 p.fId), .sc (.string p.fTopic), Bj p.fBody, .sc (.string (⟨#[]⟩)), .sc (.int .i64 0), .sc (.bool false), .sc (.int .i64 0), .sc (.bool false), .sc (.string (⟨#[]⟩)), .nl, .sc (.int .i64 0), .sc (.bool false), .sc (.bool false), .sc (.string (⟨#[]⟩)), .sc (.bool false), .nl, .sc (.int .i64 0), .sc (.bool false), .nl, .nl, .nl]) s50 (.here) (Ak rfl) rfl (A7 rfl) rfl fun H s51 => ?_
     refine Aj s51 (.here) rfl ?_
     refine A3 (cs' := [.sc (.int .i64 p.fType), .sc (.bool p.fDup), .sc (.int .i64 p.fQos), .sc (.bool p.fRetain), .sc (.int .i64 p.fId), .sc (.string p.fTopic), Bj p.fBody, .sc (.string (⟨#[]⟩)), .sc (.int .i64 0), .sc (.bool false), .sc (.int .i64 0), .sc (.bool false), .sc (.string (⟨#[]⟩)), .nl, .sc (.int .i64 0), .sc (.bool false), .sc (.bool false), .sc (.string (⟨#[]⟩)), .sc (.bool false), .nl, .sc (.int .i64 0), .sc (.bool false), .nl, .nl, .nl]) s51 A8 (Ad (Aa rfl (Aa rfl (Aa rfl (Aa rfl (Aa rfl (Aa rfl (Aa rfl (Aa rfl (Aa rfl (Aa rfl (Aa rfl (Aa rfl (Aa rfl (Aa rfl (Aa rfl (Aa rfl (Aa rfl (Aa rfl (Aa rfl (Aa rfl (Aa rfl (Aa rfl (Aa rfl (Aa rfl (Aa rfl rfl)))))))))))))))))))))))))) rfl (A7 rfl) rfl fun H s52 => ?_
     refine Aj s52 (.here) rfl ?_
     have e : C6 true p = (⟨p.fType, p.fDup, p.fQos, p.fRetain, p.fId, p.fTopic, p.fBody, ⟨#[]⟩, 0, false, 0, false, ⟨#[]⟩, ⟨#[]⟩, 0, false, false, ⟨#[]⟩, false, ⟨#[]⟩, 0, false, [], [], []⟩ : B8) := by
      clear hk s0 s2 s4 s6 s7 s45 s46 s47 s48 s50 s51 s52
      simp only [decide_eq_true_eq, decide_eq_false_iff_not] at h8 h37 h44 h49
      simp [C6, Gg, Gf, H4, h8, h37, h44, h49]
     rw [e] at hk
     exact hk _ _ (fun L' => (.cons .sc (.cons .sc (.cons .sc (.cons .sc (.cons .sc (.cons .sc (.cons .ro (.cons .sc (.cons .sc (.cons .sc (.cons .sc (.cons .sc (.cons .sc (.cons .nl (.cons .sc (.cons .sc (.cons .sc (.cons .sc (.cons .sc (.cons .nl (.cons .sc (.cons .sc (.cons .nl (.cons .nl (.cons .nl .nil)))))))))))))))))))))))))) s52.tail.tail.tail
    ·refine B3 h49 ?_
     refine Aj s48 (.here) rfl ?_
     refine A3 (cs' := [.sc (.int .i64 p.fType), .sc (.bool false), .sc (.int .i64 p.fQos), .sc (.bool p.fRetain), .sc (.int .i64 0), .sc (.string p.fTopic), Bj p.fBody, .sc (.string (⟨#[]⟩)), .sc (.int .i64 0), .sc (.bool false), .sc (.int .i64 0), .sc (.bool false), .sc (.string (⟨#[]⟩)), .nl, .sc (.int .i64 0), .sc (.bool false), .sc (.bool false), .sc (.string (⟨#[]⟩)), .sc (.bool false), .nl, .sc (.int .i64 0), .sc (.bool false), .nl, .nl, .nl]) s48 A8 (Ad (Aa rfl (Aa rfl (Aa rfl (Aa rfl (Aa rfl (Aa rfl (Aa rfl (Aa rfl (Aa rfl (Aa rfl (Aa rfl (Aa rfl (Aa rfl (Aa rfl (Aa rfl (Aa rfl (Aa rfl (Aa rfl (Aa rfl (Aa rfl (Aa rfl (Aa rfl (Aa rfl (Aa rfl (Aa rfl rfl)))))))))))))))))))))))))) rfl (A7 rfl) rfl fun H s53 => ?_
     refine Aj s53 (.here) rfl ?_
     have e : C6 true p = (⟨p.fType, false, p.fQos, p.fRetain, 0, p.fTopic, p.fBody, ⟨#[]⟩, 0, false, 0, false, ⟨#[]⟩, ⟨#[]⟩, 0, false, false, ⟨#[]⟩, false, ⟨#[]⟩, 0, false, [], [], []⟩ : B8) := by
      clear hk s0 s2 s4 s6 s7 s45 s46 s47 s48 s53
      simp only [decide_eq_true_eq, decide_eq_false_iff_not] at h8 h37 h44 h49
      simp [C6, Gg, Gf, H4, h8, h37, h44, h49]
     rw [e] at hk
     exact hk _ _ (fun L' => (.cons .sc (.cons .sc (.cons .sc (.cons .sc (.cons .sc (.cons .sc (.cons .ro (.cons .sc (.cons .sc (.cons .sc (.cons .sc (.cons .sc (.cons .sc (.cons .nl (.cons .sc (.cons .sc (.cons .sc (.cons .sc (.cons .sc (.cons .nl (.cons .sc (.cons .sc (.cons .nl (.cons .nl (.cons .nl .nil)))))))))))))))))))))))))) s53.tail.tail.tail
   ·refine B3 h44 ?_
    refine Bv ?_
    refine F3 ?_
    refine Ai ((decide (p.fType = 4))) (fun h54 => ?_) (fun h54 => ?_)
    ·refine C1 h54 ?_
     refine C1 h54 ?_
     refine Af (o' := 4) rfl ?_
     refine Ay (c := .sc (.int .i64 p.fId)) s7 Ci rfl ?_
     refine Af (o' := 4) rfl ?_
     refine A3 (cs' := [.sc (.int .i64 p.fType), .sc (.bool false), .sc (.int .i64 0), .sc (.bool false), .sc (.int .i64 p.fId), .sc (.string (⟨#[]⟩)), .nl, .sc (.string (⟨#[]⟩)), .sc (.int .i64 0), .sc (.bool false), .sc (.int .i64 0), .sc (.bool false), .sc (.string (⟨#[]⟩)), .nl, .sc (.int .i64 0), .sc (.bool false), .sc (.bool false), .sc (.string (⟨#[]⟩)), .sc (.bool false), .nl, .sc (.int .i64 0), .sc (.bool false), .nl, .nl, .nl]) s7 (.here) (Ak rfl) rfl (A7 rfl) rfl fun H s55 => ?_
     refine Aj s55 (.here) rfl ?_
     refine A3 (cs' := [.sc (.int .i64 p.fType), .sc (.bool false), .sc (.int .i64 0), .sc (.bool false), .sc (.int .i64 p.fId), .sc (.string (⟨#[]⟩)), .nl, .sc (.string (⟨#[]⟩)), .sc (.int .i64 0), .sc (.bool false), .sc (.int .i64 0), .sc (.bool false), .sc (.string (⟨#[]⟩)), .nl, .sc (.int .i64 0), .sc (.bool false), .sc (.bool false), .sc (.string (⟨#[]⟩)), .sc (.bool false), .nl, .sc (.int .i64 0), .sc (.bool false), .nl, .nl, .nl]) s55 A8 (Ad (Aa rfl (Aa rfl (Aa rfl (Aa rfl (Aa rfl (Aa rfl (Aa rfl (Aa rfl (Aa rfl (Aa rfl (Aa rfl (Aa rfl (Aa rfl (Aa rfl (Aa rfl (Aa rfl (Aa rfl (Aa rfl (Aa rfl (Aa rfl (Aa rfl (Aa rfl (Aa rfl (Aa rfl (Aa rfl rfl)))))))))))))))))))))))))) rfl (A7 rfl) rfl fun H s56 => ?_
     refine Aj s56 (.here) rfl ?_
     have e : C6 true p = (⟨p.fType, false, 0, false, p.fId, ⟨#[]⟩, ⟨#[]⟩, ⟨#[]⟩, 0, false, 0, false, ⟨#[]⟩, ⟨#[]⟩, 0, false, false, ⟨#[]⟩, false, ⟨#[]⟩, 0, false, [], [], []⟩ : B8) := by
      clear hk s0 s2 s4 s6 s7 s55 s56
      simp only [decide_eq_true_eq, decide_eq_false_iff_not] at h8 h37 h44 h54
      simp [C6, Gg, Gf, H4, h8, h37, h44, h54]
     rw [e] at hk
     exact hk _ _ (fun L' => (.cons .sc (.cons .sc (.cons .sc (.cons .sc (.cons .sc (.cons .sc (.cons .nl (.cons .sc (.cons .sc (.cons .sc (.cons .sc (.cons .sc (.cons .sc (.cons .nl (.cons .sc (.cons .sc (.cons .sc (.cons .sc (.cons .sc (.cons .nl (.cons .sc (.cons .sc (.cons .nl (.cons .nl (.cons .nl .nil)))))))))))))))))))))))))) s56.tail.tail.tail
    ·refine B3 h54 ?_
     refine Bv ?_
     refine Ai ((decide (p.fType = 5))) (fun h57 => ?_) (fun h57 => ?_)
     ·refine C1 h57 ?_
      refine C1 h57 ?_
      refine Af (o' := 4) rfl ?_
      refine Ay (c := .sc (.int .i64 p.fId)) s7 Ci rfl ?_
      refine Af (o' := 4) rfl ?_
      refine A3 (cs' := [.sc (.int .i64 p.fType), .sc (.bool false), .sc (.int .i64 0), .sc (.bool false), .sc (.int .i64 p.fId), .sc (.string (⟨#[]⟩)), .nl, .sc (.string (⟨#[]⟩)), .sc (.int .i64 0), .sc (.bool false), .sc (.int .i64 0), .sc (.bool false), .sc (.string (⟨#[]⟩)), .nl, .sc (.int .i64 0), .sc (.bool false), .sc (.bool false), .sc (.string (⟨#[]⟩)), .sc (.bool false), .nl, .sc (.int .i64 0), .sc (.bool false), .nl, .nl, .nl]) s7 (.here) (Ak rfl) rfl (A7 rfl) rfl fun H s58 => ?_
      refine Aj s58 (.here) rfl ?_
      refine A3 (cs' := [.sc (.int .i64 p.fType), .sc (.bool false), .sc (.int .i64 0), .sc (.bool false), .sc (.int .i64 p.fId), .sc (.string (⟨#[]⟩)), .nl, .sc (.string (⟨#[]⟩)), .sc (.int .i64 0), .sc (.bool false), .sc (.int .i64 0), .sc (.bool false), .sc (.string (⟨#[]⟩)), .nl, .sc (.int .i64 0), .sc (.bool false), .sc (.bool false), .sc (.string (⟨#[]⟩)), .sc (.bool false), .nl, .sc (.int .i64 0), .sc (.bool false), .nl, .nl, .nl]) s58 A8 (Ad (Aa rfl (Aa rfl (Aa rfl (Aa rfl (Aa rfl (Aa rfl (Aa rfl (Aa rfl (Aa rfl (Aa rfl (Aa rfl (Aa rfl (Aa rfl (Aa rfl (Aa rfl (Aa rfl (Aa rfl (Aa rfl (Aa rfl (Aa rfl (Aa rfl (Aa rfl (Aa rfl (Aa rfl (Aa rfl rfl)))))))))))))))))))))))))) rfl (A7 rfl) rfl fun H s59 => ?_
      refine Aj s59 (.here) rfl ?_
      have e : C6 true p = (⟨p.fType, false, 0, false, p.fId, ⟨#[]⟩, ⟨#[]⟩, ⟨#[]⟩, 0, false, 0, false, ⟨#[]⟩, ⟨#[]⟩, 0, false, false, ⟨#[]⟩, false, ⟨#[]⟩, 0, false, [], [], []⟩ : B8) := by
       clear hk s0 s2 s4 s6 s7 s58 s59
       simp only [decide_eq_true_eq, decide_eq_false_iff_not] at h8 h37 h44 h54 h57
       simp [C6, Gg, Gf, H4, h8, h37, h44, h54, h57]
      rw [e] at hk
      exact hk _ _ (fun L' => (.cons .sc (.cons .sc (.cons .sc (.cons .sc (.cons .sc (.cons .sc (.cons .nl (.cons .sc (.cons .sc (.cons .sc (.cons .sc (.cons .sc (.cons .sc (.cons .nl (.cons .sc (.cons .sc (.cons .sc (.cons .sc (.cons .sc (.cons .nl (.cons .sc (.cons .sc (.cons .nl (.cons .nl (.cons .nl .nil)))))))))))))))))))))))))) s59.tail.tail.tail
     ·refine B3 h57 ?_
      refine Bv ?_
      refine Ai ((decide (p.fType = 6))) (fun h60 => ?_) (fun h60 => ?_)
      ·refine C1 h60 ?_
       refine C1 h60 ?_
       refine Af (o' := 4) rfl ?_
       refine Ay (c := .sc (.int .i64 p.fId)) s7 Ci rfl ?_
       refine Af (o' := 4) rfl ?_
       refine A3 (cs' := [.sc (.int .i64 p.fType), .sc (.bool false), .sc (.int .i64 0), .sc (.bool false), .sc (.int .i64 p.fId), .sc (.string (⟨#[]⟩)), .nl, .sc (.string (⟨#[]⟩)), .sc (.int .i64 0), .sc (.bool false), .sc (.int .i64 0), .sc (.bool false), .sc (.string (⟨#[]⟩)), .nl, .sc (.int .i64 0), .sc (.bool false), .sc (.bool false), .sc (.string (⟨#[]⟩)), .sc (.bool false), .nl, .sc (.int .i64 0), .sc (.bool false), .nl, .nl, .nl]) s7 (.here) (Ak rfl) rfl (A7 rfl) rfl fun H s61 => ?_
       refine Aj s61 (.here) rfl ?_
       refine A3 (cs' := [.sc (.int .i64 p.fType), .sc (.bool false), .sc (.int .i64 0), .sc (.bool false), .sc (.int .i64 p.fId), .sc (.string (⟨#[]⟩)), .nl, .sc (.string (⟨#[]⟩)), .sc (.int .i64 0), .sc (.bool false), .sc (.int .i64 0), .sc (.bool false), .sc (.string (⟨#[]⟩)), .nl, .sc (.int .i64 0), .sc (.bool false), .sc (.bool false), .sc (.string (⟨#[]⟩)), .sc (.bool false), .nl, .sc (.int .i64 0), .sc (.bool false), .nl, .nl, .nl]) s61 A8 (Ad (Aa rfl (Aa rfl (Aa rfl (Aa rfl (Aa rfl (Aa rfl (Aa rfl (Aa rfl (Aa rfl (Aa rfl (Aa rfl (Aa rfl (Aa rfl (Aa rfl (Aa rfl (Aa rfl (Aa rfl (Aa rfl (Aa rfl (Aa rfl (Aa rfl (Aa rfl (Aa rfl (Aa rfl (Aa rfl rfl)))))))))))))))))))))))))) rfl (A7 rfl) rfl fun H s62 => ?_
       refine Aj s62 (.here) rfl ?_
       have e : C6 true p = (⟨p.fType, false, 0, false, p.fId, ⟨#[]⟩, ⟨#[]⟩, ⟨#[]⟩, 0, false, 0, false, ⟨#[]⟩, ⟨#[]⟩, 0, false, false, ⟨#[]⟩, false, ⟨#[]⟩, 0, false, [], [], []⟩ : B8) := by
        clear hk s0 s2 s4 s6 s7 s61 s62
        simp only [decide_eq_true_eq, decide_eq_false_iff_not] at h8 h37 h44 h54 h57 h60
        simp [C6, Gg, Gf, H4, h8, h37, h44, h54, h57, h60]
       rw [e] at hk
       exact hk _ _ (fun L' => (.cons .sc (.cons .sc (.cons .sc (.cons .sc (.cons .sc (.cons .sc (.cons .nl (.cons .sc (.cons .sc (.cons .sc (.cons .sc (.cons .sc (.cons .sc (.cons .nl (.cons .sc (.cons .sc (.cons .sc (.cons .sc (.cons .sc (.cons .nl (.cons .sc (.cons .sc (.cons .nl (.cons .nl (.cons .nl .nil)))))))))))))))))))))))))) s62.tail.tail.tail
      ·refine B3 h60 ?_
       refine Bv ?_
       refine Ai ((decide (p.fType = 7))) (fun h63 => ?_) (fun h63 => ?_)
       ·refine C1 h63 ?_
        refine C1 h63 ?_
        refine Af (o' := 4) rfl ?_
        refine Ay (c := .sc (.int .i64 p.fId)) s7 Ci rfl ?_
        refine Af (o' := 4) rfl ?_
        refine A3 (cs' := [.sc (.int .i64 p.fType), .sc (.bool false), .sc (.int .i64 0), .sc (.bool false), .sc (.int .i64 p.fId), .sc (.string (⟨#[]⟩)), .nl, .sc (.string (⟨#[]⟩)), .sc (.int .i64 0), .sc (.bool false), .sc (.int .i64 0), .sc (.bool false), .sc (.string (⟨#[]⟩)), .nl, .sc (.int .i64 0), .sc (.bool false), .sc (.bool false), .sc (.string (⟨#[]⟩)), .sc (.bool false), .nl, .sc (.int .i64 0), .sc (.bool false), .nl, .nl, .nl]) s7 (.here) (Ak rfl) rfl (A7 rfl) rfl fun H s64 => ?_
        refine Aj s64 (.here) rfl ?_
        refine A3 (cs' := [.sc (.int .i64 p.fType), .sc (.bool false), .sc (.int .i64 0), .sc (.bool false), .sc (.int .i64 p.fId), .sc (.string (⟨#[]⟩)), .nl, .sc (.string (⟨#[]⟩)), .sc (.int .i64 0), .sc (.bool false), .sc (.int .i64 0), .sc (.bool false), .sc (.string (⟨#[]⟩)), .nl, .sc (.int .i64 0), .sc (.bool false), .sc (.bool false), .sc (.string (⟨#[]⟩)), .sc (.bool false), .nl, .sc (.int .i64 0), .sc (.bool false), .nl, .nl, .nl]) s64 A8 (Ad (Aa rfl (Aa rfl (Aa rfl (Aa rfl (Aa rfl (Aa rfl (Aa rfl (Aa rfl (Aa rfl (Aa rfl (Aa rfl (Aa rfl (Aa rfl (Aa rfl (Aa rfl (Aa rfl (Aa rfl (Aa rfl (Aa rfl (Aa rfl (Aa rfl (Aa rfl (Aa rfl (Aa rfl (Aa rfl rfl)))))))))))))))))))))))))) rfl (A7 rfl) rfl fun H s65 => ?_
        refine Aj s65 (.here) rfl ?_
        have e : C6 true p = (⟨p.fType, false, 0, false, p.fId, ⟨#[]⟩, ⟨#[]⟩, ⟨#[]⟩, 0, false, 0, false, ⟨#[]⟩, ⟨#[]⟩, 0, false, false, ⟨#[]⟩, false, ⟨#[]⟩, 0, false, [], [], []⟩ : B8) := by
         clear hk s0 s2 s4 s6 s7 s64 s65
         simp only [decide_eq_true_eq, decide_eq_false_iff_not] at h8 h37 h44 h54 h57 h60 h63
         simp [C6, Gg, Gf, H4, h8, h37, h44, h54, h57, h60, h63]
        rw [e] at hk
        exact hk _ _ (fun L' => (.cons .sc (.cons .sc (.cons .sc (.cons .sc (.cons .sc (.cons .sc (.cons .nl (.cons .sc (.cons .sc (.cons .sc (.cons .sc (.cons .sc (.cons .sc (.cons .nl (.cons .sc (.cons .sc (.cons .sc (.cons .sc (.cons .sc (.cons .nl (.cons .sc (.cons .sc (.cons .nl (.cons .nl (.cons .nl .nil)))))))))))))))))))))))))) s65.tail.tail.tail
       ·refine B3 h63 ?_
        refine Bv ?_
        refine Ai ((decide (p.fType = 11))) (fun h66 => ?_) (fun h66 => ?_)
        ·refine C1 h66 ?_
         refine Af (o' := 4) rfl ?_
         refine Ay (c := .sc (.int .i64 p.fId)) s7 Ci rfl ?_
         refine Af (o' := 4) rfl ?_
         refine A3 (cs' := [.sc (.int .i64 p.fType), .sc (.bool false), .sc (.int .i64 0), .sc (.bool false), .sc (.int .i64 p.fId), .sc (.string (⟨#[]⟩)), .nl, .sc (.string (⟨#[]⟩)), .sc (.int .i64 0), .sc (.bool false), .sc (.int .i64 0), .sc (.bool false), .sc (.string (⟨#[]⟩)), .nl, .sc (.int .i64 0), .sc (.bool false), .sc (.bool false), .sc (.string (⟨#[]⟩)), .sc (.bool false), .nl, .sc (.int .i64 0), .sc (.bool false), .nl, .nl, .nl]) s7 (.here) (Ak rfl) rfl (A7 rfl) rfl fun H s67 => ?_
         refine Aj s67 (.here) rfl ?_
         refine A3 (cs' := [.sc (.int .i64 p.fType), .sc (.bool false), .sc (.int .i64 0), .sc (.bool false), .sc (.int .i64 p.fId), .sc (.string (⟨#[]⟩)), .nl, .sc (.string (⟨#[]⟩)), .sc (.int .i64 0), .sc (.bool false), .sc (.int .i64 0), .sc (.bool false), .sc (.string (⟨#[]⟩)), .nl, .sc (.int .i64 0), .sc (.bool false), .sc (.bool false), .sc (.string (⟨#[]⟩)), .sc (.bool false), .nl, .sc (.int .i64 0), .sc (.bool false), .nl, .nl, .nl]) s67 A8 (Ad (Aa rfl (Aa rfl (Aa rfl (Aa rfl (Aa rfl (Aa rfl (Aa rfl (Aa rfl (Aa rfl (Aa rfl (Aa rfl (Aa rfl (Aa rfl (Aa rfl (Aa rfl (Aa rfl (Aa rfl (Aa rfl (Aa rfl (Aa rfl (Aa rfl (Aa rfl (Aa rfl (Aa rfl (Aa rfl rfl)))))))))))))))))))))))))) rfl (A7 rfl) rfl fun H s68 => ?_
         refine Aj s68 (.here) rfl ?_
         have e : C6 true p = (⟨p.fType, false, 0, false, p.fId, ⟨#[]⟩, ⟨#[]⟩, ⟨#[]⟩, 0, false, 0, false, ⟨#[]⟩, ⟨#[]⟩, 0, false, false, ⟨#[]⟩, false, ⟨#[]⟩, 0, false, [], [], []⟩ : B8) := by
          clear hk s0 s2 s4 s6 s7 s67 s68
          simp only [decide_eq_true_eq, decide_eq_false_iff_not] at h8 h37 h44 h54 h57 h60 h63 h66
          simp [C6, Gg, Gf, H4, h8, h37, h44, h54, h57, h60, h63, h66]
         rw [e] at hk
         exact hk _ _ (fun L' => (.cons .sc (.cons .sc (.cons .sc (.cons .sc (.cons .sc (.cons .sc (.cons .nl (.cons .sc (.cons .sc (.cons .sc (.cons .sc (.cons .sc (.cons .sc (.cons .nl (.cons .sc (.cons .sc (.cons .sc (.cons .sc (.cons .sc (.cons .nl (.cons .sc (.cons .sc (.cons .nl (.cons .nl (.cons .nl .nil)))))))))))))))))))))))))) s68.tail.tail.tail
        ·refine B3 h66 ?_
         refine Bv ?_
         refine Ai ((decide (p.fType = 8))) (fun h69 => ?_) (fun h69 => ?_)
         ·refine C1 h69 ?_
          refine Af (o' := 4) rfl ?_
          refine Ay (c := .sc (.int .i64 p.fId)) s7 Ci rfl ?_
          refine Af (o' := 4) rfl ?_
          refine A3 (cs' := [.sc (.int .i64 p.fType), .sc (.bool false), .sc (.int .i64 0), .sc (.bool false), .sc (.int .i64 p.fId), .sc (.string (⟨#[]⟩)), .nl, .sc (.string (⟨#[]⟩)), .sc (.int .i64 0), .sc (.bool false), .sc (.int .i64 0), .sc (.bool false), .sc (.string (⟨#[]⟩)), .nl, .sc (.int .i64 0), .sc (.bool false), .sc (.bool false), .sc (.string (⟨#[]⟩)), .sc (.bool false), .nl, .sc (.int .i64 0), .sc (.bool false), .nl, .nl, .nl]) s7 (.here) (Ak rfl) rfl (A7 rfl) rfl fun H s70 => ?_
          refine Af (o' := 22) rfl ?_
          refine Ay (c := Al Ez p.fWants) s70 Ci rfl ?_
          refine Af (o' := 22) rfl ?_
          refine A3 (cs' := [.sc (.int .i64 p.fType), .sc (.bool false), .sc (.int .i64 0), .sc (.bool false), .sc (.int .i64 p.fId), .sc (.string (⟨#[]⟩)), .nl, .sc (.string (⟨#[]⟩)), .sc (.int .i64 0), .sc (.bool false), .sc (.int .i64 0), .sc (.bool false), .sc (.string (⟨#[]⟩)), .nl, .sc (.int .i64 0), .sc (.bool false), .sc (.bool false), .sc (.string (⟨#[]⟩)), .sc (.bool false), .nl, .sc (.int .i64 0), .sc (.bool false), Al Ez p.fWants, .nl, .nl]) s70 (.here) (Ak rfl) rfl (A7 rfl) rfl fun H s71 => ?_
          refine Aj s71 (.here) rfl ?_
          refine A3 (cs' := [.sc (.int .i64 p.fType), .sc (.bool false), .sc (.int .i64 0), .sc (.bool false), .sc (.int .i64 p.fId), .sc (.string (⟨#[]⟩)), .nl, .sc (.string (⟨#[]⟩)), .sc (.int .i64 0), .sc (.bool false), .sc (.int .i64 0), .sc (.bool false), .sc (.string (⟨#[]⟩)), .nl, .sc (.int .i64 0), .sc (.bool false), .sc (.bool false), .sc (.string (⟨#[]⟩)), .sc (.bool false), .nl, .sc (.int .i64 0), .sc (.bool false), Al Ez p.fWants, .nl, .nl]) s71 A8 (Ad (Aa rfl (Aa rfl (Aa rfl (Aa rfl (Aa rfl (Aa rfl (Aa rfl (Aa rfl (Aa rfl (Aa rfl (Aa rfl (Aa rfl (Aa rfl (Aa rfl (Aa rfl (Aa rfl (Aa rfl (Aa rfl (Aa rfl (Aa rfl (Aa rfl (Aa rfl (Aa rfl (Aa rfl (Aa rfl rfl)))))))))))))))))))))))))) rfl (A7 rfl) rfl fun H s72 => ?_
          refine Aj s72 (.here) rfl ?_
          have e : C6 true p = (⟨p.fType, false, 0, false, p.fId, ⟨#[]⟩, ⟨#[]⟩, ⟨#[]⟩, 0, false, 0, false, ⟨#[]⟩, ⟨#[]⟩, 0, false, false, ⟨#[]⟩, false, ⟨#[]⟩, 0, false, p.fWants, [], []⟩ : B8) := by
           clear hk s0 s2 s4 s6 s7 s70 s71 s72
           simp only [decide_eq_true_eq, decide_eq_false_iff_not] at h8 h37 h44 h54 h57 h60 h63 h66 h69
           simp [C6, Gg, Gf, H4, h8, h37, h44, h54, h57, h60, h63, h66, h69]
          rw [e] at hk
          exact hk _ _ (fun L' => (.cons .sc (.cons .sc (.cons .sc (.cons .sc (.cons .sc (.cons .sc (.cons .nl (.cons .sc (.cons .sc (.cons .sc (.cons .sc (.cons .sc (.cons .sc (.cons .nl (.cons .sc (.cons .sc (.cons .sc (.cons .sc (.cons .sc (.cons .nl (.cons .sc (.cons .sc (.cons .ro (.cons .nl (.cons .nl .nil)))))))))))))))))))))))))) s72.tail.tail.tail
         ·refine B3 h69 ?_
          refine Bv ?_
          refine Ai ((decide (p.fType = 9))) (fun h73 => ?_) (fun h73 => ?_)
          ·refine C1 h73 ?_
           refine Af (o' := 4) rfl ?_
           refine Ay (c := .sc (.int .i64 p.fId)) s7 Ci rfl ?_
           refine Af (o' := 4) rfl ?_
           refine A3 (cs' := [.sc (.int .i64 p.fType), .sc (.bool false), .sc (.int .i64 0), .sc (.bool false), .sc (.int .i64 p.fId), .sc (.string (⟨#[]⟩)), .nl, .sc (.string (⟨#[]⟩)), .sc (.int .i64 0), .sc (.bool false), .sc (.int .i64 0), .sc (.bool false), .sc (.string (⟨#[]⟩)), .nl, .sc (.int .i64 0), .sc (.bool false), .sc (.bool false), .sc (.string (⟨#[]⟩)), .sc (.bool false), .nl, .sc (.int .i64 0), .sc (.bool false), .nl, .nl, .nl]) s7 (.here) (Ak rfl) rfl (A7 rfl) rfl fun H s74 => ?_
           refine Af (o' := 24) rfl ?_
           refine Ay (c := Dn p.fCodes) s74 Ci rfl ?_
           refine Af (o' := 24) rfl ?_
           refine A3 (cs' := [.sc (.int .i64 p.fType), .sc (.bool false), .sc (.int .i64 0), .sc (.bool false), .sc (.int .i64 p.fId), .sc (.string (⟨#[]⟩)), .nl, .sc (.string (⟨#[]⟩)), .sc (.int .i64 0), .sc (.bool false), .sc (.int .i64 0), .sc (.bool false), .sc (.string (⟨#[]⟩)), .nl, .sc (.int .i64 0), .sc (.bool false), .sc (.bool false), .sc (.string (⟨#[]⟩)), .sc (.bool false), .nl, .sc (.int .i64 0), .sc (.bool false), .nl, .nl, Dn p.fCodes]) s74 (.here) (Ak rfl) rfl (A7 rfl) rfl fun H s75 => ?_
           refine Aj s75 (.here) rfl ?_
           refine A3 (cs' := [.sc (.int .i64 p.fType), .sc (.bool false), .sc (.int .i64 0), .sc (.bool false), .sc (.int .i64 p.fId), .sc (.string (⟨#[]⟩)), .nl, .sc (.string (⟨#[]⟩)), .sc (.int .i64 0), .sc (.bool false), .sc (.int .i64 0), .sc (.bool false), .sc (.string (⟨#[]⟩)), .nl, .sc (.int .i64 0), .sc (.bool false), .sc (.bool false), .sc (.string (⟨#[]⟩)), .sc (.bool false), .nl, .sc (.int .i64 0), .sc (.bool false), .nl, .nl, Dn p.fCodes]) s75 A8 (Ad (Aa rfl (Aa rfl (Aa rfl (Aa rfl (Aa rfl (Aa rfl (Aa rfl (Aa rfl (Aa rfl (Aa rfl (Aa rfl (Aa rfl (Aa rfl (Aa rfl (Aa rfl (Aa rfl (Aa rfl (Aa rfl (Aa rfl (Aa rfl (Aa rfl (Aa rfl (Aa rfl (Aa rfl (Aa rfl rfl)))))))))))))))))))))))))) rfl (A7 rfl) rfl fun H s76 => ?_
           refine Aj s76 (.here) rfl ?_
           have e : C6 true p = (⟨p.fType, false, 0, false, p.fId, ⟨#[]⟩, ⟨#[]⟩, ⟨#[]⟩, 0, false, 0, false, ⟨#[]⟩, ⟨#[]⟩, 0, false, false, ⟨#[]⟩, false, ⟨#[]⟩, 0, false, [], [], p.fCodes⟩ : B8) := by
            clear hk s0 s2 s4 s6 s7 s74 s75 s76
            simp only [decide_eq_true_eq, decide_eq_false_iff_not] at h8 h37 h44 h54 h57 h60 h63 h66 h69 h73
            simp [C6, Gg, Gf, H4, h8, h37, h44, h54, h57, h60, h63, h66, h69, h73]
           rw [e] at hk
           exact hk _ _ (fun L' => (.cons .sc (.cons .sc (.cons .sc (.cons .sc (.cons .sc (.cons .sc (.cons .nl (.cons .sc (.cons .sc (.cons .sc (.cons .sc (.cons .sc (.cons .sc (.cons .nl (.cons .sc (.cons .sc (.cons .sc (.cons .sc (.cons .sc (.cons .nl (.cons .sc (.cons .sc (.cons .nl (.cons .nl (.cons .ro .nil)))))))))))))))))))))))))) s76.tail.tail.tail
          ·refine B3 h73 ?_
           refine Bv ?_
           refine Ai ((decide (p.fType = 10))) (fun h77 => ?_) (fun h77 => ?_)
           ·refine C1 h77 ?_
            refine Af (o' := 4) rfl ?_
            refine Ay (c := .sc (.int .i64 p.fId)) s7 Ci rfl ?_
            refine Af (o' := 4) rfl ?_
            refine A3 (cs' := [.sc (.int .i64 p.fType), .sc (.bool false), .sc (.int .i64 0), .sc (.bool false), .sc (.int .i64 p.fId), .sc (.string (⟨#[]⟩)), .nl, .sc (.string (⟨#[]⟩)), .sc (.int .i64 0), .sc (.bool false), .sc (.int .i64 0), .sc (.bool false), .sc (.string (⟨#[]⟩)), .nl, .sc (.int .i64 0), .sc (.bool false), .sc (.bool false), .sc (.string (⟨#[]⟩)), .sc (.bool false), .nl, .sc (.int .i64 0), .sc (.bool false), .nl, .nl, .nl]) s7 (.here) (Ak rfl) rfl (A7 rfl) rfl fun H s78 => ?_
            refine Af (o' := 23) rfl ?_
            refine Ay (c := Mj p.fNames) s78 Ci rfl ?_
            refine Af (o' := 23) rfl ?_
            refine A3 (cs' := [.sc (.int .i64 p.fType), .sc (.bool false), .sc (.int .i64 0), .sc (.bool false), .sc (.int .i64 p.fId), .sc (.string (⟨#[]⟩)), .nl, .sc (.string (⟨#[]⟩)), .sc (.int .i64 0), .sc (.bool false), .sc (.int .i64 0), .sc (.bool false), .sc (.string (⟨#[]⟩)), .nl, .sc (.int .i64 0), .sc (.bool false), .sc (.bool false), .sc (.string (⟨#[]⟩)), .sc (.bool false), .nl, .sc (.int .i64 0), .sc (.bool false), .nl, Mj p.fNames, .nl]) s78 (.here) (Ak rfl) rfl (A7 rfl) rfl fun H s79 => ?_
            refine Aj s79 (.here) rfl ?_
            refine A3 (cs' := [.sc (.int .i64 p.fType), .sc (.bool false), .sc (.int .i64 0), .sc (.bool false), .sc (.int .i64 p.fId), .sc (.string (⟨#[]⟩)), .nl, .sc (.string (⟨#[]⟩)), .sc (.int .i64 0), .sc (.bool false), .sc (.int .i64 0), .sc (.bool false), .sc (.string (⟨#[]⟩)), .nl, .sc (.int .i64 0), .sc (.bool false), .sc (.bool false), .sc (.string (⟨#[]⟩)), .sc (.bool false), .nl, .sc (.int .i64 0), .sc (.bool false), .nl, Mj p.fNames, .nl]) s79 A8 (Ad (Aa rfl (Aa rfl (Aa rfl (Aa rfl (Aa rfl (Aa rfl (Aa rfl (Aa rfl (Aa rfl (Aa rfl (Aa rfl (Aa rfl (Aa rfl (Aa rfl (Aa rfl (Aa rfl (Aa rfl (Aa rfl (Aa rfl (Aa rfl (Aa rfl (Aa rfl (Aa rfl (Aa rfl (Aa rfl rfl)))))))))))))))))))))))))) rfl (A7 rfl) rfl fun H s80 => ?_
            refine Aj s80 (.here) rfl ?_
            have e : C6 true p = (⟨p.fType, false, 0, false, p.fId, ⟨#[]⟩, ⟨#[]⟩, ⟨#[]⟩, 0, false, 0, false, ⟨#[]⟩, ⟨#[]⟩, 0, false, false, ⟨#[]⟩, false, ⟨#[]⟩, 0, false, [], p.fNames, []⟩ : B8) := by
             clear hk s0 s2 s4 s6 s7 s78 s79 s80
             simp only [decide_eq_true_eq, decide_eq_false_iff_not] at h8 h37 h44 h54 h57 h60 h63 h66 h69 h73 h77
             simp [C6, Gg, Gf, H4, h8, h37, h44, h54, h57, h60, h63, h66, h69, h73, h77]
            rw [e] at hk
            exact hk _ _ (fun L' => (.cons .sc (.cons .sc (.cons .sc (.cons .sc (.cons .sc (.cons .sc (.cons .nl (.cons .sc (.cons .sc (.cons .sc (.cons .sc (.cons .sc (.cons .sc (.cons .nl (.cons .sc (.cons .sc (.cons .sc (.cons .sc (.cons .sc (.cons .nl (.cons .sc (.cons .sc (.cons .nl (.cons .ro (.cons .nl .nil)))))))))))))))))))))))))) s80.tail.tail.tail
           ·refine B3 h77 ?_
            refine Aj s7 (.here) rfl ?_
            refine A3 (cs' := [.sc (.int .i64 p.fType), .sc (.bool false), .sc (.int .i64 0), .sc (.bool false), .sc (.int .i64 0), .sc (.string (⟨#[]⟩)), .nl, .sc (.string (⟨#[]⟩)), .sc (.int .i64 0), .sc (.bool false), .sc (.int .i64 0), .sc (.bool false), .sc (.string (⟨#[]⟩)), .nl, .sc (.int .i64 0), .sc (.bool false), .sc (.bool false), .sc (.string (⟨#[]⟩)), .sc (.bool false), .nl, .sc (.int .i64 0), .sc (.bool false), .nl, .nl, .nl]) s7 A8 (Ad (Aa rfl (Aa rfl (Aa rfl (Aa rfl (Aa rfl (Aa rfl (Aa rfl (Aa rfl (Aa rfl (Aa rfl (Aa rfl (Aa rfl (Aa rfl (Aa rfl (Aa rfl (Aa rfl (Aa rfl (Aa rfl (Aa rfl (Aa rfl (Aa rfl (Aa rfl (Aa rfl (Aa rfl (Aa rfl rfl)))))))))))))))))))))))))) rfl (A7 rfl) rfl fun H s81 => ?_
            refine Aj s81 (.here) rfl ?_
            have e : C6 true p = (⟨p.fType, false, 0, false, 0, ⟨#[]⟩, ⟨#[]⟩, ⟨#[]⟩, 0, false, 0, false, ⟨#[]⟩, ⟨#[]⟩, 0, false, false, ⟨#[]⟩, false, ⟨#[]⟩, 0, false, [], [], []⟩ : B8) := by
             clear hk s0 s2 s4 s6 s7 s81
             simp only [decide_eq_true_eq, decide_eq_false_iff_not] at h8 h37 h44 h54 h57 h60 h63 h66 h69 h73 h77
             simp [C6, Gg, Gf, H4, h8, h37, h44, h54, h57, h60, h63, h66, h69, h73, h77]
            rw [e] at hk
            exact hk _ _ (fun L' => (.cons .sc (.cons .sc (.cons .sc (.cons .sc (.cons .sc (.cons .sc (.cons .nl (.cons .sc (.cons .sc (.cons .sc (.cons .sc (.cons .sc (.cons .sc (.cons .nl (.cons .sc (.cons .sc (.cons .sc (.cons .sc (.cons .sc (.cons .nl (.cons .sc (.cons .sc (.cons .nl (.cons .nl (.cons .nl .nil)))))))))))))))))))))))))) s81.tail.tail.tail
end
section
open Go
def Ig (t i : Int) : B8 := ⟨t, false, 0, false, i, ⟨#[]⟩, ⟨#[]⟩, ⟨#[]⟩, 0, false, 0, false, ⟨#[]⟩, ⟨#[]⟩, 0, false, false, ⟨#[]⟩, false, ⟨#[]⟩, 0, false, [], [], []⟩
def Zu (t i : Int) : B8 := if K0 i 1 65535 = true then Ig t i else Q1
abbrev Cw (i : Int) : B8 := Zu 6 i
theorem AfU (pc : Bool) (i : Int) : G7 (Ig 6 i) (C6 pc (Ig 6 i)) = true := by
 simp [G7, Oe, G5, C6, H4, Ig, Pv, Jk]
theorem Acv (n : Nat) (hn : 1048576 < n) (i : Int) : Di E0 (n + 3) 4 178 [.agg (C7 (Ig 6 i))] = some (.sc (.bool (K0 i 1 65535))) := by
 rw [Bu, Aes, f178]
 refine Iu (G := (· = some (.sc (.bool (K0 i 1 65535))))) ?_
 try simp only [De, Bi, A4, A9, Ew, Aw, Bx, Ch, Ca]
 have s0 : Sep [] [] := Kd
 refine Qh s0 (H8 (K9 _)) fun i1 H s2 => ?_
 refine Af (o' := 0) rfl ?_
 refine Ay (c := .sc (.int .i64 ((Ig 6 i).fType))) s2 (.here) rfl ?_
 refine F6 (v := (.bool (K0 ((Ig 6 i).fType) 1 14))) s2 rfl (.cons .sc (.cons .sc (.cons .sc .nil))) (Mw (n + 1) _ ((Ig 6 i).fType) 1 14) ?_
 refine F8 ?_
 refine Ag (nF rfl) ?_
 refine Aj s2 (.here) rfl ?_
 refine Gd.bothE ?_ ?_
 ·refine Ag (nF rfl) ?_
  refine Aj s2 (.here) rfl ?_
  refine Ag (nF rfl) ?_
  refine Gc rfl rfl ?_
  refine Rs (n + 1) (by omega) (Ig 6 i) s2 fun Rs3 H hRs3 s3 => ?_
  refine Ag (nF rfl) ?_
  refine F6 (v := (.bool (G7 (Ig 6 i) (C6 true (Ig 6 i))))) s3 rfl (.aggF (K9 _) (.agg (hRs3 _) .nil)) (Ml n (by omega) _ (Ig 6 i) (C6 true (Ig 6 i)) (Nat.zero_le _) (Nat.zero_le _) (Nat.zero_le _)) ?_
  refine Ag (nF rfl) ?_
  refine F8 ?_
  refine C4 (nF rfl) ?_
  refine B3 (nF (AfU true i)) ?_
  refine Af (o' := 4) rfl ?_
  refine Ay (c := .sc (.int .i64 ((Ig 6 i).fId))) s3 (.here) rfl ?_
  refine F6 (v := (.bool (K0 ((Ig 6 i).fId) 1 65535))) s3 rfl (.cons .sc (.cons .sc (.cons .sc .nil))) (Mw (n + 1) _ ((Ig 6 i).fId) 1 65535) ?_
  refine Af (o' := 0) rfl ?_
  refine Ay (c := .sc (.int .i64 ((Ig 6 i).fType))) s3 (.here) rfl ?_
  refine Bv ?_
  refine B3 rfl ?_
  refine Bv ?_
  refine B3 rfl ?_
  refine Bv ?_
  refine B3 rfl ?_
  refine Bv ?_
  refine F3 ?_
  refine B3 rfl ?_
  refine Bv ?_
  refine B3 rfl ?_
  refine Bv ?_
  refine B3 rfl ?_
  refine Bv ?_
  refine B3 rfl ?_
  refine Bv ?_
  refine B3 rfl ?_
  refine Bv ?_
  refine B3 rfl ?_
  refine Dr rfl ?_
  first | rfl | (simp_all; done)
 ·refine Ag (nF rfl) ?_
  refine Gc rfl rfl ?_
  refine Rs (n + 1) (by omega) (Ig 6 i) s2 fun Rs4 H hRs4 s4 => ?_
  refine Ag (nF rfl) ?_
  refine Aj s4 (.here) rfl ?_
  refine Ag (nF rfl) ?_
  refine F6 (v := (.bool (G7 (Ig 6 i) (C6 true (Ig 6 i))))) s4 rfl (.aggF (K9 _) (.agg (hRs4 _) .nil)) (Ml n (by omega) _ (Ig 6 i) (C6 true (Ig 6 i)) (Nat.zero_le _) (Nat.zero_le _) (Nat.zero_le _)) ?_
  refine Ag (nF rfl) ?_
  refine F8 ?_
  refine C4 (nF rfl) ?_
  refine B3 (nF (AfU true i)) ?_
  refine Af (o' := 4) rfl ?_
  refine Ay (c := .sc (.int .i64 ((Ig 6 i).fId))) s4 (.here) rfl ?_
  refine F6 (v := (.bool (K0 ((Ig 6 i).fId) 1 65535))) s4 rfl (.cons .sc (.cons .sc (.cons .sc .nil))) (Mw (n + 1) _ ((Ig 6 i).fId) 1 65535) ?_
  refine Af (o' := 0) rfl ?_
  refine Ay (c := .sc (.int .i64 ((Ig 6 i).fType))) s4 (.here) rfl ?_
  refine Bv ?_
  refine B3 rfl ?_
  refine Bv ?_
  refine B3 rfl ?_
  refine Bv ?_
  refine B3 rfl ?_
  refine Bv ?_
  refine F3 ?_
  refine B3 rfl ?_
  refine Bv ?_
  refine B3 rfl ?_
  refine Bv ?_
  refine B3 rfl ?_
  refine Bv ?_
  refine B3 rfl ?_
  refine Bv ?_
  refine B3 rfl ?_
  refine Bv ?_
  refine B3 rfl ?_
  refine Dr rfl ?_
  first | rfl | (simp_all; done)
theorem AaJ (n : Nat) (hn : 1048576 < n) (i : Int) : Di E0 (n + 4) 78 164 [.sc (.int .i64 6), .sc (.int .i64 i)] = some (.agg (C7 (Zu 6 i))) := by
 rw [Bu, AeD, f164]
 refine Iu (G := (· = some (.agg (C7 (Zu 6 i))))) ?_
 try simp only [Cj, A4, A6, A9, Ew, Aw, Bx, Ch, Be]
 have s0 : Sep [] [] := Kd
 refine C8 s0 fun i1 H s2 => ?_
 refine Bk (cs := [.sc (.int .i64 6), .sc (.bool false), .sc (.int .i64 0), .sc (.bool false), .sc (.int .i64 i), .sc (.string (⟨#[]⟩)), .nl, .sc (.string (⟨#[]⟩)), .sc (.int .i64 0), .sc (.bool false), .sc (.int .i64 0), .sc (.bool false), .sc (.string (⟨#[]⟩)), .nl, .sc (.int .i64 0), .sc (.bool false), .sc (.bool false), .sc (.string (⟨#[]⟩)), .sc (.bool false), .nl, .sc (.int .i64 0), .sc (.bool false), .nl, .nl, .nl]) rfl ?_
 refine C8 s2 fun i3 H s4 => ?_
 refine A3 (cs' := [.sc (.int .i64 6), .sc (.bool false), .sc (.int .i64 0), .sc (.bool false), .sc (.int .i64 i), .sc (.string (⟨#[]⟩)), .nl, .sc (.string (⟨#[]⟩)), .sc (.int .i64 0), .sc (.bool false), .sc (.int .i64 0), .sc (.bool false), .sc (.string (⟨#[]⟩)), .nl, .sc (.int .i64 0), .sc (.bool false), .sc (.bool false), .sc (.string (⟨#[]⟩)), .sc (.bool false), .nl, .sc (.int .i64 0), .sc (.bool false), .nl, .nl, .nl]) s4 (.here) (Ad (Aa rfl (Aa rfl (Aa rfl (Aa rfl (Aa rfl (Aa rfl (Aa rfl (Aa rfl (Aa rfl (Aa rfl (Aa rfl (Aa rfl (Aa rfl (Aa rfl (Aa rfl (Aa rfl (Aa rfl (Aa rfl (Aa rfl (Aa rfl (Aa rfl (Aa rfl (Aa rfl (Aa rfl (Aa rfl rfl)))))))))))))))))))))))))) rfl (A7 rfl) rfl fun H s5 => ?_
 refine F6 (v := (.bool (K0 6 4 7))) s5 rfl (.cons .sc (.cons .sc (.cons .sc .nil))) (Mw (n + 2) _ 6 4 7) ?_
 refine F8 ?_
 refine B0 (nF rfl) ?_
 refine B0 (nF rfl) ?_
 refine C4 (nF rfl) ?_
 refine Ag rfl ?_
 refine Aj s5 (.here) rfl ?_
 refine Ag rfl ?_
 refine F6 (v := (.bool (K0 i 1 65535))) s5 rfl (.agg (.cons .sc (.cons .sc (.cons .sc (.cons .sc (.cons .sc (.cons .sc (.cons .nl (.cons .sc (.cons .sc (.cons .sc (.cons .sc (.cons .sc (.cons .sc (.cons .nl (.cons .sc (.cons .sc (.cons .sc (.cons .sc (.cons .sc (.cons .nl (.cons .sc (.cons .sc (.cons .nl (.cons .nl (.cons .nl .nil))))))))))))))))))))))))) .nil) (Acv n (by omega) i) ?_
 refine Ag rfl ?_
 refine F8 ?_
 refine C4 rfl ?_
 refine Ai ((K0 i 1 65535)) (fun h6 => ?_) (fun h6 => ?_)
 ·refine B3 (nF h6) ?_
  refine Aj s5 (.here) rfl ?_
  refine A3 (cs' := [.sc (.int .i64 6), .sc (.bool false), .sc (.int .i64 0), .sc (.bool false), .sc (.int .i64 i), .sc (.string (⟨#[]⟩)), .nl, .sc (.string (⟨#[]⟩)), .sc (.int .i64 0), .sc (.bool false), .sc (.int .i64 0), .sc (.bool false), .sc (.string (⟨#[]⟩)), .nl, .sc (.int .i64 0), .sc (.bool false), .sc (.bool false), .sc (.string (⟨#[]⟩)), .sc (.bool false), .nl, .sc (.int .i64 0), .sc (.bool false), .nl, .nl, .nl]) s5 A8 (Ad (Aa rfl (Aa rfl (Aa rfl (Aa rfl (Aa rfl (Aa rfl (Aa rfl (Aa rfl (Aa rfl (Aa rfl (Aa rfl (Aa rfl (Aa rfl (Aa rfl (Aa rfl (Aa rfl (Aa rfl (Aa rfl (Aa rfl (Aa rfl (Aa rfl (Aa rfl (Aa rfl (Aa rfl (Aa rfl rfl)))))))))))))))))))))))))) rfl (A7 rfl) rfl fun H s7 => ?_
  refine Aj s7 (.here) rfl ?_
  refine Dr (Nq s7 ⟨_, rfl, rfl⟩ (.sc (.sc (.sc (.sc (.sc (.sc (.nl (.sc (.sc (.sc (.sc (.sc (.sc (.nl (.sc (.sc (.sc (.sc (.sc (.nl (.sc (.sc (.nl (.nl (.nl .nil))))))))))))))))))))))))) ⟨trivial, ⟨trivial, ⟨trivial, ⟨trivial, ⟨trivial, ⟨trivial, ⟨(Ej ⟨_, _, rfl, rfl⟩), ⟨trivial, ⟨trivial, ⟨trivial, ⟨trivial, ⟨trivial, ⟨trivial, ⟨(Ej ⟨_, _, rfl, rfl⟩), ⟨trivial, ⟨trivial, ⟨trivial, ⟨trivial, ⟨trivial, ⟨(Ej ⟨_, _, rfl, rfl⟩), ⟨trivial, ⟨trivial, ⟨(Ej ⟨_, _, rfl, rfl⟩), ⟨(Ej ⟨_, _, rfl, rfl⟩), ⟨(Ej ⟨_, _, rfl, rfl⟩), trivial⟩⟩⟩⟩⟩⟩⟩⟩⟩⟩⟩⟩⟩⟩⟩⟩⟩⟩⟩⟩⟩⟩⟩⟩⟩) ?_
  have e8 : Zu 6 i = (⟨6, false, 0, false, i, ⟨#[]⟩, ⟨#[]⟩, ⟨#[]⟩, 0, false, 0, false, ⟨#[]⟩, ⟨#[]⟩, 0, false, false, ⟨#[]⟩, false, ⟨#[]⟩, 0, false, [], [], []⟩ : B8) := by
   clear s0 s2 s4 s5 s7
   try simp only [decide_eq_true_eq, decide_eq_false_iff_not, bne_iff_ne, beq_iff_eq, beq_eq_false_iff_ne] at h6
   first | assumption | (simp only [Zu, Ig, Q1, h6, if_true, if_false, Bool.false_eq_true]; first | done | rfl)
  rw [e8]
  first | done | rfl
 ·refine C1 (nT h6) ?_
  refine Bk (cs := [.sc (.int .i64 0), .sc (.bool false), .sc (.int .i64 0), .sc (.bool false), .sc (.int .i64 0), .sc (.string (⟨#[]⟩)), .nl, .sc (.string (⟨#[]⟩)), .sc (.int .i64 0), .sc (.bool false), .sc (.int .i64 0), .sc (.bool false), .sc (.string (⟨#[]⟩)), .nl, .sc (.int .i64 0), .sc (.bool false), .sc (.bool false), .sc (.string (⟨#[]⟩)), .sc (.bool false), .nl, .sc (.int .i64 0), .sc (.bool false), .nl, .nl, .nl]) rfl ?_
  refine A3 (cs' := [.sc (.int .i64 0), .sc (.bool false), .sc (.int .i64 0), .sc (.bool false), .sc (.int .i64 0), .sc (.string (⟨#[]⟩)), .nl, .sc (.string (⟨#[]⟩)), .sc (.int .i64 0), .sc (.bool false), .sc (.int .i64 0), .sc (.bool false), .sc (.string (⟨#[]⟩)), .nl, .sc (.int .i64 0), .sc (.bool false), .sc (.bool false), .sc (.string (⟨#[]⟩)), .sc (.bool false), .nl, .sc (.int .i64 0), .sc (.bool false), .nl, .nl, .nl]) s5 A8 (Ad (Aa rfl (Aa rfl (Aa rfl (Aa rfl (Aa rfl (Aa rfl (Aa rfl (Aa rfl (Aa rfl (Aa rfl (Aa rfl (Aa rfl (Aa rfl (Aa rfl (Aa rfl (Aa rfl (Aa rfl (Aa rfl (Aa rfl (Aa rfl (Aa rfl (Aa rfl (Aa rfl (Aa rfl (Aa rfl rfl)))))))))))))))))))))))))) rfl (A7 rfl) rfl fun H s9 => ?_
  refine Aj s9 (.here) rfl ?_
  refine Dr (Nq s9 ⟨_, rfl, rfl⟩ (.sc (.sc (.sc (.sc (.sc (.sc (.nl (.sc (.sc (.sc (.sc (.sc (.sc (.nl (.sc (.sc (.sc (.sc (.sc (.nl (.sc (.sc (.nl (.nl (.nl .nil))))))))))))))))))))))))) ⟨trivial, ⟨trivial, ⟨trivial, ⟨trivial, ⟨trivial, ⟨trivial, ⟨(Ej ⟨_, _, rfl, rfl⟩), ⟨trivial, ⟨trivial, ⟨trivial, ⟨trivial, ⟨trivial, ⟨trivial, ⟨(Ej ⟨_, _, rfl, rfl⟩), ⟨trivial, ⟨trivial, ⟨trivial, ⟨trivial, ⟨trivial, ⟨(Ej ⟨_, _, rfl, rfl⟩), ⟨trivial, ⟨trivial, ⟨(Ej ⟨_, _, rfl, rfl⟩), ⟨(Ej ⟨_, _, rfl, rfl⟩), ⟨(Ej ⟨_, _, rfl, rfl⟩), trivial⟩⟩⟩⟩⟩⟩⟩⟩⟩⟩⟩⟩⟩⟩⟩⟩⟩⟩⟩⟩⟩⟩⟩⟩⟩) ?_
  have e10 : Zu 6 i = (⟨0, false, 0, false, 0, ⟨#[]⟩, ⟨#[]⟩, ⟨#[]⟩, 0, false, 0, false, ⟨#[]⟩, ⟨#[]⟩, 0, false, false, ⟨#[]⟩, false, ⟨#[]⟩, 0, false, [], [], []⟩ : B8) := by
   clear s0 s2 s4 s5 s9
   try simp only [decide_eq_true_eq, decide_eq_false_iff_not, bne_iff_ne, beq_iff_eq, beq_eq_false_iff_ne] at h6
   first | assumption | (simp only [Zu, Ig, Q1, h6, if_true, if_false, Bool.false_eq_true]; first | done | rfl)
  rw [e10]
  first | done | rfl
theorem Pe (n : Nat) (hn : 1048576 < n) (i : Int) : Di E0 (n + 4) 78 164 [.sc (.int .i64 6), .sc (.int .i64 i)] = some (.agg (C7 (Cw i))) := AaJ n hn i
end
section
open Go
section
variable {β : Type} {n : Nat} {H : Ac} {L L' L1 L2 : List Ck} {G : Option β → Prop} {K : AV → Option β} {KH : KO β}
theorem Xj {d : Nat} : ∀ {ts : List Nat} {xs cells : List AV} {I : List Nat} {k : Nat} {v v' : Value}, Cm (B6 At E0.tp H (d + 1)) ts xs = some (cells, I) → cells[k]? = some (.sc v) → Cm (B6 At E0.tp H (d + 1)) ts (xs.set k (.sc v')) = some (cells.set k (.sc v'), I)
 | ts, [], cells, I, k, v, v', h, hk => by
  obtain ⟨_, e⟩ := Iz h
  cases e
  simp at hk
 | [], _ :: _, _, _, _, _, _, h, _ => by simp [Cm] at h
 | t :: ts, x :: xs, cells, I, k, v, v', h, hk => by
  obtain ⟨a, b, h1, h2, e⟩ := Fd h
  cases e
  cases k with
  | zero =>
   obtain ⟨a1, a2⟩ := a
   have : a1 = .sc v := by simpa using hk
   subst this
   have hx := Yv h1
   subst hx
   have e2 : ([] : List Nat) = a2 := by
    have : (AV.sc v, ([] : List Nat)) = (.sc v, a2) := Option.some.inj h1
    cases this
    rfl
   subst e2
   show Cm _ (t :: ts) (.sc v' :: xs) = some (.sc v' :: b.1, [] ++ b.2)
   rw [Cm, Gt, Option.bind_some, h2]
   rfl
  | succ k =>
   have ih := Xj (v' := v') h2 (by simpa using hk)
   show Cm _ (t :: ts) (x :: xs.set k (.sc v')) = some (a.1 :: b.1.set k (.sc v'), a.2 ++ b.2)
   rw [Cm, h1, Option.bind_some, ih]
   rfl
theorem Wa {d : Nat} : ∀ {ts : List Nat} {cs : List AV} {k : Nat} {v' : Value}, Eh (Gx At E0.tp (d + 1)) ts cs → Eh (Gx At E0.tp (d + 1)) ts (cs.set k (.sc v'))
 | [], [], _, _, h => h
 | t :: ts, c :: cs, 0, v', h => ⟨trivial, h.2⟩
 | t :: ts, c :: cs, k + 1, v', h => ⟨h.1, Wa h.2⟩
 | [], _ :: _, _, _, h => by cases h
 | _ :: _, [], _, _, h => by cases h
theorem Vy {α : Type} {enc : α → List AV} {w : Nat} (hw : ∀ x, (enc x).length = w) {l : List α} {i k : Nat} {y y' : α} {v : AV} (hy : l[i]? = some y) (hk : k < w) (he : enc y' = (enc y).set k v) : ((l.map enc).flatten).set (i * w + k) v = ((l.set i y').map enc).flatten := by
 induction l generalizing i with
 | nil => simp at hy
 | cons x l ih =>
  cases i with
  | zero =>
   have : x = y := by simpa using hy
   subst this
   rw [List.set_cons_zero, List.map_cons, List.map_cons, List.flatten_cons, List.flatten_cons, he, Nat.zero_mul, Nat.zero_add, List.set_append_left _ _ (by rw [hw]; exact hk)]
  | succ i =>
   have := ih (i := i) (by simpa using hy)
   rw [List.set_cons_succ, List.map_cons, List.map_cons, List.flatten_cons, List.flatten_cons, List.set_append_right _ _ (by rw [hw, Nat.add_mul]; omega), hw, show (i + 1) * w + k - w = i * w + k by rw [Nat.add_mul]; omega, this]
theorem AbP {cs : List AV} {o : Nat} {v : AV} (h : o < cs.length) : Cg cs o [v] = cs.set o v := by
 unfold Cg
 rw [List.set_eq_take_append_cons_drop, if_pos h]
 simp
theorem Kv {α : Type} {enc : α → List AV} {w ty k : Nat} {cty : List Nat} {x : AV} {l : List α} {y y' : α} {i : Int} {v v' : Value} {KS : Ac → Option β} (hs : Sep H L) (hty : ∃ i j, At ty = some i ∧ At i.elem = some j ∧ j.size = w ∧ j.cty = cty) (hp : Pk L (.own x ty (Al enc l)) L1)
  (hi : 0 ≤ i) (hy : l[i.toNat]? = some y) (hw : ∀ x, (enc x).length = w) (hk : k < w) (hv : (enc y)[k]? = some (.sc v)) (hl : Aq (.sc v') = true) (he : enc y' = (enc y).set k (.sc v'))
  (h : ∀ H', Sep H' (.own x ty (Al enc (l.set i.toNat y')) :: L1) → Gd G (KS H')) : Gd G (E7 w x (.sc (.int .i64 i)) fun t => Mi k t fun t => Dt 1 t (.sc v') H fun H => KS H) := by
 obtain ⟨ti, tj, e1, e2, rfl, rfl⟩ := hty
 obtain ⟨I, ⟨J, R, rfl, ⟨hlf, hok, e⟩, h2⟩, h3⟩ := hs.pick hp
 have hlt : i.toNat < l.length := (List.getElem?_eq_some_iff.1 hy).1
 rcases Lw e1 e2 e with ⟨rfl, h0, _, _⟩ | ⟨id, off, raw, J', b, rfl, rfl, hb, hlv, ha, h4, h5⟩
 ·omega
 ·obtain ⟨hl4, b', hb', _, hle, hcs⟩ := Hj h4
  rw [hb] at hb'
  cases hb'
  have hm : (i.toNat + 1) * tj.size ≤ l.length * tj.size := Nat.mul_le_mul_right _ hlt
  rw [Nat.add_mul, Nat.one_mul] at hm
  have hlc : ((l.map enc).flatten).length = l.length * tj.size := Fg hw l
  have hcv : ((l.map enc).flatten)[i.toNat * tj.size + k]? = some (.sc v) := by
   have key : ∀ (l : List α) (i : Nat), l[i]? = some y → ((l.map enc).flatten)[i * tj.size + k]? = some (.sc v) := by
    intro l
    induction l with
    | nil => intro i hi; simp at hi
    | cons z l ih =>
     intro i hi
     cases i with
     | zero =>
      have : z = y := by simpa using hi
      subst this
      rw [List.map_cons, List.flatten_cons, List.getElem?_append_left (by rw [hw]; omega), Nat.zero_mul, Nat.zero_add, hv]
     | succ i =>
      rw [List.map_cons, List.flatten_cons, List.getElem?_append_right (by rw [hw, Nat.add_mul]; omega), hw, show (i + 1) * tj.size + k - tj.size = i * tj.size + k by rw [Nat.add_mul]; omega]
      exact ih i (by simpa using hi)
   exact key l i.toNat hy
  have hid : id < H.length := (List.getElem?_eq_some_iff.1 hb).1
  refine Ol hi (by omega) ?_
  refine Af (o' := off + (i.toNat * tj.size + k)) (by omega) ?_
  have hst := En 1 id (off + (i.toNat * tj.size + k)) (.sc v') b [.sc v'] H (fun H => KS H) hb (by show (if Aq (.sc v') = true then some [AV.sc v'] else none) = _; rw [if_pos hl]) rfl (by omega) hlv
  refine Dv hst (h _ ?_)
  have hnd := List.nodup_cons.1 (show (id :: (J' ++ R)).Nodup from h3)
  have hfr : ∀ z, z ≠ id → (H.set id { b with cells := Cg b.cells (off + (i.toNat * tj.size + k)) [.sc v'] })[z]? = H[z]? := fun z hz => List.getElem?_set_ne (fun e => hz e.symm)
  have hRf : SepI (H.set id { b with cells := Cg b.cells (off + (i.toNat * tj.size + k)) [.sc v'] }) L1 R := h2.frame fun z hz => hfr z (fun e => hnd.1 (e ▸ List.mem_append_right _ hz))
  have h6 := Eb (f' := B6 At E0.tp (H.set id { b with cells := Cg b.cells (off + (i.toNat * tj.size + k)) [.sc v'] }) 5) (fun t x a h hi => Dd 5 t x a h fun z hz => hfr z (fun e => hnd.1 (e ▸ List.mem_append_left _ (hi z hz)))) h5
  have h7 := Xj (v' := v') h6 hcv
  rw [Vy hw hy hk he] at h7
  refine ⟨(id :: J') ++ R, ⟨id :: J', R, rfl, ⟨rfl, ?_, ?_⟩, hRf⟩, h3⟩
  ·obtain ⟨i', j', q1, q2, q3, q4⟩ := hok
   rw [e1] at q1
   cases q1
   rw [e2] at q2
   cases q2
   refine ⟨ti, tj, e1, e2, ?_, ?_⟩
   ·show ((l.set i.toNat y').map enc).flatten.length = (l.set i.toNat y').length * tj.size
    rw [Fg hw]
   ·have q5 := Wa (d := 4) (k := i.toNat * tj.size + k) (v' := v') q4
    rw [Vy hw hy hk he] at q5
    rw [List.length_set]
    exact q5
  ·have hg : (H.set id { b with cells := Cg b.cells (off + (i.toNat * tj.size + k)) [.sc v'] })[id]? = some { b with cells := Cg b.cells (off + (i.toNat * tj.size + k)) [.sc v'] } := List.getElem?_set_self hid
   rw [show Al enc (l.set i.toNat y') = .ro (l.set i.toNat y').length (((l.set i.toNat y').map enc).flatten) from rfl, List.length_set, Fz]
   have hap : Fx (H.set id { b with cells := Cg b.cells (off + (i.toNat * tj.size + k)) [.sc v'] }) id = true := by simp only [Fx, hg]; exact ha
   have hrd : Ba (H.set id { b with cells := Cg b.cells (off + (i.toNat * tj.size + k)) [.sc v'] }) id off (l.length * tj.size) = some (raw.set (i.toNat * tj.size + k) (.sc v')) := by
    unfold Ba
    rw [hg]
    simp only [hlv, if_true]
    rw [AbP (by omega), if_pos (by rw [List.length_set]; omega), hcs]
    congr 1
    rw [List.drop_set, if_neg (by omega), List.take_set]
    congr 1
    omega
   simp only [e1, e2, Option.bind_some, if_true, hap, hrd, h7]
theorem Iv {f : Nat → AV → Option (AV × List Nat)} : ∀ {ts1 ts2 : List Nat} {xs cells : List AV} {I : List Nat}, Cm f (ts1 ++ ts2) xs = some (cells, I) → ts1.length ≤ xs.length → ∃ I1 I2, Cm f ts1 (xs.take ts1.length) = some (cells.take ts1.length, I1) ∧ Cm f ts2 (xs.drop ts1.length) = some (cells.drop ts1.length, I2) ∧ I = I1 ++ I2
 | [], ts2, xs, cells, I, h, _ => ⟨[], I, by simp [Cm], by simpa using h, rfl⟩
 | t :: ts1, ts2, [], cells, I, h, hl => by simp at hl
 | t :: ts1, ts2, x :: xs, cells, I, h, hl => by
  obtain ⟨a, b, h1, h2, e⟩ := Fd h
  cases e
  obtain ⟨I1, I2, g1, g2, g3⟩ := Iv (ts1 := ts1) (ts2 := ts2) h2 (by simpa using hl)
  refine ⟨a.2 ++ I1, I2, ?_, by simpa using g2, by rw [g3, List.append_assoc]⟩
  show Cm f (t :: ts1) (x :: xs.take ts1.length) = some (a.1 :: b.1.take ts1.length, a.2 ++ I1)
  rw [Cm, h1, Option.bind_some, g1]
  rfl
theorem Re {α : Type} {enc : α → List AV} {w bytes ty i : Nat} {cty : List Nat} {x y1 y2 : AV} {l : List α} {ys : List (AV × Nat × AV)} (hs : Sep H L) (hty : ∃ i j, At ty = some i ∧ At i.elem = some j ∧ j.size = w ∧ j.cty = cty) (hp : Pk L (.shs x ty (Al enc l) ys) L1)
  (hi : i < l.length) (q1 : AcO w x 0 i y1) (q2 : AcO w x (i + 1) l.length y2) (hw : ∀ x, (enc x).length = w) (hf : ∀ x, (enc x).all Ix = true) (hc : cty.length = w) (hb : l.length * bytes ≤ 140737488355328)
  (h : ∀ x' H', Aq x' = true → Sep H' (.own x' ty (Al enc (l.take i ++ l.drop (i + 1))) :: L1) → Gd G (KH x' H')) : Gd G (Hh w bytes y1 y2 H fun x H => KH x H) := by
 obtain ⟨ti, tj, e1, e2, rfl, rfl⟩ := hty
 obtain ⟨I, ⟨J, R, rfl, ⟨⟨hlf, hok, e⟩, _⟩, h2⟩, h3⟩ := hs.pick hp
 have hokc : Eh (Gx At E0.tp 5) (List.replicate l.length tj.cty).flatten (l.map enc).flatten := by
  obtain ⟨i', j', p1, p2, p3, p4⟩ := hok
  rw [e1] at p1
  cases p1
  rw [e2] at p2
  cases p2
  exact p4
 rcases Lw e1 e2 e with ⟨rfl, h0, _, _⟩ | ⟨id, off, raw, J', b, rfl, rfl, hbb, hlv, ha, h4, h5⟩
 ·omega
 ·obtain ⟨hl4, b', hb', _, hle, hcs⟩ := Hj h4
  rw [hbb] at hb'
  cases hb'
  have hy1 : y1 = .sl id off i tj.size := by
   rcases q1 with ⟨q, _⟩ | ⟨a1, a2, a3, q, rfl⟩
   ·cases q
   ·cases q
    simp
  have hy2 : y2 = .sl id (off + (i + 1) * tj.size) (l.length - (i + 1)) tj.size := by
   rcases q2 with ⟨q, _⟩ | ⟨a1, a2, a3, q, rfl⟩
   ·cases q
   ·cases q
    rfl
  subst hy1
  subst hy2
  have hrl : ∀ k, ((List.replicate k tj.cty).flatten).length = k * tj.size := fun k => by simp [hc]
  have hm : (i + 1) * tj.size ≤ l.length * tj.size := Nat.mul_le_mul_right _ hi
  have hm1 : (i + 1) * tj.size = i * tj.size + tj.size := by rw [Nat.add_mul, Nat.one_mul]
  have hm2 : (l.length - (i + 1)) * tj.size = l.length * tj.size - (i + 1) * tj.size := Nat.sub_mul ..
  have hrep : (List.replicate l.length tj.cty).flatten = (List.replicate i tj.cty).flatten ++ ((List.replicate 1 tj.cty).flatten ++ (List.replicate (l.length - (i + 1)) tj.cty).flatten) := by
   have := U2 (cty := tj.cty) (show i ≤ i + 1 by omega) (show i + 1 ≤ l.length by omega)
   rw [show i + 1 - i = 1 by omega] at this
   exact this
  rw [hrep] at h5 hokc
  obtain ⟨I1, I2, g1, g2, g3⟩ := Iv h5 (by rw [hrl]; omega)
  obtain ⟨I3, I4, k1, k2, k3⟩ := Iv g2 (by rw [hrl, List.length_drop, hrl]; omega)
  obtain ⟨o1, o2⟩ := Gq hokc
  obtain ⟨o3, o4⟩ := Gq o2
  rw [hrl] at g1 o1
  rw [hrl, hrl, List.drop_drop, List.drop_drop] at k2
  rw [hrl, hrl, List.drop_drop] at o4
  rw [Nat.one_mul, ← hm1] at k2 o4
  subst g3
  subst k3
  have hc1 : ((l.map enc).flatten).take (i * tj.size) = ((l.take i).map enc).flatten := by
   have := Sn hw l 0 i (Nat.zero_le _) (by omega)
   rw [Nat.zero_mul, List.drop_zero, Nat.sub_zero, List.drop_zero] at this
   exact (AV.ro.inj this).2
  have hc2 : ((l.map enc).flatten).drop ((i + 1) * tj.size) = ((l.drop (i + 1)).map enc).flatten := by
   have := Sn hw l (i + 1) l.length (by omega) (Nat.le_refl _)
   have h9 := (AV.ro.inj this).2
   rw [List.take_of_length_le (by rw [List.length_drop, Fg hw, hm2]; exact Nat.le_refl _), List.take_of_length_le (by rw [List.length_drop]; exact Nat.le_refl _)] at h9
   exact h9
  rw [hc1] at g1 o1
  rw [hc2] at k2 o4
  have hcx : C5 H tj.size (.sl id off i tj.size) = some (raw.take (i * tj.size)) := by
   show (if tj.size = tj.size then Ba H id off (i * tj.size) else none) = _
   simp only [Ba, hbb, hlv, if_true]
   rw [if_pos (by omega), hcs, List.take_take, Nat.min_eq_left (by omega)]
  have hcy : C5 H tj.size (.sl id (off + (i + 1) * tj.size) (l.length - (i + 1)) tj.size) = some (raw.drop ((i + 1) * tj.size)) := by
   show (if tj.size = tj.size then Ba H id (off + (i + 1) * tj.size) ((l.length - (i + 1)) * tj.size) else none) = _
   simp only [Ba, hbb, hlv, if_true]
   rw [if_pos (by omega), hcs, List.drop_take, List.drop_drop, hm2]
  have hk : Mn H (.sl id off i tj.size) = some (H.set id { b with live := false }) := by
   show (H[id]?).bind (fun b => if b.app then some (H.set id { b with live := false }) else none) = _
   rw [hbb, Option.bind_some, if_pos ha]
  have hlfy : (raw.drop ((i + 1) * tj.size)).all Aq = true := Qe (fun t x a I h hl => Xk h hl) k2 (by
   show (((l.drop (i + 1)).map enc).flatten).all Ix = true
   rw [List.all_flatten, List.all_map, List.all_eq_true]
   intro z _
   exact hf z)
  have hnd := List.nodup_cons.1 (show (id :: ((I1 ++ (I3 ++ I4)) ++ R)).Nodup from h3)
  have hfr : ∀ z, z ≠ id → z < H.length → (H.set id { b with live := false } ++ [⟨raw.take (i * tj.size) ++ raw.drop ((i + 1) * tj.size), true, true⟩])[z]? = H[z]? := fun z hz hl => by
   rw [List.getElem?_append_left (by rw [List.length_set]; exact hl), List.getElem?_set_ne (fun e => hz e.symm)]
  have hJlt : ∀ z ∈ I1 ++ (I3 ++ I4), z < H.length := fun z hz => Kw 6 ty _ _ e z (List.mem_cons_of_mem _ hz)
  have hmem : ∀ z ∈ I1 ++ (I3 ++ I4), z ≠ id := fun z hz e => hnd.1 (e ▸ List.mem_append_left _ hz)
  refine Dv (b := KH (.sl (H.set id { b with live := false }).length 0 (i + (l.length - (i + 1))) tj.size) (H.set id { b with live := false } ++ [⟨raw.take (i * tj.size) ++ raw.drop ((i + 1) * tj.size), true, true⟩])) ?_ (h _ _ rfl ?_)
  ·have hl0 : G2 (.sl id off i tj.size) = some i := rfl
   have hl1 : G2 (.sl id (off + (i + 1) * tj.size) (l.length - (i + 1)) tj.size) = some (l.length - (i + 1)) := rfl
   have hbb2 : (i + (l.length - (i + 1))) * bytes ≤ 140737488355328 := Nat.le_trans (Nat.mul_le_mul_right _ (by omega)) hb
   simp only [Hh, hl0, hl1, Option.bind_some, hcx, hcy, hk]
   rw [if_pos hbb2, if_pos hlfy]
   rfl
  ·have a1 := Eb (f' := B6 At E0.tp (H.set id { b with live := false } ++ [⟨raw.take (i * tj.size) ++ raw.drop ((i + 1) * tj.size), true, true⟩]) 5) (fun t x a h hi => Dd 5 t x a h fun z hz => by
    have := hi z hz
    exact hfr z (hmem z (List.mem_append_left _ this)) (hJlt z (List.mem_append_left _ this))) g1
   have a2 := Eb (f' := B6 At E0.tp (H.set id { b with live := false } ++ [⟨raw.take (i * tj.size) ++ raw.drop ((i + 1) * tj.size), true, true⟩]) 5) (fun t x a h hi => Dd 5 t x a h fun z hz => by
    have := hi z hz
    exact hfr z (hmem z (List.mem_append_right _ (List.mem_append_right _ this))) (hJlt z (List.mem_append_right _ (List.mem_append_right _ this)))) k2
   have a3 := Gi a1 a2
   rw [← List.flatten_append, List.replicate_append_replicate, ← List.flatten_append, ← List.map_append] at a3
   have hlen : (l.take i ++ l.drop (i + 1)).length = i + (l.length - (i + 1)) := by
    rw [List.length_append, List.length_take, List.length_drop, Nat.min_eq_left (by omega)]
   have hR : SepI (H.set id { b with live := false } ++ [⟨raw.take (i * tj.size) ++ raw.drop ((i + 1) * tj.size), true, true⟩]) L1 R := h2.frame fun z hz => hfr z (fun e => hnd.1 (e ▸ List.mem_append_right _ hz)) (h2.lt z hz)
   have hg : (H.set id { b with live := false } ++ [(⟨raw.take (i * tj.size) ++ raw.drop ((i + 1) * tj.size), true, true⟩ : Gl)])[(H.set id { b with live := false }).length]? = some ⟨raw.take (i * tj.size) ++ raw.drop ((i + 1) * tj.size), true, true⟩ := by
    rw [List.getElem?_append_right (Nat.le_refl _), Nat.sub_self]
    rfl
   refine ⟨((H.set id { b with live := false }).length :: (I1 ++ I4)) ++ R, ⟨(H.set id { b with live := false }).length :: (I1 ++ I4), R, rfl, ⟨rfl, ?_, ?_⟩, hR⟩, ?_⟩
   ·refine ⟨ti, tj, e1, e2, Fg hw _, ?_⟩
    show Eh _ (List.replicate (l.take i ++ l.drop (i + 1)).length tj.cty).flatten ((l.take i ++ l.drop (i + 1)).map enc).flatten
    rw [hlen, ← List.replicate_append_replicate]
    simp only [List.map_append, List.flatten_append]
    exact Gj o1 o4
   ·show B6 At E0.tp _ 6 ty _ = some (.ro (l.take i ++ l.drop (i + 1)).length (((l.take i ++ l.drop (i + 1)).map enc).flatten), _)
    rw [hlen, Fz]
    have hap : Fx (H.set id { b with live := false } ++ [⟨raw.take (i * tj.size) ++ raw.drop ((i + 1) * tj.size), true, true⟩]) (H.set id { b with live := false }).length = true := by simp only [Fx, hg]
    have hrd : Ba (H.set id { b with live := false } ++ [⟨raw.take (i * tj.size) ++ raw.drop ((i + 1) * tj.size), true, true⟩]) (H.set id { b with live := false }).length 0 ((i + (l.length - (i + 1))) * tj.size) = some (raw.take (i * tj.size) ++ raw.drop ((i + 1) * tj.size)) := by
     have hll : (raw.take (i * tj.size) ++ raw.drop ((i + 1) * tj.size)).length = (i + (l.length - (i + 1))) * tj.size := by
      rw [List.length_append, List.length_take, List.length_drop, hl4, Nat.add_mul i (l.length - (i + 1)) tj.size, hm2, Nat.min_eq_left (by omega)]
     simp only [Ba, hg, if_true, Nat.zero_add, List.drop_zero, ← hll, Nat.le_refl, List.take_length]
    simp only [e1, e2, Option.bind_some, if_true, hap, hrd, a3]
   ·rw [List.cons_append, List.nodup_cons, List.length_set]
    refine ⟨fun hm => ?_, ?_⟩
    ·rcases List.mem_append.1 hm with hm | hm
     ·have : H.length < H.length := hJlt _ (by
       rcases List.mem_append.1 hm with hm | hm
       ·exact List.mem_append_left _ hm
       ·exact List.mem_append_right _ (List.mem_append_right _ hm))
      omega
     ·have := h2.lt _ hm
      omega
    ·have hn := hnd.2
     have hsub : ((I1 ++ I4) ++ R).Sublist ((I1 ++ (I3 ++ I4)) ++ R) := List.Sublist.append (List.Sublist.append (List.Sublist.refl _) (List.sublist_append_right _ _)) (List.Sublist.refl _)
     exact hn.sublist hsub
end
end
section
open Go
def Dq (kd id : Int) (o : B5) (pre : List Ao) : List Ao → B5 × B8 × Bool
 | [] => (o, Q1, false)
 | f :: t => if f.fId = id then (if (kd = 4 ∧ f.fSt = 1) ∨ (kd = 7 ∧ f.fSt = 3) then ({ o with fFl := pre ++ t }, Q1, true)
   else if kd = 5 ∧ ¬ f.fSt = 1 then ({ o with fFl := pre ++ { f with fSt := 3 } :: t }, Cw id, true) else Dq kd id o (pre ++ [f]) t) else Dq kd id o (pre ++ [f]) t
def Gh (o : B5) (kd id : Int) : B5 × B8 × Bool := if Hm o then Dq kd id o [] o.fFl else (o, Q1, false)
theorem Aiv (o : B5) (h : Fi o ≤ 1048576) : M4 o := by
 have h1 := Zg o h
 exact ⟨⟨h1.1.1, fun y hy => (h1.1.2 y hy).1⟩, ⟨h1.2.1.1, fun y hy => (h1.2.1.2 y hy).1⟩⟩
theorem U9 (o : B5) (b : Fi o ≤ 1048576) : o.fFl.length ≤ 1048576 := (Xz o b).1.1
theorem Ee (n : Nat) (hn : 1048576 < n) (x0 : B5) (kd : Int) (d : Int) (b0 : Fi x0 ≤ 1048576) (h13 : (Hm x0) = true)  : ∀ (t pre : List Ao) (m : Nat) (i : Int) (i10 i5 i3 i1 : Nat) (x8 x7 : AV) (H : Ac), x0.fFl = pre ++ t → i = ((pre.length : Nat) : Int) → t.length < m → Aq x8 = true → Aq x7 = true → Sep H [.blk i10 [.sc (.int .i64 x0.fLast), x7, x8] true, .own x8 79 (Al Au x0.fQ), .own x7 113 (Al Az x0.fFl), .blk i5 [.sc (.int .i64 0), .sc (.bool false), .sc (.int .i64 0), .sc (.bool false), .sc (.int .i64 0), .sc (.string (⟨#[]⟩)), .nl, .sc (.string (⟨#[]⟩)), .sc (.int .i64 0), .sc (.bool false), .sc (.int .i64 0), .sc (.bool false), .sc (.string (⟨#[]⟩)), .nl, .sc (.int .i64 0), .sc (.bool false), .sc (.bool false), .sc (.string (⟨#[]⟩)), .sc (.bool false), .nl, .sc (.int .i64 0), .sc (.bool false), .nl, .nl, .nl] true, .blk i3 [.sc (.int .i64 0), .nl, .nl] true, .blk i1 (Bg x0) true] → Gd (· = some (.tup [.agg (Bg (Dq kd d x0 pre t).1), .agg (C7 (Dq kd d x0 pre t).2.1), .sc (.bool (Dq kd d x0 pre t).2.2)])) (Kh (PR (n + 12) AV) (n + 12) (fun x H => Bc At E0.tp 191 H x) m (.sc (.int .i64 kd)) (.sc (.int .i64 d)) (.ptr i1 0) (.ptr i3 0) (.ptr i5 0) (.ptr i10 0) (.sc (.int .i64 i)) H)
 | [], pre, m + 1, i, i10, i5, i3, i1, x8, x7, H, he, hi, hm, lx8, lx7, s0 => by
  obtain rfl : pre = x0.fFl := by simpa using he.symm
  have hfl := U9 x0 b0
  rw [Kh]
  try simp only [Cj, Bi, A4, A6, A9, Aw, Bx, Ch, Ca, Cc, D1, Be, Cy]
  refine Af (o' := 1) rfl ?_
  refine Ay (c := Al Az x0.fFl) s0 Lf rfl ?_
  refine Ox ?_
  refine Hw ?_
  refine B3 (by simp [hi]) ?_
  refine Aj s0 (.here) rfl ?_
  refine Bk (cs := [.sc (.int .i64 0), .sc (.bool false), .sc (.int .i64 0), .sc (.bool false), .sc (.int .i64 0), .sc (.string (⟨#[]⟩)), .nl, .sc (.string (⟨#[]⟩)), .sc (.int .i64 0), .sc (.bool false), .sc (.int .i64 0), .sc (.bool false), .sc (.string (⟨#[]⟩)), .nl, .sc (.int .i64 0), .sc (.bool false), .sc (.bool false), .sc (.string (⟨#[]⟩)), .sc (.bool false), .nl, .sc (.int .i64 0), .sc (.bool false), .nl, .nl, .nl]) rfl ?_
  refine A3 (cs' := [.sc (.int .i64 x0.fLast), x7, x8]) s0 Fa (Ad (Aa rfl (Aa lx7 (Aa lx8 rfl)))) rfl (A7 rfl) rfl fun H s201 => ?_
  refine A3 (cs' := [.sc (.int .i64 0), .sc (.bool false), .sc (.int .i64 0), .sc (.bool false), .sc (.int .i64 0), .sc (.string (⟨#[]⟩)), .nl, .sc (.string (⟨#[]⟩)), .sc (.int .i64 0), .sc (.bool false), .sc (.int .i64 0), .sc (.bool false), .sc (.string (⟨#[]⟩)), .nl, .sc (.int .i64 0), .sc (.bool false), .sc (.bool false), .sc (.string (⟨#[]⟩)), .sc (.bool false), .nl, .sc (.int .i64 0), .sc (.bool false), .nl, .nl, .nl]) s201 Fa (Ad (Aa rfl (Aa rfl (Aa rfl (Aa rfl (Aa rfl (Aa rfl (Aa rfl (Aa rfl (Aa rfl (Aa rfl (Aa rfl (Aa rfl (Aa rfl (Aa rfl (Aa rfl (Aa rfl (Aa rfl (Aa rfl (Aa rfl (Aa rfl (Aa rfl (Aa rfl (Aa rfl (Aa rfl (Aa rfl rfl)))))))))))))))))))))))))) rfl (A7 rfl) rfl fun H s202 => ?_
  refine Aj s202 A8 rfl ?_
  refine Aj s202 (.here) rfl ?_
  refine Dr (Fw s202 rfl (.agg ⟨_, rfl, rfl⟩ (.sc (.own Fa (.own Cz .nil))) (.agg ⟨_, rfl, rfl⟩ (.sc (.sc (.sc (.sc (.sc (.sc (.nl (.sc (.sc (.sc (.sc (.sc (.sc (.nl (.sc (.sc (.sc (.sc (.sc (.nl (.sc (.sc (.nl (.nl (.nl .nil))))))))))))))))))))))))) (.sc .nil))) ⟨(Hx ⟨_, rfl, rfl⟩ ⟨trivial, ⟨(Bp (D5 x0.fFl) (by decide)), ⟨(Bp (Gy x0.fQ) (by decide)), trivial⟩⟩⟩), ⟨(Hx ⟨_, rfl, rfl⟩ ⟨trivial, ⟨trivial, ⟨trivial, ⟨trivial, ⟨trivial, ⟨trivial, ⟨(Ej ⟨_, _, rfl, rfl⟩), ⟨trivial, ⟨trivial, ⟨trivial, ⟨trivial, ⟨trivial, ⟨trivial, ⟨(Ej ⟨_, _, rfl, rfl⟩), ⟨trivial, ⟨trivial, ⟨trivial, ⟨trivial, ⟨trivial, ⟨(Ej ⟨_, _, rfl, rfl⟩), ⟨trivial, ⟨trivial, ⟨(Ej ⟨_, _, rfl, rfl⟩), ⟨(Ej ⟨_, _, rfl, rfl⟩), ⟨(Ej ⟨_, _, rfl, rfl⟩), trivial⟩⟩⟩⟩⟩⟩⟩⟩⟩⟩⟩⟩⟩⟩⟩⟩⟩⟩⟩⟩⟩⟩⟩⟩⟩), ⟨trivial, trivial⟩⟩⟩) ?_
  have e : Dq kd d x0 x0.fFl [] = ((⟨x0.fLast, x0.fFl, x0.fQ⟩ : B5), Q1, false) := by
   clear s0 s201 s202
   try simp only [decide_eq_true_eq, decide_eq_false_iff_not] at h13
   rfl
  rw [e]
  first | done | rfl
 | y :: t, pre, m + 1, i, i10, i5, i3, i1, x8, x7, H, he, hi, hm, lx8, lx7, s0 => by
  have hlt : pre.length < x0.fFl.length := by rw [he]; simp
  have hfl := U9 x0 b0
  rw [Kh]
  try simp only [Cj, Bi, A4, A6, A9, Aw, Bx, Ch, Ca, Cc, D1, Be, Cy]
  refine Af (o' := 1) rfl ?_
  refine Ay (c := Al Az x0.fFl) s0 Lf rfl ?_
  refine Ox ?_
  refine Hw ?_
  refine C1 (by simp [hi]; omega) ?_
  refine Af (o' := 1) rfl ?_
  refine Ay (c := Al Az x0.fFl) s0 Lf rfl ?_
  refine U4 hi Br (by decide) he ?_
  refine Z9 (Br _) ?_
  refine C8 s0 fun i201 H s202 => ?_
  refine A3 (cs' := Az y) s202 (.here) (H8 (Gv _)) rfl (A7 rfl) rfl fun H s203 => ?_
  refine Af (o' := 0) rfl ?_
  refine Ay (c := .sc (.int .i64 y.fId)) s203 (.here) rfl ?_
  refine Ki ?_
  refine Ai ((decide (y.fId = d))) (fun h204 => ?_) (fun h204 => ?_)
  ·refine B3 (nF h204) ?_
   refine Bv ?_
   refine Ai ((decide (kd = 4))) (fun h205 => ?_) (fun h205 => ?_)
   ·refine Ag h205 ?_
    refine Af (o' := 5) rfl ?_
    refine Ag h205 ?_
    refine Ay (c := .sc (.int .i64 y.fSt)) s203 (.here) rfl ?_
    refine Ag h205 ?_
    refine Bv ?_
    refine D9 h205 ?_
    refine Ai ((decide (y.fSt = 1))) (fun h206 => ?_) (fun h206 => ?_)
    ·refine B0 h206 ?_
     refine B0 h206 ?_
     refine B0 h206 ?_
     refine Jt ?_
     refine Jt ?_
     refine Jt ?_
     refine B0 h206 ?_
     refine D9 h206 ?_
     refine C1 rfl ?_
     refine Af (o' := 1) rfl ?_
     refine Ay (c := x7) s203 A8 rfl ?_
     have s207 := s203.toShs Cz
     refine Le (a := 0) (b := i) s207 ⟨_, _, rfl, rfl, rfl, rfl⟩ (.here) rfl rfl (by omega) (by first | omega | (simp; omega)) (by first | omega | (simp; omega)) Br rfl fun y208 ly208 qy208 s209 => ?_
     refine Af (o' := 1) rfl ?_
     refine Ay (c := x7) s209 Ci rfl ?_
     refine Eo (by omega) (by omega) ?_
     refine Le (a := (i + 1)) (b := ((x0.fFl.length : Nat) : Int)) s209 ⟨_, _, rfl, rfl, rfl, rfl⟩ (.here) rfl rfl (by omega) (by first | omega | (simp; omega)) (by first | omega | (simp; omega)) Br rfl fun y210 ly210 qy210 s211 => ?_
     refine Re (i := i.toNat) s211 ⟨_, _, rfl, rfl, rfl, rfl⟩ (.here) (by omega) qy208 (by have h := qy210; rw [show (i + 1).toNat = i.toNat + 1 by omega, Int.toNat_natCast] at h; exact h) Br Gv rfl (by omega) fun x212 H lx212 s213 => ?_
     refine Af (o' := 1) rfl ?_
     refine A3 (cs' := [.sc (.int .i64 x0.fLast), x212, x8]) s213 Ci (Ak lx212) rfl (A7 rfl) rfl fun H s214 => ?_
     refine Aj s214 (.here) rfl ?_
     refine Bk (cs := [.sc (.int .i64 0), .sc (.bool false), .sc (.int .i64 0), .sc (.bool false), .sc (.int .i64 0), .sc (.string (⟨#[]⟩)), .nl, .sc (.string (⟨#[]⟩)), .sc (.int .i64 0), .sc (.bool false), .sc (.int .i64 0), .sc (.bool false), .sc (.string (⟨#[]⟩)), .nl, .sc (.int .i64 0), .sc (.bool false), .sc (.bool false), .sc (.string (⟨#[]⟩)), .sc (.bool false), .nl, .sc (.int .i64 0), .sc (.bool false), .nl, .nl, .nl]) rfl ?_
     refine A3 (cs' := [.sc (.int .i64 x0.fLast), x212, x8]) s214 Lf (Ad (Aa rfl (Aa lx212 (Aa lx8 rfl)))) rfl (A7 rfl) rfl fun H s215 => ?_
     refine A3 (cs' := [.sc (.int .i64 0), .sc (.bool false), .sc (.int .i64 0), .sc (.bool false), .sc (.int .i64 0), .sc (.string (⟨#[]⟩)), .nl, .sc (.string (⟨#[]⟩)), .sc (.int .i64 0), .sc (.bool false), .sc (.int .i64 0), .sc (.bool false), .sc (.string (⟨#[]⟩)), .nl, .sc (.int .i64 0), .sc (.bool false), .sc (.bool false), .sc (.string (⟨#[]⟩)), .sc (.bool false), .nl, .sc (.int .i64 0), .sc (.bool false), .nl, .nl, .nl]) s215 Lf (Ad (Aa rfl (Aa rfl (Aa rfl (Aa rfl (Aa rfl (Aa rfl (Aa rfl (Aa rfl (Aa rfl (Aa rfl (Aa rfl (Aa rfl (Aa rfl (Aa rfl (Aa rfl (Aa rfl (Aa rfl (Aa rfl (Aa rfl (Aa rfl (Aa rfl (Aa rfl (Aa rfl (Aa rfl (Aa rfl rfl)))))))))))))))))))))))))) rfl (A7 rfl) rfl fun H s216 => ?_
     refine Aj s216 A8 rfl ?_
     refine Aj s216 (.here) rfl ?_
     refine Dr (Fw s216 rfl (.agg ⟨_, rfl, rfl⟩ (.sc (.own Cz (.own Fa .nil))) (.agg ⟨_, rfl, rfl⟩ (.sc (.sc (.sc (.sc (.sc (.sc (.nl (.sc (.sc (.sc (.sc (.sc (.sc (.nl (.sc (.sc (.sc (.sc (.sc (.nl (.sc (.sc (.nl (.nl (.nl .nil))))))))))))))))))))))))) (.sc .nil))) ⟨(Hx ⟨_, rfl, rfl⟩ ⟨trivial, ⟨(Bp (D5 (x0.fFl.take i.toNat ++ x0.fFl.drop (i.toNat + 1))) (by decide)), ⟨(Bp (Gy x0.fQ) (by decide)), trivial⟩⟩⟩), ⟨(Hx ⟨_, rfl, rfl⟩ ⟨trivial, ⟨trivial, ⟨trivial, ⟨trivial, ⟨trivial, ⟨trivial, ⟨(Ej ⟨_, _, rfl, rfl⟩), ⟨trivial, ⟨trivial, ⟨trivial, ⟨trivial, ⟨trivial, ⟨trivial, ⟨(Ej ⟨_, _, rfl, rfl⟩), ⟨trivial, ⟨trivial, ⟨trivial, ⟨trivial, ⟨trivial, ⟨(Ej ⟨_, _, rfl, rfl⟩), ⟨trivial, ⟨trivial, ⟨(Ej ⟨_, _, rfl, rfl⟩), ⟨(Ej ⟨_, _, rfl, rfl⟩), ⟨(Ej ⟨_, _, rfl, rfl⟩), trivial⟩⟩⟩⟩⟩⟩⟩⟩⟩⟩⟩⟩⟩⟩⟩⟩⟩⟩⟩⟩⟩⟩⟩⟩⟩), ⟨trivial, trivial⟩⟩⟩) ?_
     have e : Dq kd d x0 pre (y :: t) = ((⟨x0.fLast, (x0.fFl.take i.toNat ++ x0.fFl.drop (i.toNat + 1)), x0.fQ⟩ : B5), Q1, true) := by
      clear s0 s202 s203 s207 s209 s211 s213 s214 s215 s216
      try simp only [decide_eq_true_eq, decide_eq_false_iff_not] at h13 h204 h205 h206
      try rw [show x0.fFl.take i.toNat ++ x0.fFl.drop (i.toNat + 1) = pre ++ t from by rw [he, hi]; simp]
      try rw [show x0.fFl.set (i).toNat ({ y with fSt := 3 } : Ao) = pre ++ ({ y with fSt := 3 } : Ao) :: t from by rw [he, hi]; simp]
      rw [Dq]
      (repeat' split) <;> first | rfl | (exfalso; omega)
     rw [e]
     first | done | rfl
    ·refine Ag h206 ?_
     refine Ag h206 ?_
     refine Bv ?_
     refine Ag h206 ?_
     refine Ai ((decide (kd = 7))) (fun h217 => ?_) (fun h217 => ?_)
     ·refine Ag h217 ?_
      refine Af (o' := 5) rfl ?_
      refine Ag h217 ?_
      refine Ay (c := .sc (.int .i64 y.fSt)) s203 (.here) rfl ?_
      refine Ag h217 ?_
      refine Bv ?_
      refine Ag h206 ?_
      refine D9 h217 ?_
      refine C4 h206 ?_
      refine Ai ((decide (y.fSt = 3))) (fun h218 => ?_) (fun h218 => ?_)
      ·refine C1 h218 ?_
       refine Af (o' := 1) rfl ?_
       refine Ay (c := x7) s203 A8 rfl ?_
       have s219 := s203.toShs Cz
       refine Le (a := 0) (b := i) s219 ⟨_, _, rfl, rfl, rfl, rfl⟩ (.here) rfl rfl (by omega) (by first | omega | (simp; omega)) (by first | omega | (simp; omega)) Br rfl fun y220 ly220 qy220 s221 => ?_
       refine Af (o' := 1) rfl ?_
       refine Ay (c := x7) s221 Ci rfl ?_
       refine Eo (by omega) (by omega) ?_
       refine Le (a := (i + 1)) (b := ((x0.fFl.length : Nat) : Int)) s221 ⟨_, _, rfl, rfl, rfl, rfl⟩ (.here) rfl rfl (by omega) (by first | omega | (simp; omega)) (by first | omega | (simp; omega)) Br rfl fun y222 ly222 qy222 s223 => ?_
       refine Re (i := i.toNat) s223 ⟨_, _, rfl, rfl, rfl, rfl⟩ (.here) (by omega) qy220 (by have h := qy222; rw [show (i + 1).toNat = i.toNat + 1 by omega, Int.toNat_natCast] at h; exact h) Br Gv rfl (by omega) fun x224 H lx224 s225 => ?_
       refine Af (o' := 1) rfl ?_
       refine A3 (cs' := [.sc (.int .i64 x0.fLast), x224, x8]) s225 Ci (Ak lx224) rfl (A7 rfl) rfl fun H s226 => ?_
       refine Aj s226 (.here) rfl ?_
       refine Bk (cs := [.sc (.int .i64 0), .sc (.bool false), .sc (.int .i64 0), .sc (.bool false), .sc (.int .i64 0), .sc (.string (⟨#[]⟩)), .nl, .sc (.string (⟨#[]⟩)), .sc (.int .i64 0), .sc (.bool false), .sc (.int .i64 0), .sc (.bool false), .sc (.string (⟨#[]⟩)), .nl, .sc (.int .i64 0), .sc (.bool false), .sc (.bool false), .sc (.string (⟨#[]⟩)), .sc (.bool false), .nl, .sc (.int .i64 0), .sc (.bool false), .nl, .nl, .nl]) rfl ?_
       refine A3 (cs' := [.sc (.int .i64 x0.fLast), x224, x8]) s226 Lf (Ad (Aa rfl (Aa lx224 (Aa lx8 rfl)))) rfl (A7 rfl) rfl fun H s227 => ?_
       refine A3 (cs' := [.sc (.int .i64 0), .sc (.bool false), .sc (.int .i64 0), .sc (.bool false), .sc (.int .i64 0), .sc (.string (⟨#[]⟩)), .nl, .sc (.string (⟨#[]⟩)), .sc (.int .i64 0), .sc (.bool false), .sc (.int .i64 0), .sc (.bool false), .sc (.string (⟨#[]⟩)), .nl, .sc (.int .i64 0), .sc (.bool false), .sc (.bool false), .sc (.string (⟨#[]⟩)), .sc (.bool false), .nl, .sc (.int .i64 0), .sc (.bool false), .nl, .nl, .nl]) s227 Lf (Ad (Aa rfl (Aa rfl (Aa rfl (Aa rfl (Aa rfl (Aa rfl (Aa rfl (Aa rfl (Aa rfl (Aa rfl (Aa rfl (Aa rfl (Aa rfl (Aa rfl (Aa rfl (Aa rfl (Aa rfl (Aa rfl (Aa rfl (Aa rfl (Aa rfl (Aa rfl (Aa rfl (Aa rfl (Aa rfl rfl)))))))))))))))))))))))))) rfl (A7 rfl) rfl fun H s228 => ?_
       refine Aj s228 A8 rfl ?_
       refine Aj s228 (.here) rfl ?_
       refine Dr (Fw s228 rfl (.agg ⟨_, rfl, rfl⟩ (.sc (.own Cz (.own Fa .nil))) (.agg ⟨_, rfl, rfl⟩ (.sc (.sc (.sc (.sc (.sc (.sc (.nl (.sc (.sc (.sc (.sc (.sc (.sc (.nl (.sc (.sc (.sc (.sc (.sc (.nl (.sc (.sc (.nl (.nl (.nl .nil))))))))))))))))))))))))) (.sc .nil))) ⟨(Hx ⟨_, rfl, rfl⟩ ⟨trivial, ⟨(Bp (D5 (x0.fFl.take i.toNat ++ x0.fFl.drop (i.toNat + 1))) (by decide)), ⟨(Bp (Gy x0.fQ) (by decide)), trivial⟩⟩⟩), ⟨(Hx ⟨_, rfl, rfl⟩ ⟨trivial, ⟨trivial, ⟨trivial, ⟨trivial, ⟨trivial, ⟨trivial, ⟨(Ej ⟨_, _, rfl, rfl⟩), ⟨trivial, ⟨trivial, ⟨trivial, ⟨trivial, ⟨trivial, ⟨trivial, ⟨(Ej ⟨_, _, rfl, rfl⟩), ⟨trivial, ⟨trivial, ⟨trivial, ⟨trivial, ⟨trivial, ⟨(Ej ⟨_, _, rfl, rfl⟩), ⟨trivial, ⟨trivial, ⟨(Ej ⟨_, _, rfl, rfl⟩), ⟨(Ej ⟨_, _, rfl, rfl⟩), ⟨(Ej ⟨_, _, rfl, rfl⟩), trivial⟩⟩⟩⟩⟩⟩⟩⟩⟩⟩⟩⟩⟩⟩⟩⟩⟩⟩⟩⟩⟩⟩⟩⟩⟩), ⟨trivial, trivial⟩⟩⟩) ?_
       have e : Dq kd d x0 pre (y :: t) = ((⟨x0.fLast, (x0.fFl.take i.toNat ++ x0.fFl.drop (i.toNat + 1)), x0.fQ⟩ : B5), Q1, true) := by
        clear s0 s202 s203 s219 s221 s223 s225 s226 s227 s228
        try simp only [decide_eq_true_eq, decide_eq_false_iff_not] at h13 h204 h205 h206 h217 h218
        try rw [show x0.fFl.take i.toNat ++ x0.fFl.drop (i.toNat + 1) = pre ++ t from by rw [he, hi]; simp]
        try rw [show x0.fFl.set (i).toNat ({ y with fSt := 3 } : Ao) = pre ++ ({ y with fSt := 3 } : Ao) :: t from by rw [he, hi]; simp]
        rw [Dq]
        (repeat' split) <;> first | rfl | (exfalso; omega)
       rw [e]
       first | done | rfl
      ·refine B3 h218 ?_
       refine Bv ?_
       refine Ai ((decide (kd = 5))) (fun h229 => ?_) (fun h229 => ?_)
       ·refine Ag h229 ?_
        refine Af (o' := 5) rfl ?_
        refine Ag h229 ?_
        refine Ay (c := .sc (.int .i64 y.fSt)) s203 (.here) rfl ?_
        refine Ag h229 ?_
        refine Ki ?_
        refine D9 h229 ?_
        refine C1 (nT h206) ?_
        refine Af (o' := 1) rfl ?_
        refine Ay (c := x7) s203 A8 rfl ?_
        have he230 : (x0.fFl)[(i).toNat]? = some y := by rw [he, hi]; simp
        refine Kv (y := y) (y' := ({ y with fSt := 3 } : Ao)) (k := 5) (v := (.int .i64 y.fSt)) s203 ⟨_, _, rfl, rfl, rfl, rfl⟩ Cz (by omega) he230 Br (by omega) rfl rfl rfl fun H s231 => ?_
        refine Aj s231 Ci rfl ?_
        have c232 := Pe (n + 8) (by omega) d
        refine E9 s231 rfl (.cons .sc (.cons .sc .nil)) (c232) ⟨_, rfl, rfl⟩ (Hr _) ?_
        rintro _ _ H ⟨x233, x234, x235, x236, x237, x238, lx233, lx234, lx235, lx236, lx237, lx238, rfl, rfl⟩ s239
        simp only [List.nil_append, List.cons_append] at s239
        refine A3 (cs' := [.sc (.int .i64 x0.fLast), x7, x8]) s239 Mx (Ad (Aa rfl (Aa lx7 (Aa lx8 rfl)))) rfl (A7 rfl) rfl fun H s240 => ?_
        refine A3 (cs' := [.sc (.int .i64 ((Cw d).fType)), .sc (.bool (Cw d).fDup), .sc (.int .i64 ((Cw d).fQos)), .sc (.bool (Cw d).fRetain), .sc (.int .i64 ((Cw d).fId)), .sc (.string ((Cw d).fTopic)), x233, .sc (.string ((Cw d).fClient)), .sc (.int .i64 ((Cw d).fLevel)), .sc (.bool (Cw d).fClean), .sc (.int .i64 ((Cw d).fKeep)), .sc (.bool (Cw d).fHasWill), .sc (.string ((Cw d).fWTopic)), x234, .sc (.int .i64 ((Cw d).fWQos)), .sc (.bool (Cw d).fWRetain), .sc (.bool (Cw d).fHasUser), .sc (.string ((Cw d).fUser)), .sc (.bool (Cw d).fHasPass), x235, .sc (.int .i64 ((Cw d).fCode)), .sc (.bool (Cw d).fPresent), x236, x237, x238]) s240 Mx (Ad (Aa rfl (Aa rfl (Aa rfl (Aa rfl (Aa rfl (Aa rfl (Aa lx233 (Aa rfl (Aa rfl (Aa rfl (Aa rfl (Aa rfl (Aa rfl (Aa lx234 (Aa rfl (Aa rfl (Aa rfl (Aa rfl (Aa rfl (Aa lx235 (Aa rfl (Aa rfl (Aa lx236 (Aa lx237 (Aa lx238 rfl)))))))))))))))))))))))))) rfl (A7 rfl) rfl fun H s241 => ?_
        refine Aj s241 A8 rfl ?_
        refine Aj s241 (.here) rfl ?_
        refine Dr (Fw s241 rfl (.agg ⟨_, rfl, rfl⟩ (.sc (.own Vi (.own Px .nil))) (.agg ⟨_, rfl, rfl⟩ (.sc (.sc (.sc (.sc (.sc (.sc (.own zP7 (.sc (.sc (.sc (.sc (.sc (.sc (.own Q0 (.sc (.sc (.sc (.sc (.sc (.own Lf (.sc (.sc (.own Fa (.own Cz (.own Ci .nil))))))))))))))))))))))))) (.sc .nil))) ⟨(Hx ⟨_, rfl, rfl⟩ ⟨trivial, ⟨(Bp (D5 (x0.fFl.set (i).toNat ({ y with fSt := 3 } : Ao))) (by decide)), ⟨(Bp (Gy x0.fQ) (by decide)), trivial⟩⟩⟩), ⟨(Hx ⟨_, rfl, rfl⟩ ⟨trivial, ⟨trivial, ⟨trivial, ⟨trivial, ⟨trivial, ⟨trivial, ⟨(Bp (Jf ((Cw d).fBody)) (by decide)), ⟨trivial, ⟨trivial, ⟨trivial, ⟨trivial, ⟨trivial, ⟨trivial, ⟨(Bp (Jf ((Cw d).fWBody)) (by decide)), ⟨trivial, ⟨trivial, ⟨trivial, ⟨trivial, ⟨trivial, ⟨(Bp (Jf ((Cw d).fPass)) (by decide)), ⟨trivial, ⟨trivial, ⟨(Bp (L9 ((Cw d).fWants)) (by decide)), ⟨(Bp (Xt ((Cw d).fNames)) (by decide)), ⟨(Bp (S8 ((Cw d).fCodes)) (by decide)), trivial⟩⟩⟩⟩⟩⟩⟩⟩⟩⟩⟩⟩⟩⟩⟩⟩⟩⟩⟩⟩⟩⟩⟩⟩⟩), ⟨trivial, trivial⟩⟩⟩) ?_
        have e : Dq kd d x0 pre (y :: t) = ((⟨x0.fLast, (x0.fFl.set (i).toNat ({ y with fSt := 3 } : Ao)), x0.fQ⟩ : B5), (Cw d), true) := by
         clear s0 s202 s203 s231 s239 s240 s241
         try simp only [decide_eq_true_eq, decide_eq_false_iff_not] at h13 h204 h205 h206 h217 h218 h229
         try rw [show x0.fFl.take i.toNat ++ x0.fFl.drop (i.toNat + 1) = pre ++ t from by rw [he, hi]; simp]
         try rw [show x0.fFl.set (i).toNat ({ y with fSt := 3 } : Ao) = pre ++ ({ y with fSt := 3 } : Ao) :: t from by rw [he, hi]; simp]
         rw [Dq]
         (repeat' split) <;> first | rfl | (exfalso; omega)
        rw [e]
        first | done | rfl
       ·refine B0 h229 ?_
        refine B0 h229 ?_
        refine B0 h229 ?_
        refine C4 h229 ?_
        refine B3 rfl ?_
        refine Eo (by omega) (by omega) ?_
        have e242 : Dq kd d x0 pre (y :: t) = Dq kd d x0 (pre ++ [y]) t := by
         clear s0 s202 s203
         try simp only [decide_eq_true_eq, decide_eq_false_iff_not, bne_iff_ne, beq_iff_eq, beq_eq_false_iff_ne] at h13 h204 h205 h206 h217 h218 h229
         rw [Dq]; (repeat' split) <;> first | rfl | (exfalso; omega)
        rw [e242]
        exact Ee n hn x0 kd d b0 h13  t (pre ++ [y]) m _ i10 i5 i3 i1 x8 x7 _ (by rw [he]; simp) (by rw [hi]; simp) (by simpa using hm) lx8 lx7 (by simpa only [List.map_append, List.map_cons, List.map_nil] using (s203.sel (.cons A8 (.cons A8 (.cons A8 (.cons A8 (.cons A8 (.cons A8 .nil))))))))
     ·refine B0 h217 ?_
      refine B0 h217 ?_
      refine B0 h217 ?_
      refine Ag h206 ?_
      refine C4 h217 ?_
      refine C4 h206 ?_
      refine B3 rfl ?_
      refine Bv ?_
      refine Ai ((decide (kd = 5))) (fun h243 => ?_) (fun h243 => ?_)
      ·refine Ag h243 ?_
       refine Af (o' := 5) rfl ?_
       refine Ag h243 ?_
       refine Ay (c := .sc (.int .i64 y.fSt)) s203 (.here) rfl ?_
       refine Ag h243 ?_
       refine Ki ?_
       refine D9 h243 ?_
       refine C1 (nT h206) ?_
       refine Af (o' := 1) rfl ?_
       refine Ay (c := x7) s203 A8 rfl ?_
       have he244 : (x0.fFl)[(i).toNat]? = some y := by rw [he, hi]; simp
       refine Kv (y := y) (y' := ({ y with fSt := 3 } : Ao)) (k := 5) (v := (.int .i64 y.fSt)) s203 ⟨_, _, rfl, rfl, rfl, rfl⟩ Cz (by omega) he244 Br (by omega) rfl rfl rfl fun H s245 => ?_
       refine Aj s245 Ci rfl ?_
       have c246 := Pe (n + 8) (by omega) d
       refine E9 s245 rfl (.cons .sc (.cons .sc .nil)) (c246) ⟨_, rfl, rfl⟩ (Hr _) ?_
       rintro _ _ H ⟨x247, x248, x249, x250, x251, x252, lx247, lx248, lx249, lx250, lx251, lx252, rfl, rfl⟩ s253
       simp only [List.nil_append, List.cons_append] at s253
       refine A3 (cs' := [.sc (.int .i64 x0.fLast), x7, x8]) s253 Mx (Ad (Aa rfl (Aa lx7 (Aa lx8 rfl)))) rfl (A7 rfl) rfl fun H s254 => ?_
       refine A3 (cs' := [.sc (.int .i64 ((Cw d).fType)), .sc (.bool (Cw d).fDup), .sc (.int .i64 ((Cw d).fQos)), .sc (.bool (Cw d).fRetain), .sc (.int .i64 ((Cw d).fId)), .sc (.string ((Cw d).fTopic)), x247, .sc (.string ((Cw d).fClient)), .sc (.int .i64 ((Cw d).fLevel)), .sc (.bool (Cw d).fClean), .sc (.int .i64 ((Cw d).fKeep)), .sc (.bool (Cw d).fHasWill), .sc (.string ((Cw d).fWTopic)), x248, .sc (.int .i64 ((Cw d).fWQos)), .sc (.bool (Cw d).fWRetain), .sc (.bool (Cw d).fHasUser), .sc (.string ((Cw d).fUser)), .sc (.bool (Cw d).fHasPass), x249, .sc (.int .i64 ((Cw d).fCode)), .sc (.bool (Cw d).fPresent), x250, x251, x252]) s254 Mx (Ad (Aa rfl (Aa rfl (Aa rfl (Aa rfl (Aa rfl (Aa rfl (Aa lx247 (Aa rfl (Aa rfl (Aa rfl (Aa rfl (Aa rfl (Aa rfl (Aa lx248 (Aa rfl (Aa rfl (Aa rfl (Aa rfl (Aa rfl (Aa lx249 (Aa rfl (Aa rfl (Aa lx250 (Aa lx251 (Aa lx252 rfl)))))))))))))))))))))))))) rfl (A7 rfl) rfl fun H s255 => ?_
       refine Aj s255 A8 rfl ?_
       refine Aj s255 (.here) rfl ?_
       refine Dr (Fw s255 rfl (.agg ⟨_, rfl, rfl⟩ (.sc (.own Vi (.own Px .nil))) (.agg ⟨_, rfl, rfl⟩ (.sc (.sc (.sc (.sc (.sc (.sc (.own zP7 (.sc (.sc (.sc (.sc (.sc (.sc (.own Q0 (.sc (.sc (.sc (.sc (.sc (.own Lf (.sc (.sc (.own Fa (.own Cz (.own Ci .nil))))))))))))))))))))))))) (.sc .nil))) ⟨(Hx ⟨_, rfl, rfl⟩ ⟨trivial, ⟨(Bp (D5 (x0.fFl.set (i).toNat ({ y with fSt := 3 } : Ao))) (by decide)), ⟨(Bp (Gy x0.fQ) (by decide)), trivial⟩⟩⟩), ⟨(Hx ⟨_, rfl, rfl⟩ ⟨trivial, ⟨trivial, ⟨trivial, ⟨trivial, ⟨trivial, ⟨trivial, ⟨(Bp (Jf ((Cw d).fBody)) (by decide)), ⟨trivial, ⟨trivial, ⟨trivial, ⟨trivial, ⟨trivial, ⟨trivial, ⟨(Bp (Jf ((Cw d).fWBody)) (by decide)), ⟨trivial, ⟨trivial, ⟨trivial, ⟨trivial, ⟨trivial, ⟨(Bp (Jf ((Cw d).fPass)) (by decide)), ⟨trivial, ⟨trivial, ⟨(Bp (L9 ((Cw d).fWants)) (by decide)), ⟨(Bp (Xt ((Cw d).fNames)) (by decide)), ⟨(Bp (S8 ((Cw d).fCodes)) (by decide)), trivial⟩⟩⟩⟩⟩⟩⟩⟩⟩⟩⟩⟩⟩⟩⟩⟩⟩⟩⟩⟩⟩⟩⟩⟩⟩), ⟨trivial, trivial⟩⟩⟩) ?_
       have e : Dq kd d x0 pre (y :: t) = ((⟨x0.fLast, (x0.fFl.set (i).toNat ({ y with fSt := 3 } : Ao)), x0.fQ⟩ : B5), (Cw d), true) := by
        clear s0 s202 s203 s245 s253 s254 s255
        try simp only [decide_eq_true_eq, decide_eq_false_iff_not] at h13 h204 h205 h206 h217 h243
        try rw [show x0.fFl.take i.toNat ++ x0.fFl.drop (i.toNat + 1) = pre ++ t from by rw [he, hi]; simp]
        try rw [show x0.fFl.set (i).toNat ({ y with fSt := 3 } : Ao) = pre ++ ({ y with fSt := 3 } : Ao) :: t from by rw [he, hi]; simp]
        rw [Dq]
        (repeat' split) <;> first | rfl | (exfalso; omega)
       rw [e]
       first | done | rfl
      ·refine B0 h243 ?_
       refine B0 h243 ?_
       refine B0 h243 ?_
       refine C4 h243 ?_
       refine B3 rfl ?_
       refine Eo (by omega) (by omega) ?_
       have e256 : Dq kd d x0 pre (y :: t) = Dq kd d x0 (pre ++ [y]) t := by
        clear s0 s202 s203
        try simp only [decide_eq_true_eq, decide_eq_false_iff_not, bne_iff_ne, beq_iff_eq, beq_eq_false_iff_ne] at h13 h204 h205 h206 h217 h243
        rw [Dq]; (repeat' split) <;> first | rfl | (exfalso; omega)
       rw [e256]
       exact Ee n hn x0 kd d b0 h13  t (pre ++ [y]) m _ i10 i5 i3 i1 x8 x7 _ (by rw [he]; simp) (by rw [hi]; simp) (by simpa using hm) lx8 lx7 (by simpa only [List.map_append, List.map_cons, List.map_nil] using (s203.sel (.cons A8 (.cons A8 (.cons A8 (.cons A8 (.cons A8 (.cons A8 .nil))))))))
   ·refine B0 h205 ?_
    refine B0 h205 ?_
    refine B0 h205 ?_
    refine C4 h205 ?_
    refine Ag rfl ?_
    refine Ag rfl ?_
    refine Bv ?_
    refine Ag rfl ?_
    refine Ai ((decide (kd = 7))) (fun h257 => ?_) (fun h257 => ?_)
    ·refine Ag h257 ?_
     refine Af (o' := 5) rfl ?_
     refine Ag h257 ?_
     refine Ay (c := .sc (.int .i64 y.fSt)) s203 (.here) rfl ?_
     refine Ag h257 ?_
     refine Bv ?_
     refine Ag rfl ?_
     refine D9 h257 ?_
     refine C4 rfl ?_
     refine Ai ((decide (y.fSt = 3))) (fun h258 => ?_) (fun h258 => ?_)
     ·refine C1 h258 ?_
      refine Af (o' := 1) rfl ?_
      refine Ay (c := x7) s203 A8 rfl ?_
      have s259 := s203.toShs Cz
      refine Le (a := 0) (b := i) s259 ⟨_, _, rfl, rfl, rfl, rfl⟩ (.here) rfl rfl (by omega) (by first | omega | (simp; omega)) (by first | omega | (simp; omega)) Br rfl fun y260 ly260 qy260 s261 => ?_
      refine Af (o' := 1) rfl ?_
      refine Ay (c := x7) s261 Ci rfl ?_
      refine Eo (by omega) (by omega) ?_
      refine Le (a := (i + 1)) (b := ((x0.fFl.length : Nat) : Int)) s261 ⟨_, _, rfl, rfl, rfl, rfl⟩ (.here) rfl rfl (by omega) (by first | omega | (simp; omega)) (by first | omega | (simp; omega)) Br rfl fun y262 ly262 qy262 s263 => ?_
      refine Re (i := i.toNat) s263 ⟨_, _, rfl, rfl, rfl, rfl⟩ (.here) (by omega) qy260 (by have h := qy262; rw [show (i + 1).toNat = i.toNat + 1 by omega, Int.toNat_natCast] at h; exact h) Br Gv rfl (by omega) fun x264 H lx264 s265 => ?_
      refine Af (o' := 1) rfl ?_
      refine A3 (cs' := [.sc (.int .i64 x0.fLast), x264, x8]) s265 Ci (Ak lx264) rfl (A7 rfl) rfl fun H s266 => ?_
      refine Aj s266 (.here) rfl ?_
      refine Bk (cs := [.sc (.int .i64 0), .sc (.bool false), .sc (.int .i64 0), .sc (.bool false), .sc (.int .i64 0), .sc (.string (⟨#[]⟩)), .nl, .sc (.string (⟨#[]⟩)), .sc (.int .i64 0), .sc (.bool false), .sc (.int .i64 0), .sc (.bool false), .sc (.string (⟨#[]⟩)), .nl, .sc (.int .i64 0), .sc (.bool false), .sc (.bool false), .sc (.string (⟨#[]⟩)), .sc (.bool false), .nl, .sc (.int .i64 0), .sc (.bool false), .nl, .nl, .nl]) rfl ?_
      refine A3 (cs' := [.sc (.int .i64 x0.fLast), x264, x8]) s266 Lf (Ad (Aa rfl (Aa lx264 (Aa lx8 rfl)))) rfl (A7 rfl) rfl fun H s267 => ?_
      refine A3 (cs' := [.sc (.int .i64 0), .sc (.bool false), .sc (.int .i64 0), .sc (.bool false), .sc (.int .i64 0), .sc (.string (⟨#[]⟩)), .nl, .sc (.string (⟨#[]⟩)), .sc (.int .i64 0), .sc (.bool false), .sc (.int .i64 0), .sc (.bool false), .sc (.string (⟨#[]⟩)), .nl, .sc (.int .i64 0), .sc (.bool false), .sc (.bool false), .sc (.string (⟨#[]⟩)), .sc (.bool false), .nl, .sc (.int .i64 0), .sc (.bool false), .nl, .nl, .nl]) s267 Lf (Ad (Aa rfl (Aa rfl (Aa rfl (Aa rfl (Aa rfl (Aa rfl (Aa rfl (Aa rfl (Aa rfl (Aa rfl (Aa rfl (Aa rfl (Aa rfl (Aa rfl (Aa rfl (Aa rfl (Aa rfl (Aa rfl (Aa rfl (Aa rfl (Aa rfl (Aa rfl (Aa rfl (Aa rfl (Aa rfl rfl)))))))))))))))))))))))))) rfl (A7 rfl) rfl fun H s268 => ?_
      refine Aj s268 A8 rfl ?_
      refine Aj s268 (.here) rfl ?_
      refine Dr (Fw s268 rfl (.agg ⟨_, rfl, rfl⟩ (.sc (.own Cz (.own Fa .nil))) (.agg ⟨_, rfl, rfl⟩ (.sc (.sc (.sc (.sc (.sc (.sc (.nl (.sc (.sc (.sc (.sc (.sc (.sc (.nl (.sc (.sc (.sc (.sc (.sc (.nl (.sc (.sc (.nl (.nl (.nl .nil))))))))))))))))))))))))) (.sc .nil))) ⟨(Hx ⟨_, rfl, rfl⟩ ⟨trivial, ⟨(Bp (D5 (x0.fFl.take i.toNat ++ x0.fFl.drop (i.toNat + 1))) (by decide)), ⟨(Bp (Gy x0.fQ) (by decide)), trivial⟩⟩⟩), ⟨(Hx ⟨_, rfl, rfl⟩ ⟨trivial, ⟨trivial, ⟨trivial, ⟨trivial, ⟨trivial, ⟨trivial, ⟨(Ej ⟨_, _, rfl, rfl⟩), ⟨trivial, ⟨trivial, ⟨trivial, ⟨trivial, ⟨trivial, ⟨trivial, ⟨(Ej ⟨_, _, rfl, rfl⟩), ⟨trivial, ⟨trivial, ⟨trivial, ⟨trivial, ⟨trivial, ⟨(Ej ⟨_, _, rfl, rfl⟩), ⟨trivial, ⟨trivial, ⟨(Ej ⟨_, _, rfl, rfl⟩), ⟨(Ej ⟨_, _, rfl, rfl⟩), ⟨(Ej ⟨_, _, rfl, rfl⟩), trivial⟩⟩⟩⟩⟩⟩⟩⟩⟩⟩⟩⟩⟩⟩⟩⟩⟩⟩⟩⟩⟩⟩⟩⟩⟩), ⟨trivial, trivial⟩⟩⟩) ?_
      have e : Dq kd d x0 pre (y :: t) = ((⟨x0.fLast, (x0.fFl.take i.toNat ++ x0.fFl.drop (i.toNat + 1)), x0.fQ⟩ : B5), Q1, true) := by
       clear s0 s202 s203 s259 s261 s263 s265 s266 s267 s268
       try simp only [decide_eq_true_eq, decide_eq_false_iff_not] at h13 h204 h205 h257 h258
       try rw [show x0.fFl.take i.toNat ++ x0.fFl.drop (i.toNat + 1) = pre ++ t from by rw [he, hi]; simp]
       try rw [show x0.fFl.set (i).toNat ({ y with fSt := 3 } : Ao) = pre ++ ({ y with fSt := 3 } : Ao) :: t from by rw [he, hi]; simp]
       rw [Dq]
       (repeat' split) <;> first | rfl | (exfalso; omega)
      rw [e]
      first | done | rfl
     ·refine B3 h258 ?_
      refine Bv ?_
      refine Ai ((decide (kd = 5))) (fun h269 => ?_) (fun h269 => ?_)
      ·refine Ag h269 ?_
       refine Af (o' := 5) rfl ?_
       refine Ag h269 ?_
       refine Ay (c := .sc (.int .i64 y.fSt)) s203 (.here) rfl ?_
       refine Ag h269 ?_
       refine Ki ?_
       refine D9 h269 ?_
       refine Ai ((decide (y.fSt = 1))) (fun h270 => ?_) (fun h270 => ?_)
       ·refine B3 (nF h270) ?_
        refine Eo (by omega) (by omega) ?_
        have e271 : Dq kd d x0 pre (y :: t) = Dq kd d x0 (pre ++ [y]) t := by
         clear s0 s202 s203
         try simp only [decide_eq_true_eq, decide_eq_false_iff_not, bne_iff_ne, beq_iff_eq, beq_eq_false_iff_ne] at h13 h204 h205 h257 h258 h269 h270
         rw [Dq]; (repeat' split) <;> first | rfl | (exfalso; omega)
        rw [e271]
        exact Ee n hn x0 kd d b0 h13  t (pre ++ [y]) m _ i10 i5 i3 i1 x8 x7 _ (by rw [he]; simp) (by rw [hi]; simp) (by simpa using hm) lx8 lx7 (by simpa only [List.map_append, List.map_cons, List.map_nil] using (s203.sel (.cons A8 (.cons A8 (.cons A8 (.cons A8 (.cons A8 (.cons A8 .nil))))))))
       ·refine C1 (nT h270) ?_
        refine Af (o' := 1) rfl ?_
        refine Ay (c := x7) s203 A8 rfl ?_
        have he272 : (x0.fFl)[(i).toNat]? = some y := by rw [he, hi]; simp
        refine Kv (y := y) (y' := ({ y with fSt := 3 } : Ao)) (k := 5) (v := (.int .i64 y.fSt)) s203 ⟨_, _, rfl, rfl, rfl, rfl⟩ Cz (by omega) he272 Br (by omega) rfl rfl rfl fun H s273 => ?_
        refine Aj s273 Ci rfl ?_
        have c274 := Pe (n + 8) (by omega) d
        refine E9 s273 rfl (.cons .sc (.cons .sc .nil)) (c274) ⟨_, rfl, rfl⟩ (Hr _) ?_
        rintro _ _ H ⟨x275, x276, x277, x278, x279, x280, lx275, lx276, lx277, lx278, lx279, lx280, rfl, rfl⟩ s281
        simp only [List.nil_append, List.cons_append] at s281
        refine A3 (cs' := [.sc (.int .i64 x0.fLast), x7, x8]) s281 Mx (Ad (Aa rfl (Aa lx7 (Aa lx8 rfl)))) rfl (A7 rfl) rfl fun H s282 => ?_
        refine A3 (cs' := [.sc (.int .i64 ((Cw d).fType)), .sc (.bool (Cw d).fDup), .sc (.int .i64 ((Cw d).fQos)), .sc (.bool (Cw d).fRetain), .sc (.int .i64 ((Cw d).fId)), .sc (.string ((Cw d).fTopic)), x275, .sc (.string ((Cw d).fClient)), .sc (.int .i64 ((Cw d).fLevel)), .sc (.bool (Cw d).fClean), .sc (.int .i64 ((Cw d).fKeep)), .sc (.bool (Cw d).fHasWill), .sc (.string ((Cw d).fWTopic)), x276, .sc (.int .i64 ((Cw d).fWQos)), .sc (.bool (Cw d).fWRetain), .sc (.bool (Cw d).fHasUser), .sc (.string ((Cw d).fUser)), .sc (.bool (Cw d).fHasPass), x277, .sc (.int .i64 ((Cw d).fCode)), .sc (.bool (Cw d).fPresent), x278, x279, x280]) s282 Mx (Ad (Aa rfl (Aa rfl (Aa rfl (Aa rfl (Aa rfl (Aa rfl (Aa lx275 (Aa rfl (Aa rfl (Aa rfl (Aa rfl (Aa rfl (Aa rfl (Aa lx276 (Aa rfl (Aa rfl (Aa rfl (Aa rfl (Aa rfl (Aa lx277 (Aa rfl (Aa rfl (Aa lx278 (Aa lx279 (Aa lx280 rfl)))))))))))))))))))))))))) rfl (A7 rfl) rfl fun H s283 => ?_
        refine Aj s283 A8 rfl ?_
        refine Aj s283 (.here) rfl ?_
        refine Dr (Fw s283 rfl (.agg ⟨_, rfl, rfl⟩ (.sc (.own Vi (.own Px .nil))) (.agg ⟨_, rfl, rfl⟩ (.sc (.sc (.sc (.sc (.sc (.sc (.own zP7 (.sc (.sc (.sc (.sc (.sc (.sc (.own Q0 (.sc (.sc (.sc (.sc (.sc (.own Lf (.sc (.sc (.own Fa (.own Cz (.own Ci .nil))))))))))))))))))))))))) (.sc .nil))) ⟨(Hx ⟨_, rfl, rfl⟩ ⟨trivial, ⟨(Bp (D5 (x0.fFl.set (i).toNat ({ y with fSt := 3 } : Ao))) (by decide)), ⟨(Bp (Gy x0.fQ) (by decide)), trivial⟩⟩⟩), ⟨(Hx ⟨_, rfl, rfl⟩ ⟨trivial, ⟨trivial, ⟨trivial, ⟨trivial, ⟨trivial, ⟨trivial, ⟨(Bp (Jf ((Cw d).fBody)) (by decide)), ⟨trivial, ⟨trivial, ⟨trivial, ⟨trivial, ⟨trivial, ⟨trivial, ⟨(Bp (Jf ((Cw d).fWBody)) (by decide)), ⟨trivial, ⟨trivial, ⟨trivial, ⟨trivial, ⟨trivial, ⟨(Bp (Jf ((Cw d).fPass)) (by decide)), ⟨trivial, ⟨trivial, ⟨(Bp (L9 ((Cw d).fWants)) (by decide)), ⟨(Bp (Xt ((Cw d).fNames)) (by decide)), ⟨(Bp (S8 ((Cw d).fCodes)) (by decide)), trivial⟩⟩⟩⟩⟩⟩⟩⟩⟩⟩⟩⟩⟩⟩⟩⟩⟩⟩⟩⟩⟩⟩⟩⟩⟩), ⟨trivial, trivial⟩⟩⟩) ?_
        have e : Dq kd d x0 pre (y :: t) = ((⟨x0.fLast, (x0.fFl.set (i).toNat ({ y with fSt := 3 } : Ao)), x0.fQ⟩ : B5), (Cw d), true) := by
         clear s0 s202 s203 s273 s281 s282 s283
         try simp only [decide_eq_true_eq, decide_eq_false_iff_not] at h13 h204 h205 h257 h258 h269 h270
         try rw [show x0.fFl.take i.toNat ++ x0.fFl.drop (i.toNat + 1) = pre ++ t from by rw [he, hi]; simp]
         try rw [show x0.fFl.set (i).toNat ({ y with fSt := 3 } : Ao) = pre ++ ({ y with fSt := 3 } : Ao) :: t from by rw [he, hi]; simp]
         rw [Dq]
         (repeat' split) <;> first | rfl | (exfalso; omega)
        rw [e]
        first | done | rfl
      ·refine B0 h269 ?_
       refine B0 h269 ?_
       refine B0 h269 ?_
       refine C4 h269 ?_
       refine B3 rfl ?_
       refine Eo (by omega) (by omega) ?_
       have e284 : Dq kd d x0 pre (y :: t) = Dq kd d x0 (pre ++ [y]) t := by
        clear s0 s202 s203
        try simp only [decide_eq_true_eq, decide_eq_false_iff_not, bne_iff_ne, beq_iff_eq, beq_eq_false_iff_ne] at h13 h204 h205 h257 h258 h269
        rw [Dq]; (repeat' split) <;> first | rfl | (exfalso; omega)
       rw [e284]
       exact Ee n hn x0 kd d b0 h13  t (pre ++ [y]) m _ i10 i5 i3 i1 x8 x7 _ (by rw [he]; simp) (by rw [hi]; simp) (by simpa using hm) lx8 lx7 (by simpa only [List.map_append, List.map_cons, List.map_nil] using (s203.sel (.cons A8 (.cons A8 (.cons A8 (.cons A8 (.cons A8 (.cons A8 .nil))))))))
    ·refine B0 h257 ?_
     refine B0 h257 ?_
     refine B0 h257 ?_
     refine Ag rfl ?_
     refine C4 h257 ?_
     refine C4 rfl ?_
     refine B3 rfl ?_
     refine Bv ?_
     refine Ai ((decide (kd = 5))) (fun h285 => ?_) (fun h285 => ?_)
     ·refine Ag h285 ?_
      refine Af (o' := 5) rfl ?_
      refine Ag h285 ?_
      refine Ay (c := .sc (.int .i64 y.fSt)) s203 (.here) rfl ?_
      refine Ag h285 ?_
      refine Ki ?_
      refine D9 h285 ?_
      refine Ai ((decide (y.fSt = 1))) (fun h286 => ?_) (fun h286 => ?_)
      ·refine B3 (nF h286) ?_
       refine Eo (by omega) (by omega) ?_
       have e287 : Dq kd d x0 pre (y :: t) = Dq kd d x0 (pre ++ [y]) t := by
        clear s0 s202 s203
        try simp only [decide_eq_true_eq, decide_eq_false_iff_not, bne_iff_ne, beq_iff_eq, beq_eq_false_iff_ne] at h13 h204 h205 h257 h285 h286
        rw [Dq]; (repeat' split) <;> first | rfl | (exfalso; omega)
       rw [e287]
       exact Ee n hn x0 kd d b0 h13  t (pre ++ [y]) m _ i10 i5 i3 i1 x8 x7 _ (by rw [he]; simp) (by rw [hi]; simp) (by simpa using hm) lx8 lx7 (by simpa only [List.map_append, List.map_cons, List.map_nil] using (s203.sel (.cons A8 (.cons A8 (.cons A8 (.cons A8 (.cons A8 (.cons A8 .nil))))))))
      ·refine C1 (nT h286) ?_
       refine Af (o' := 1) rfl ?_
       refine Ay (c := x7) s203 A8 rfl ?_
       have he288 : (x0.fFl)[(i).toNat]? = some y := by rw [he, hi]; simp
       refine Kv (y := y) (y' := ({ y with fSt := 3 } : Ao)) (k := 5) (v := (.int .i64 y.fSt)) s203 ⟨_, _, rfl, rfl, rfl, rfl⟩ Cz (by omega) he288 Br (by omega) rfl rfl rfl fun H s289 => ?_
       refine Aj s289 Ci rfl ?_
       have c290 := Pe (n + 8) (by omega) d
       refine E9 s289 rfl (.cons .sc (.cons .sc .nil)) (c290) ⟨_, rfl, rfl⟩ (Hr _) ?_
       rintro _ _ H ⟨x291, x292, x293, x294, x295, x296, lx291, lx292, lx293, lx294, lx295, lx296, rfl, rfl⟩ s297
       simp only [List.nil_append, List.cons_append] at s297
       refine A3 (cs' := [.sc (.int .i64 x0.fLast), x7, x8]) s297 Mx (Ad (Aa rfl (Aa lx7 (Aa lx8 rfl)))) rfl (A7 rfl) rfl fun H s298 => ?_
       refine A3 (cs' := [.sc (.int .i64 ((Cw d).fType)), .sc (.bool (Cw d).fDup), .sc (.int .i64 ((Cw d).fQos)), .sc (.bool (Cw d).fRetain), .sc (.int .i64 ((Cw d).fId)), .sc (.string ((Cw d).fTopic)), x291, .sc (.string ((Cw d).fClient)), .sc (.int .i64 ((Cw d).fLevel)), .sc (.bool (Cw d).fClean), .sc (.int .i64 ((Cw d).fKeep)), .sc (.bool (Cw d).fHasWill), .sc (.string ((Cw d).fWTopic)), x292, .sc (.int .i64 ((Cw d).fWQos)), .sc (.bool (Cw d).fWRetain), .sc (.bool (Cw d).fHasUser), .sc (.string ((Cw d).fUser)), .sc (.bool (Cw d).fHasPass), x293, .sc (.int .i64 ((Cw d).fCode)), .sc (.bool (Cw d).fPresent), x294, x295, x296]) s298 Mx (Ad (Aa rfl (Aa rfl (Aa rfl (Aa rfl (Aa rfl (Aa rfl (Aa lx291 (Aa rfl (Aa rfl (Aa rfl (Aa rfl (Aa rfl (Aa rfl (Aa lx292 (Aa rfl (Aa rfl (Aa rfl (Aa rfl (Aa rfl (Aa lx293 (Aa rfl (Aa rfl (Aa lx294 (Aa lx295 (Aa lx296 rfl)))))))))))))))))))))))))) rfl (A7 rfl) rfl fun H s299 => ?_
       refine Aj s299 A8 rfl ?_
       refine Aj s299 (.here) rfl ?_
       refine Dr (Fw s299 rfl (.agg ⟨_, rfl, rfl⟩ (.sc (.own Vi (.own Px .nil))) (.agg ⟨_, rfl, rfl⟩ (.sc (.sc (.sc (.sc (.sc (.sc (.own zP7 (.sc (.sc (.sc (.sc (.sc (.sc (.own Q0 (.sc (.sc (.sc (.sc (.sc (.own Lf (.sc (.sc (.own Fa (.own Cz (.own Ci .nil))))))))))))))))))))))))) (.sc .nil))) ⟨(Hx ⟨_, rfl, rfl⟩ ⟨trivial, ⟨(Bp (D5 (x0.fFl.set (i).toNat ({ y with fSt := 3 } : Ao))) (by decide)), ⟨(Bp (Gy x0.fQ) (by decide)), trivial⟩⟩⟩), ⟨(Hx ⟨_, rfl, rfl⟩ ⟨trivial, ⟨trivial, ⟨trivial, ⟨trivial, ⟨trivial, ⟨trivial, ⟨(Bp (Jf ((Cw d).fBody)) (by decide)), ⟨trivial, ⟨trivial, ⟨trivial, ⟨trivial, ⟨trivial, ⟨trivial, ⟨(Bp (Jf ((Cw d).fWBody)) (by decide)), ⟨trivial, ⟨trivial, ⟨trivial, ⟨trivial, ⟨trivial, ⟨(Bp (Jf ((Cw d).fPass)) (by decide)), ⟨trivial, ⟨trivial, ⟨(Bp (L9 ((Cw d).fWants)) (by decide)), ⟨(Bp (Xt ((Cw d).fNames)) (by decide)), ⟨(Bp (S8 ((Cw d).fCodes)) (by decide)), trivial⟩⟩⟩⟩⟩⟩⟩⟩⟩⟩⟩⟩⟩⟩⟩⟩⟩⟩⟩⟩⟩⟩⟩⟩⟩), ⟨trivial, trivial⟩⟩⟩) ?_
       have e : Dq kd d x0 pre (y :: t) = ((⟨x0.fLast, (x0.fFl.set (i).toNat ({ y with fSt := 3 } : Ao)), x0.fQ⟩ : B5), (Cw d), true) := by
        clear s0 s202 s203 s289 s297 s298 s299
        try simp only [decide_eq_true_eq, decide_eq_false_iff_not] at h13 h204 h205 h257 h285 h286
        try rw [show x0.fFl.take i.toNat ++ x0.fFl.drop (i.toNat + 1) = pre ++ t from by rw [he, hi]; simp]
        try rw [show x0.fFl.set (i).toNat ({ y with fSt := 3 } : Ao) = pre ++ ({ y with fSt := 3 } : Ao) :: t from by rw [he, hi]; simp]
        rw [Dq]
        (repeat' split) <;> first | rfl | (exfalso; omega)
       rw [e]
       first | done | rfl
     ·refine B0 h285 ?_
      refine B0 h285 ?_
      refine B0 h285 ?_
      refine C4 h285 ?_
      refine B3 rfl ?_
      refine Eo (by omega) (by omega) ?_
      have e300 : Dq kd d x0 pre (y :: t) = Dq kd d x0 (pre ++ [y]) t := by
       clear s0 s202 s203
       try simp only [decide_eq_true_eq, decide_eq_false_iff_not, bne_iff_ne, beq_iff_eq, beq_eq_false_iff_ne] at h13 h204 h205 h257 h285
       rw [Dq]; (repeat' split) <;> first | rfl | (exfalso; omega)
      rw [e300]
      exact Ee n hn x0 kd d b0 h13  t (pre ++ [y]) m _ i10 i5 i3 i1 x8 x7 _ (by rw [he]; simp) (by rw [hi]; simp) (by simpa using hm) lx8 lx7 (by simpa only [List.map_append, List.map_cons, List.map_nil] using (s203.sel (.cons A8 (.cons A8 (.cons A8 (.cons A8 (.cons A8 (.cons A8 .nil))))))))
  ·refine C1 (nT h204) ?_
   refine Eo (by omega) (by omega) ?_
   have e301 : Dq kd d x0 pre (y :: t) = Dq kd d x0 (pre ++ [y]) t := by
    clear s0 s202 s203
    try simp only [decide_eq_true_eq, decide_eq_false_iff_not, bne_iff_ne, beq_iff_eq, beq_eq_false_iff_ne] at h13 h204
    rw [Dq]; (repeat' split) <;> first | rfl | (exfalso; omega)
   rw [e301]
   exact Ee n hn x0 kd d b0 h13  t (pre ++ [y]) m _ i10 i5 i3 i1 x8 x7 _ (by rw [he]; simp) (by rw [hi]; simp) (by simpa using hm) lx8 lx7 (by simpa only [List.map_append, List.map_cons, List.map_nil] using (s203.sel (.cons A8 (.cons A8 (.cons A8 (.cons A8 (.cons A8 (.cons A8 .nil))))))))
theorem Vo (n : Nat) (hn : 1048576 < n) (x0 : B5) (kd : Int) (d : Int) (b0 : Fi x0 ≤ 1048576) : Di E0 (n + 13) 191 143 [.agg (Bg x0), .sc (.int .i64 kd), .sc (.int .i64 d)] = some (.tup [.agg (Bg (Gh x0 kd d).1), .agg (C7 (Gh x0 kd d).2.1), .sc (.bool (Gh x0 kd d).2.2)]) := by
 rw [Bu, Afo, f143]
 refine Iu (G := (· = some (.tup [.agg (Bg (Gh x0 kd d).1), .agg (C7 (Gh x0 kd d).2.1), .sc (.bool (Gh x0 kd d).2.2)]))) ?_
 have hfl := U9 x0 b0
 try simp only [De, Cj, A4, A6, Ew, Aw, Be]
 have s0 : Sep [] [] := Kd
 refine Qh s0 (H8 (H5 _)) fun i1 H s2 => ?_
 refine C8 s2 fun i3 H s4 => ?_
 refine C8 s4 fun i5 H s6 => ?_
 refine Aj s6 Ci rfl ?_
 refine E9 s6 rfl (.aggF (H5 _) .nil) (Ot (n + 8) (by omega) x0 (Aiv x0 b0)) ⟨_, rfl, rfl⟩ (P5 _) ?_
 rintro _ _ H ⟨x7, x8, lx7, lx8, rfl, rfl⟩ s9
 simp only [List.nil_append, List.cons_append] at s9
 refine C8 s9 fun i10 H s11 => ?_
 refine A3 (cs' := [.sc (.int .i64 x0.fLast), x7, x8]) s11 (.here) (Ad (Aa rfl (Aa lx7 (Aa lx8 rfl)))) rfl (A7 rfl) rfl fun H s12 => ?_
 refine Aj s12 Lf rfl ?_
 refine F6 (v := (.bool (Hm x0))) s12 rfl (.aggF (H5 _) .nil) (O7 (n + 2) (by omega) _ x0 b0) ?_
 refine F8 ?_
 refine Ai ((Hm x0)) (fun h13 => ?_) (fun h13 => ?_)
 ·refine B3 (nF h13) ?_
  have hv : Gh x0 kd d = Dq kd d x0 [] x0.fFl := by unfold Gh; rw [if_pos h13]
  rw [hv]
  exact Ee n hn x0 kd d b0 h13  x0.fFl [] _ 0 i10 i5 i3 i1 x8 x7 _ rfl rfl (by omega) lx8 lx7 s12
 ·refine C1 (nT h13) ?_
  refine Aj s12 (.here) rfl ?_
  refine Bk (cs := [.sc (.int .i64 0), .sc (.bool false), .sc (.int .i64 0), .sc (.bool false), .sc (.int .i64 0), .sc (.string (⟨#[]⟩)), .nl, .sc (.string (⟨#[]⟩)), .sc (.int .i64 0), .sc (.bool false), .sc (.int .i64 0), .sc (.bool false), .sc (.string (⟨#[]⟩)), .nl, .sc (.int .i64 0), .sc (.bool false), .sc (.bool false), .sc (.string (⟨#[]⟩)), .sc (.bool false), .nl, .sc (.int .i64 0), .sc (.bool false), .nl, .nl, .nl]) rfl ?_
  refine A3 (cs' := [.sc (.int .i64 x0.fLast), x7, x8]) s12 Fa (Ad (Aa rfl (Aa lx7 (Aa lx8 rfl)))) rfl (A7 rfl) rfl fun H s14 => ?_
  refine A3 (cs' := [.sc (.int .i64 0), .sc (.bool false), .sc (.int .i64 0), .sc (.bool false), .sc (.int .i64 0), .sc (.string (⟨#[]⟩)), .nl, .sc (.string (⟨#[]⟩)), .sc (.int .i64 0), .sc (.bool false), .sc (.int .i64 0), .sc (.bool false), .sc (.string (⟨#[]⟩)), .nl, .sc (.int .i64 0), .sc (.bool false), .sc (.bool false), .sc (.string (⟨#[]⟩)), .sc (.bool false), .nl, .sc (.int .i64 0), .sc (.bool false), .nl, .nl, .nl]) s14 Fa (Ad (Aa rfl (Aa rfl (Aa rfl (Aa rfl (Aa rfl (Aa rfl (Aa rfl (Aa rfl (Aa rfl (Aa rfl (Aa rfl (Aa rfl (Aa rfl (Aa rfl (Aa rfl (Aa rfl (Aa rfl (Aa rfl (Aa rfl (Aa rfl (Aa rfl (Aa rfl (Aa rfl (Aa rfl (Aa rfl rfl)))))))))))))))))))))))))) rfl (A7 rfl) rfl fun H s15 => ?_
  refine Aj s15 A8 rfl ?_
  refine Aj s15 (.here) rfl ?_
  refine Dr (Fw s15 rfl (.agg ⟨_, rfl, rfl⟩ (.sc (.own Fa (.own Cz .nil))) (.agg ⟨_, rfl, rfl⟩ (.sc (.sc (.sc (.sc (.sc (.sc (.nl (.sc (.sc (.sc (.sc (.sc (.sc (.nl (.sc (.sc (.sc (.sc (.sc (.nl (.sc (.sc (.nl (.nl (.nl .nil))))))))))))))))))))))))) (.sc .nil))) ⟨(Hx ⟨_, rfl, rfl⟩ ⟨trivial, ⟨(Bp (D5 x0.fFl) (by decide)), ⟨(Bp (Gy x0.fQ) (by decide)), trivial⟩⟩⟩), ⟨(Hx ⟨_, rfl, rfl⟩ ⟨trivial, ⟨trivial, ⟨trivial, ⟨trivial, ⟨trivial, ⟨trivial, ⟨(Ej ⟨_, _, rfl, rfl⟩), ⟨trivial, ⟨trivial, ⟨trivial, ⟨trivial, ⟨trivial, ⟨trivial, ⟨(Ej ⟨_, _, rfl, rfl⟩), ⟨trivial, ⟨trivial, ⟨trivial, ⟨trivial, ⟨trivial, ⟨(Ej ⟨_, _, rfl, rfl⟩), ⟨trivial, ⟨trivial, ⟨(Ej ⟨_, _, rfl, rfl⟩), ⟨(Ej ⟨_, _, rfl, rfl⟩), ⟨(Ej ⟨_, _, rfl, rfl⟩), trivial⟩⟩⟩⟩⟩⟩⟩⟩⟩⟩⟩⟩⟩⟩⟩⟩⟩⟩⟩⟩⟩⟩⟩⟩⟩), ⟨trivial, trivial⟩⟩⟩) ?_
  have e : Gh x0 kd d = ((⟨x0.fLast, x0.fFl, x0.fQ⟩ : B5), Q1, false) := by
   clear s0 s2 s4 s6 s9 s11 s12 s14 s15
   try simp only [decide_eq_true_eq, decide_eq_false_iff_not] at h13
   unfold Gh; simp only [h13, if_true, if_false, Bool.false_eq_true]
  rw [e]
  first | done | rfl
end
section
open Go
def Mu (q : List Da) (m : Da) : List Da := if (Hu q && G3 m) = true ∧ q.length < 6 then q ++ [m] else q
def Ja (q : List Da) (m : Da) : Int := if (Hu q && G3 m) = true then (if q.length < 6 then 0 else if m.fQos == 0 then 1 else 2) else 2
theorem Aa3 {ty : Nat} {H : Ac} {ts : List Nat} {raw cells : List AV} {ids : List Nat} (hts : E0.tp ty = some ts) (h : Cm (B6 At E0.tp H 7) ts raw = some (cells, ids)) (hn : ids.Nodup) : Bc At E0.tp ty H (.tup raw) = some (.tup cells) := by
 rw [Bc, Ft, hts, Option.bind_some, h, Option.bind_some, Option.bind_some, if_pos hn]
theorem AbQ {α : Type} {H : Ac} {w tyS : Nat} {cty : List Nat} {enc : α → List AV} (hw : ∀ x, (enc x).length = w) (hty : ∃ i j, At tyS = some i ∧ At i.elem = some j ∧ j.size = w ∧ j.cty = cty) (hc : cty.length = w) (hok : ∀ x, Eh (Gx At E0.tp 6) cty (enc x)) (l : List α) :
  OwnS 6 (H ++ (Bo At E0.tp H.length tyS (Al enc l)).2) w cty (Bo At E0.tp H.length tyS (Al enc l)).1 l.length (l.map enc).flatten := by
 obtain ⟨i, j, h1, h2, rfl, rfl⟩ := hty
 have hi : Bo At E0.tp H.length tyS (Al enc l) = (.sl H.length 0 l.length j.size, ⟨(Bw At E0.tp (H.length + 1) (List.replicate l.length j.cty).flatten (l.map enc).flatten).1, true, true⟩ :: (Bw At E0.tp (H.length + 1) (List.replicate l.length j.cty).flatten (l.map enc).flatten).2) := by
  show Bo At E0.tp H.length tyS (.ro l.length (l.map enc).flatten) = _
  simp only [Bo, h1, Option.bind_some, h2, Option.getD_some]
 rw [hi]
 simp only
 generalize hQ : Bw At E0.tp (H.length + 1) (List.replicate l.length j.cty).flatten (l.map enc).flatten = Q
 have lQ : Lies (H ++ ⟨Q.1, true, true⟩ :: Q.2) (H.length + 1) Q.2 := by
  have := Li (H ++ [⟨Q.1, true, true⟩]) Q.2
  rw [List.length_append, List.length_singleton, List.append_assoc] at this
  exact this
 have ho : OwnC 6 (H ++ ⟨Q.1, true, true⟩ :: Q.2) (List.replicate l.length j.cty).flatten Q.1 (l.map enc).flatten (List.range' (H.length + 1) Q.2.length) := by
  have := Il (H := H ++ ⟨Q.1, true, true⟩ :: Q.2) (fun ty t N h h' _ => F1 6 ty t N h h') (List.replicate l.length j.cty).flatten (l.map enc).flatten (H.length + 1) (P6 l fun x _ => hok x) (by rw [hQ]; exact lQ) (E4 _ _ _)
  rw [hQ] at this
  exact this
 refine .inr ⟨H.length, Q.1, _, rfl, Hq _ _ _, by rw [← hQ, In, Fg hw], ho, ?_⟩
 rw [List.nodup_cons]
 refine ⟨fun hm => ?_, List.nodup_range'⟩
 rw [List.mem_range'_1] at hm
 omega
theorem Acu {H : Ac} {tyT : Nat} {k : Nat} {x : AV} {cells : List AV} {c : Int} (hts : E0.tp tyT = some [79, 3]) (h : OwnS 6 H 4 Hf x k cells) : Bc At E0.tp tyT H (.tup [x, .sc (.int .i64 c)]) = some (.tup [.ro k cells, .sc (.int .i64 c)]) := by
 obtain ⟨ids, ho, hno⟩ := Rc (d := 6) (tyS := 79) Ku h
 refine Aa3 hts (ids := ids) ?_ hno
 simp only [Cm, ho, Gt, Option.bind_some, List.append_nil]
theorem Yk (n : Nat) (hn : 1048576 < n) (x0 : List Da) (x1 : Da) (k0 : x0.length ≤ 9223372036854775807 ∧ ∀ z ∈ x0, Dg z) (k1 : Dg x1) (b0 : F2 B4 x0 ≤ 1048576) (b1 : B4 x1 ≤ 1048576) : Di E0 (n + 8) 213 165 [Al Au x0, .agg (Au x1)] = some (.tup [Al Au (Mu x0 x1), .sc (.int .i64 (Ja x0 x1))]) := by
 obtain ⟨hlen, htop⟩ := Tt x0 b0
 have hsm := (Acd Sf R8 x0 b0).2
 have hs : ∀ x ∈ x0, x.fBody.size ≤ 1048576 := fun x hx => (hsm x hx).1
 have hm : x1.fBody.size ≤ 1048576 := (R8 x1 b1).1
 have ht : x1.fTopic.size ≤ 1048576 := by unfold B4 at b1; omega
 rw [Bu, AeK, f165]
 simp only [De, Ew, Bx, A4, Ch, Aw, Ca, A9, Bi, Be, Bm, Cy]
 refine Qu (Hg _) fun i e hi => ?_
 rw [El (vs := [Al Au x0]) rfl (Cl (Ik _ _ _) E6) (Oq (n + 4) (by omega) x0 hlen hs)]
 have hO := AbQ (H := [] ++ [⟨Au x1, true, true⟩]) Eu Ku rfl (H7 4) x0
 replace hi := Pa hi (Bo At E0.tp ([] ++ [⟨Au x1, true, true⟩] : Ac).length 79 (Al Au x0)).2
 generalize (Bo At E0.tp ([] ++ [⟨Au x1, true, true⟩] : Ac).length 79 (Al Au x0)).1 = y at hO ⊢
 generalize ([] ++ [⟨Au x1, true, true⟩] ++ (Bo At E0.tp ([] ++ [⟨Au x1, true, true⟩] : Ac).length 79 (Al Au x0)).2 : Ac) = G at hO hi ⊢
 refine F5 rfl (Cl (Ik _ _ _) E6) (S2 n hn _ x0 hlen htop) ?_
 refine Ii ?_
 cases hq : Hu x0
 ·refine Du rfl ?_
  refine Du rfl ?_
  refine Du rfl ?_
  refine On rfl ?_
  refine Fo rfl ?_
  have e1 : Mu x0 x1 = x0 := by simp [Mu, hq]
  have e2 : Ja x0 x1 = 2 := by simp [Ja, hq]
  rw [e1, e2]
  exact Acu rfl hO
 ·refine Dm rfl ?_
  refine T6 hi (Eu _) ?_
  refine Dm rfl ?_
  refine F5 rfl (Cl (F7 _ (Hg _)) E6) (R0 (n + 1) (by omega) _ x1 ht) ?_
  refine Dm rfl ?_
  refine Ii ?_
  refine P1 rfl ?_
  cases hmk : G3 x1
  ·refine Fo rfl ?_
   have e1 : Mu x0 x1 = x0 := by simp [Mu, hq, hmk]
   have e2 : Ja x0 x1 = 2 := by simp [Ja, hq, hmk]
   rw [e1, e2]
   exact Acu rfl hO
  ·refine Gb rfl ?_
   refine Do ?_
   refine Bf (v := .sc (.bool ((x0.length : Int) == 6))) (fun k => rfl) ?_
   have hl6 : x0.length ≤ 6 := by
    unfold Hu at hq
    simp at hq
    omega
   by_cases h6 : x0.length = 6
   ·refine Fo (by simp [h6]) ?_
    refine Ap ?_
    refine Ce (c := .sc (.int .i64 x1.fQos)) hi (A7 rfl) rfl ?_
    refine Bf (v := .sc (.bool (x1.fQos == 0))) (fun k => rfl) ?_
    have e1 : Mu x0 x1 = x0 := by simp [Mu, h6]
    rw [e1]
    cases hz : (x1.fQos == 0)
    ·refine Gb rfl ?_
     have e2 : Ja x0 x1 = 2 := by simp [Ja, h6, hq, hmk, hz]
     rw [e2]
     exact Acu rfl hO
    ·refine Fo rfl ?_
     have e2 : Ja x0 x1 = 1 := by simp [Ja, h6, hq, hmk, hz]
     rw [e2]
     exact Acu rfl hO
   ·refine Gb (by simp; omega) ?_
    refine T6 hi (Eu _) ?_
    have e1 : Mu x0 x1 = x0 ++ [x1] := by simp [Mu, hq, hmk]; omega
    have e2 : Ja x0 x1 = 0 := by simp [Ja, hq, hmk]; omega
    rw [e1, e2]
    have hst := fun K h => P3 (β := AV) (n := n + 7) (X0 := []) (bytes := 56) (z := Hs) (K := K) (r := some (.tup [Al Au (x0 ++ [x1]), .sc (.int .i64 0)])) hO rfl (Cl (F7 _ (Hg x1)) E6) (Q7 (n + 6) x1 hm) Pf (H7 4 x1) (Hg x1) (Eu x1) rfl (by omega) h
    simp only [List.append_nil] at hst
    refine hst _ fun x' H' hx' => ?_
    have := Acu (tyT := 213) (c := 0) rfl hx'
    rw [show Al Au (x0 ++ [x1]) = .ro (x0.length + 1) ((x0.map Au).flatten ++ Au x1) by
     show AV.ro _ _ = _
     simp]
    exact this
end
section
open Go
theorem Zq {y : AV} (hl : Aq y = true) : Cx y = some [y] := by
 cases y <;> first | (simp [Aq] at hl; done) | (simp only [Cx, hl, if_true]) | rfl
theorem Adb {v : Value} {x z : AV} (hv : Aq (.sc v) = true) (hx : Aq x = true) (hz : Aq z = true) : Cx (.agg [.sc v, x, z]) = some [.sc v, x, z] := by
 show (if (Aq (.sc v) && (Aq x && (Aq z && true))) = true then _ else none) = _
 rw [hv, hx, hz]
 rfl
theorem Z6 {H : Ac} {i6 : Nat} {o : B5} {q' : List Da} {x z : AV} {ids1 ids2 : List Nat} {c : Int} (h6 : H[i6]? = some ⟨[.sc (.int .i64 o.fLast), x, z], true, true⟩) (h2 : H[2]? = some ⟨C0, true, true⟩) (lx : Aq x = true) (lz : Aq z = true)
  (ox : B6 At E0.tp H 6 113 x = some (Al Az o.fFl, ids1)) (oz : B6 At E0.tp H 6 79 z = some (Al Au q', ids2)) (hn : (ids1 ++ ids2).Nodup) (n1 : 2 ∉ ids1) (n2 : 2 ∉ ids2) :
  (C2 true 3 (.ptr i6 0) H fun t => Dt 3 (.ptr 2 0) t H fun H => C2 true 3 (.ptr 2 0) H fun r0 => Bc At E0.tp 194 H (Cq [r0, .sc (.int .i64 c)])) = some (.tup [.agg (Bg { o with fQ := q' }), .sc (.int .i64 c)]) := by
 have l2 : 2 < H.length := (List.getElem?_eq_some_iff.1 h2).1
 refine F0 (ds := [.sc (.int .i64 o.fLast), x, z]) h6 (A7 rfl) rfl ?_
 rw [En 3 2 0 _ ⟨C0, true, true⟩ [.sc (.int .i64 o.fLast), x, z] H _ h2 (Adb rfl lx lz) rfl (A7 rfl) rfl]
 refine F0 (ds := [.sc (.int .i64 o.fLast), x, z]) (cs := [.sc (.int .i64 o.fLast), x, z]) (by rw [List.getElem?_set_self l2]; rfl) (A7 rfl) rfl ?_
 generalize hb : (⟨Cg C0 0 [.sc (.int .i64 o.fLast), x, z], true, true⟩ : Gl) = b
 have e1 := Dd (H' := H.set 2 b) 6 _ _ _ ox fun i hi => by rw [List.getElem?_set_ne (fun (e : 2 = i) => n1 (e ▸ hi))]
 have e2 := Dd (H' := H.set 2 b) 6 _ _ _ oz fun i hi => by rw [List.getElem?_set_ne (fun (e : 2 = i) => n2 (e ▸ hi))]
 obtain ⟨i, hi, hcy⟩ := Wq
 have e3 : B6 At E0.tp (H.set 2 b) 7 115 (.agg [.sc (.int .i64 o.fLast), x, z]) = some (.agg (Bg { o with fQ := q' }), ids1 ++ ids2) := by
  rw [D4, hi, Option.bind_some, hcy]
  simp only [Gp, Cm, Gt, e1, e2, Option.bind_some, List.nil_append, List.append_nil]
  rfl
 have e4 : Cm (B6 At E0.tp (H.set 2 b) 7) [115, 3] [.agg [.sc (.int .i64 o.fLast), x, z], .sc (.int .i64 c)] = some ([.agg (Bg { o with fQ := q' }), .sc (.int .i64 c)], ids1 ++ ids2) := by
  simp only [Cm, e3, Gt, Option.bind_some, List.append_nil]
 exact Aa3 rfl e4 hn
theorem AdK (N : Nat) (o : B5) : Bw At E0.tp N Gp (Bg o) = ([.sc (.int .i64 o.fLast), (Bo At E0.tp N 113 (Al Az o.fFl)).1, (Bo At E0.tp (N + (Bo At E0.tp N 113 (Al Az o.fFl)).2.length) 79 (Al Au o.fQ)).1], (Bo At E0.tp N 113 (Al Az o.fFl)).2 ++ (Bo At E0.tp (N + (Bo At E0.tp N 113 (Al Az o.fFl)).2.length) 79 (Al Au o.fQ)).2) := by
 show Bw At E0.tp N [3, 113, 79] [.sc (.int .i64 o.fLast), Al Az o.fFl, Al Au o.fQ] = _
 simp only [Bw, List.headD_cons, List.tail_cons, G8, List.length_nil, Nat.add_zero, List.nil_append, List.append_nil]
theorem AbB (N : Nat) (q : List Da) (c : Int) : Bo At E0.tp N 213 (.tup [Al Au q, .sc (.int .i64 c)]) = (.tup [(Bo At E0.tp N 79 (Al Au q)).1, .sc (.int .i64 c)], (Bo At E0.tp N 79 (Al Au q)).2) := by
 rw [P7, show E0.tp 213 = some [79, 3] from rfl, Option.getD_some]
 simp only [Bw, List.headD_cons, List.tail_cons, G8, List.append_nil]
theorem K1 {α : Type} (N ty : Nat) (enc : α → List AV) (l : List α) : Aq (Bo At E0.tp N ty (Al enc l)).1 = true := rfl
theorem Af3 {n gC : Nat} {o : B5} {m : Da} {K : AV → AV → AV → AV → Ac → Option AV} {r : Option AV} (hC : F4 gC = false) (tC : Di E0 n 115 gC [.agg (Bg o)] = some (.agg (Bg o)))
  (h : ∀ (X Q : AV × List Gl), Bo At E0.tp 3 113 (Al Az o.fFl) = X → Bo At E0.tp (3 + X.2.length) 79 (Al Au o.fQ) = Q → K (.ptr 0 0) (.ptr 1 0) (.ptr 2 0) (.ptr (3 + (X.2.length + Q.2.length)) 0) ([⟨Bg o, true, true⟩, ⟨Au m, true, true⟩, ⟨C0, true, true⟩] ++ (X.2 ++ Q.2) ++ [⟨[.sc (.int .i64 o.fLast), X.1, Q.1], true, true⟩]) = r) :
  (Qc (.agg (Bg o)) [] fun t2 H => Qc (.agg (Au m)) H fun t3 H => Ie [.sc (.int .i64 0), .nl, .nl] H fun t4 H => C2 true 3 t2 H fun t9 => (PR n AV).call 115 (.fn gC [] []) [t9] H fun t10 H => Ie [.sc (.int .i64 0), .nl, .nl] H fun t6 H => Dt 3 t6 t10 H fun H => K t2 t3 t4 t6 H) = r := by
 rw [I5 _ _ _ (H5 o), I5 _ _ _ (Hg m)]
 simp only [Ie, List.length_nil, List.nil_append, List.length_cons, Nat.zero_add, List.length_append, List.cons_append]
 refine F0 (ds := Bg o) (cs := Bg o) rfl (A7 rfl) rfl ?_
 rw [El hC (Cl (F7 _ (H5 _)) E6) tC]
 obtain ⟨i, hi, hc⟩ := Wq
 rw [Fq, hi, Option.getD_some, hc, AdK]
 have hlX := K1 3 113 Az o.fFl
 generalize hX : Bo At E0.tp 3 113 (Al Az o.fFl) = X at hlX
 have hlQ := K1 (3 + X.2.length) 79 Au o.fQ
 generalize hQ : Bo At E0.tp (3 + X.2.length) 79 (Al Au o.fQ) = Q at hlQ
 have hX' : Bo At E0.tp ([⟨Bg o, true, true⟩, ⟨Au m, true, true⟩, ⟨[.sc (.int .i64 0), .nl, .nl], true, true⟩] : Ac).length 113 (Al Az o.fFl) = X := hX
 have hQ' : Bo At E0.tp (([⟨Bg o, true, true⟩, ⟨Au m, true, true⟩, ⟨[.sc (.int .i64 0), .nl, .nl], true, true⟩] : Ac).length + X.2.length) 79 (Al Au o.fQ) = Q := hQ
 have hh := h X Q hX hQ
 simp only [hX', hQ']
 generalize hb0 : (⟨Bg o, true, true⟩ : Gl) = b0 at hh ⊢
 generalize hb1 : (⟨Au m, true, true⟩ : Gl) = b1 at hh ⊢
 have hN : ([b0, b1, ⟨C0, true, true⟩] ++ (X.2 ++ Q.2) : Ac).length = 3 + (X.2.length + Q.2.length) := by simp; omega
 have hg : ([b0, b1, ⟨C0, true, true⟩] ++ (X.2 ++ Q.2) ++ [⟨C0, true, true⟩] : Ac)[3 + (X.2.length + Q.2.length)]? = some ⟨C0, true, true⟩ := by
  rw [← hN]
  exact Hq _ _ []
 have hs : ([b0, b1, ⟨C0, true, true⟩] ++ (X.2 ++ Q.2) ++ [⟨C0, true, true⟩] : Ac).set (3 + (X.2.length + Q.2.length)) ⟨Cg C0 0 [.sc (.int .i64 o.fLast), X.1, Q.1], true, true⟩ = [b0, b1, ⟨C0, true, true⟩] ++ (X.2 ++ Q.2) ++ [⟨[.sc (.int .i64 o.fLast), X.1, Q.1], true, true⟩] := by
  rw [← hN]
  exact R9 _ _ _ []
 have hst := En (β := AV) 3 (3 + (X.2.length + Q.2.length)) 0 (.agg [.sc (.int .i64 o.fLast), X.1, Q.1]) ⟨C0, true, true⟩ [.sc (.int .i64 o.fLast), X.1, Q.1] ([b0, b1, ⟨C0, true, true⟩] ++ (X.2 ++ Q.2) ++ [⟨C0, true, true⟩]) (fun H => K (.ptr 0 0) (.ptr 1 0) (.ptr 2 0) (.ptr (3 + (X.2.length + Q.2.length)) 0) H) hg (Adb rfl hlX hlQ) rfl (A7 rfl) rfl
 rw [hs] at hst
 have e : Dt 3 (.ptr ([b0, b1, ⟨C0, true, true⟩] ++ (X.2 ++ Q.2) : Ac).length 0) (.agg [.sc (.int .i64 o.fLast), X.1, Q.1]) ([b0, b1, ⟨C0, true, true⟩] ++ (X.2 ++ Q.2) ++ [⟨C0, true, true⟩]) (fun H => K (.ptr 0 0) (.ptr 1 0) (.ptr 2 0) (.ptr ([b0, b1, ⟨C0, true, true⟩] ++ (X.2 ++ Q.2) : Ac).length 0) H) = r := by
  rw [hN]
  exact hst.trans hh
 exact e
theorem Wh {n gC gO gP : Nat} {o : B5} {m : Da} {q' : List Da} {c : Int} {ok : Bool} (hC : F4 gC = false) (hO : F4 gO = false) (hP : F4 gP = false) (tC : Di E0 n 115 gC [.agg (Bg o)] = some (.agg (Bg o)))
  (tO : Di E0 n 4 gO [.agg (Bg o)] = some (.sc (.bool ok))) (tP : Di E0 n 213 gP [Al Au o.fQ, .agg (Au m)] = some (.tup [Al Au q', .sc (.int .i64 c)])) :
  (Qc (.agg (Bg o)) [] fun t2 H => Qc (.agg (Au m)) H fun t3 H => Ie [.sc (.int .i64 0), .nl, .nl] H fun t4 H => C2 true 3 t2 H fun t9 => (PR n AV).call 115 (.fn gC [] []) [t9] H fun t10 H => Ie [.sc (.int .i64 0), .nl, .nl] H fun t6 H => Dt 3 t6 t10 H fun H => C2 true 3 t2 H fun t11 => (PR n AV).call 4 (.fn gO [] []) [t11] H fun t12 H => pUn .not t12 fun t13 => Ih t13
   (C2 true 3 t6 H fun t14 => Dt 3 t4 t14 H fun H => C2 true 3 t4 H fun r0 => Bc At E0.tp 194 H (Cq [r0, .sc (.int .i64 2)]))
   (Mi 2 t2 fun t16 => C2 false 1 t16 H fun t17 => C2 true 4 t3 H fun t18 => (PR n AV).call 213 (.fn gP [] []) [t17, t18] H fun t19 H => Qm t19 0 fun t20 => Qm t19 1 fun t21 => Mi 2 t6 fun t23 => Dt 1 t23 t20 H fun H => C2 true 3 t6 H fun t24 => Dt 3 t4 t24 H fun H => C2 true 3 t4 H fun r0 => Bc At E0.tp 194 H (Cq [r0, t21]))) =
  some (.tup [.agg (Bg (if ok then { o with fQ := q' } else o)), .sc (.int .i64 (if ok then c else 2))]) := by
 refine Af3 hC tC fun X Q hX hQ => ?_
 have hlX : Aq X.1 = true := by rw [← hX]; exact K1 _ _ _ _
 have hlQ : Aq Q.1 = true := by rw [← hQ]; exact K1 _ _ _ _
 generalize hb0 : (⟨Bg o, true, true⟩ : Gl) = b0
 generalize hb1 : (⟨Au m, true, true⟩ : Gl) = b1
 have hN : ([b0, b1, ⟨C0, true, true⟩] ++ (X.2 ++ Q.2) : Ac).length = 3 + (X.2.length + Q.2.length) := by simp; omega
 have own1 : ∀ R : Ac, B6 At E0.tp ([b0, b1, ⟨C0, true, true⟩] ++ (X.2 ++ Q.2) ++ R) 6 113 X.1 = some (Al Az o.fFl, List.range' 3 X.2.length) := by
  intro R
  rw [← hX]
  refine F1 6 _ _ 3 (Fk (d := 5) Br Pw (K6 3) o.fFl) ?_
  rw [hX]
  have := Km [b0, b1, ⟨C0, true, true⟩] X.2 (Q.2 ++ R)
  rw [List.append_assoc] at this
  rw [List.append_assoc, List.append_assoc]
  exact this
 have own2' : ∀ R : Ac, B6 At E0.tp ([b0, b1, ⟨C0, true, true⟩] ++ (X.2 ++ Q.2) ++ R) 6 79 Q.1 = some (Al Au o.fQ, List.range' (3 + X.2.length) Q.2.length) := by
  intro R
  rw [← hQ]
  refine F1 6 _ _ (3 + X.2.length) (Fk (d := 5) Eu Ku (H7 3) o.fQ) ?_
  rw [hQ]
  have := Km ([b0, b1, ⟨C0, true, true⟩] ++ X.2) Q.2 R
  rw [List.length_append, List.append_assoc [b0, b1, ⟨C0, true, true⟩] X.2 Q.2] at this
  exact this
 have g0 : ∀ R : Ac, ([b0, b1, ⟨C0, true, true⟩] ++ (X.2 ++ Q.2) ++ R : Ac)[0]? = some ⟨Bg o, true, true⟩ := fun R => by rw [hb0]; rfl
 have g1 : ∀ R : Ac, ([b0, b1, ⟨C0, true, true⟩] ++ (X.2 ++ Q.2) ++ R : Ac)[1]? = some ⟨Au m, true, true⟩ := fun R => by rw [hb1]; rfl
 have g2 : ∀ R : Ac, ([b0, b1, ⟨C0, true, true⟩] ++ (X.2 ++ Q.2) ++ R : Ac)[2]? = some ⟨C0, true, true⟩ := fun R => rfl
 generalize hA : ([b0, b1, ⟨C0, true, true⟩] ++ (X.2 ++ Q.2) : Ac) = A at hN own1 own2' g0 g1 g2 ⊢
 refine T6 (g0 _) (Ahw _) ?_
 refine F5 hO (Cl (F7 _ (H5 _)) E6) tO ?_
 refine Ii ?_
 cases ok
 ·refine Fo rfl ?_
  refine Z6 (q' := o.fQ) (by rw [← hN]; exact Hq A _ []) (g2 _) hlX hlQ (own1 _) (own2' _) ?_ ?_ ?_
  ·have := List.range'_append (s := 3) (m := X.2.length) (n := Q.2.length) (step := 1)
   rw [Nat.one_mul] at this
   rw [this]
   exact List.nodup_range'
  ·rw [List.mem_range'_1]; omega
  ·rw [List.mem_range'_1]; omega
 ·refine Gb rfl ?_
  refine Ap ?_
  refine Ce (c := Al Au o.fQ) (g0 _) (A7 rfl) rfl ?_
  refine T6 (g1 _) (Eu _) ?_
  rw [El hP (Cl (Ik _ _ _) (Cl (F7 _ (Hg _)) E6)) tP, AbB]
  have hlP := K1 (A ++ [⟨[.sc (.int .i64 o.fLast), X.1, Q.1], true, true⟩] : Ac).length 79 Au q'
  generalize hP : Bo At E0.tp (A ++ [⟨[.sc (.int .i64 o.fLast), X.1, Q.1], true, true⟩] : Ac).length 79 (Al Au q') = P at hlP
  refine Ju (x := P.1) rfl ?_
  refine Ju (x := .sc (.int .i64 c)) rfl ?_
  refine Ap ?_
  have hg : (A ++ [⟨[.sc (.int .i64 o.fLast), X.1, Q.1], true, true⟩] ++ P.2 : Ac)[3 + (X.2.length + Q.2.length)]? = some ⟨[.sc (.int .i64 o.fLast), X.1, Q.1], true, true⟩ := by
   rw [← hN, List.append_assoc]
   exact Hq A _ P.2
  rw [En 1 (3 + (X.2.length + Q.2.length)) (0 + 2) P.1 _ [P.1] _ _ hg (Zq hlP) rfl (A7 rfl) rfl]
  have hs : (A ++ [⟨[.sc (.int .i64 o.fLast), X.1, Q.1], true, true⟩] ++ P.2 : Ac).set (3 + (X.2.length + Q.2.length)) ⟨Cg [.sc (.int .i64 o.fLast), X.1, Q.1] (0 + 2) [P.1], true, true⟩ = A ++ (⟨[.sc (.int .i64 o.fLast), X.1, P.1], true, true⟩ :: P.2) := by
   rw [← hN, List.append_assoc]
   exact R9 A _ _ P.2
  rw [hs]
  have oP : B6 At E0.tp (A ++ (⟨[.sc (.int .i64 o.fLast), X.1, P.1], true, true⟩ :: P.2)) 6 79 P.1 = some (Al Au q', List.range' (A.length + 1) P.2.length) := by
   have hP2 : Bo At E0.tp (A.length + 1) 79 (Al Au q') = P := by
    rw [← hP, List.length_append, List.length_singleton]
   rw [← hP2]
   refine F1 6 _ _ (A.length + 1) (Fk (d := 5) Eu Ku (H7 3) q') ?_
   rw [hP2]
   have := Li (A ++ [⟨[.sc (.int .i64 o.fLast), X.1, P.1], true, true⟩]) P.2
   rw [List.length_append, List.length_singleton, List.append_assoc] at this
   exact this
  refine Z6 (q' := q') (by rw [← hN]; exact Hq A _ P.2) (g2 _) hlX hlP (own1 _) oP ?_ ?_ ?_
  ·rw [List.nodup_append]
   refine ⟨List.nodup_range', List.nodup_range', fun a ha b hb => ?_⟩
   rw [List.mem_range'_1] at ha hb
   omega
  ·rw [List.mem_range'_1]; omega
  ·rw [List.mem_range'_1]; omega
def Ea (o : B5) (m : Da) : B5 := if Hm o then { o with fQ := Mu o.fQ m } else o
def Qa (o : B5) (m : Da) : Int := if Hm o then Ja o.fQ m else 2
theorem Aiu (o : B5) (h : Fi o ≤ 1048576) : M4 o := by
 have h1 := Zg o h
 exact ⟨⟨h1.1.1, fun y hy => (h1.1.2 y hy).1⟩, ⟨h1.2.1.1, fun y hy => (h1.2.1.2 y hy).1⟩⟩
theorem Nr (n : Nat) (hn : 1048576 < n) (x0 : B5) (x1 : Da) (k0 : Rj x0) (k1 : Dg x1) (b0 : Fi x0 ≤ 1048576) (b1 : B4 x1 ≤ 1048576) : Di E0 (n + 11) 194 144 [.agg (Bg x0), .agg (Au x1)] = some (.tup [.agg (Bg (Ea x0 x1)), .sc (.int .i64 (Qa x0 x1))]) := by
 rw [Bu, Aer, f144]
 simp only [De, Cj, A4, A6, Bi, Ew, Aw, Fc]
 exact Wh rfl rfl rfl (Ot (n + 6) (by omega) x0 (Aiu x0 b0)) (O7 n hn _ x0 b0) (Yk (n + 2) (by omega) x0.fQ x1 k0.2.2 k1 (by unfold Fi at b0; omega) b1)
end
section
open Go
section
variable {β : Type} {n : Nat} {H : Ac} {L L' L1 L2 : List Ck} {G : Option β → Prop} {K : AV → Option β} {KH : KO β}
theorem Ahj {cty : List Nat} {m i : Nat} (hi : i < m) : (List.replicate m cty).flatten = (List.replicate i cty).flatten ++ (cty ++ (List.replicate (m - i - 1) cty).flatten) := by
 rw [show (List.replicate m cty) = List.replicate i cty ++ (cty :: List.replicate (m - i - 1) cty) from by
  rw [← List.replicate_succ, List.replicate_append_replicate]
  congr 1
  omega]
 simp
theorem Z7 {α : Type} {enc : α → List AV} {l : List α} {i : Nat} {y : α} (hy : l[i]? = some y) : (l.map enc).flatten = ((l.take i).map enc).flatten ++ (enc y ++ ((l.drop (i + 1)).map enc).flatten) := by
 have h := (List.getElem?_eq_some_iff.1 hy)
 obtain ⟨h1, h2⟩ := h
 have e : l = l.take i ++ y :: l.drop (i + 1) := by
  rw [← h2, List.getElem_cons_drop, List.take_append_drop]
 have e2 : l.map enc = (l.take i).map enc ++ (enc y :: (l.drop (i + 1)).map enc) := by
  rw [← List.map_cons, ← List.map_append, ← e]
 rw [e2]
 simp
theorem AiN {l : List AV} {a b : Nat} (h : a + b ≤ l.length) : l = l.take a ++ ((l.drop a).take b ++ l.drop (a + b)) := by
 rw [← List.drop_drop, List.take_append_drop, List.take_append_drop]
theorem AbF {c ds : List AV} {off p m : Nat} (h : p + ds.length ≤ m) (hm : off + m ≤ c.length) : ((Cg c (off + p) ds).drop off).take m = ((c.drop off).take m).take p ++ (ds ++ (((c.drop off).take m).drop p).drop ds.length) := by
 have h1 : Cg c (off + p) ds = c.take off ++ ((c.drop off).take p ++ (ds ++ c.drop (off + p + ds.length))) := by
  unfold Cg
  rw [List.take_add]
  simp only [List.append_assoc]
 rw [h1, List.drop_left' (by rw [List.length_take]; omega), List.take_append, List.take_append]
 have l1 : ((c.drop off).take p).length = p := by rw [List.length_take, List.length_drop]; omega
 rw [List.take_of_length_le (by rw [l1]; omega : ((c.drop off).take p).length ≤ m), l1, List.take_of_length_le (l := ds) (i := m - p) (by omega), List.take_take, Nat.min_eq_left (by omega), List.drop_drop, List.drop_take, List.drop_drop]
 rw [show m - p - ds.length = m - (p + ds.length) by omega, show off + p + ds.length = off + (p + ds.length) by omega]
theorem AcE {α : Type} {enc : α → List AV} {w ty k v : Nat} {cty : List Nat} {x yv : AV} {l : List α} {y y' : α} {i : Int} {ds cm : List AV} {KS : Ac → Option β} (hs : Sep H L) (hty : ∃ i j, At ty = some i ∧ At i.elem = some j ∧ j.size = w ∧ j.cty = cty) (hc : cty.length = w) (hp : Pk L (.own x ty (Al enc l)) L1)
  (hr : OwnR L1 ds ((cty.drop k).take v) cm L2) (hok : Eh (Gx At E0.tp 5) ((cty.drop k).take v) cm) (hi : 0 ≤ i) (hy : l[i.toNat]? = some y) (hw : ∀ x, (enc x).length = w) (hk : k + v ≤ w) (hyv : Cx yv = some ds) (hdl : ds.length = v) (hcl : cm.length = v) (he : enc y' = Cg (enc y) k cm)
  (h : ∀ H', Sep H' (.own x ty (Al enc (l.set i.toNat y')) :: L2) → Gd G (KS H')) : Gd G (E7 w x (.sc (.int .i64 i)) fun t => Mi k t fun t => Dt v t yv H fun H => KS H) := by
 obtain ⟨ti, tj, e1, e2, rfl, rfl⟩ := hty
 obtain ⟨I, ⟨J, R, rfl, ⟨hlf, hok1, e⟩, h2⟩, h3⟩ := hs.pick hp
 have hlt : i.toNat < l.length := (List.getElem?_eq_some_iff.1 hy).1
 rcases Lw e1 e2 e with ⟨rfl, h0, _, _⟩ | ⟨id, off, raw, J', b, rfl, rfl, hb, hlv, ha, h4, h5⟩
 ·omega
 ·obtain ⟨hl4, b', hb', _, hle, hcs⟩ := Hj h4
  rw [hb] at hb'
  cases hb'
  have hm : (i.toNat + 1) * tj.size ≤ l.length * tj.size := Nat.mul_le_mul_right _ hlt
  rw [Nat.add_mul, Nat.one_mul] at hm
  have hlc : ((l.map enc).flatten).length = l.length * tj.size := Fg hw l
  have hid : id < H.length := (List.getElem?_eq_some_iff.1 hb).1
  refine Ol hi (by omega) ?_
  refine Af (o' := off + (i.toNat * tj.size + k)) (by omega) ?_
  have hst := En v id (off + (i.toNat * tj.size + k)) yv b ds H (fun H => KS H) hb hyv hdl (by omega) hlv
  refine Dv hst (h _ ?_)
  generalize hT1 : (List.replicate i.toNat tj.cty).flatten ++ tj.cty.take k = T1
  generalize hT3 : tj.cty.drop (k + v) ++ (List.replicate (l.length - i.toNat - 1) tj.cty).flatten = T3
  have hT : (List.replicate l.length tj.cty).flatten = T1 ++ ((tj.cty.drop k).take v ++ T3) := by
   rw [Ahj hlt, ← hT1, ← hT3]
   have : tj.cty = tj.cty.take k ++ ((tj.cty.drop k).take v ++ tj.cty.drop (k + v)) := by rw [← List.drop_drop, List.take_append_drop, List.take_append_drop]
   conv => lhs; rw [show tj.cty ++ (List.replicate (l.length - i.toNat - 1) tj.cty).flatten = (tj.cty.take k ++ ((tj.cty.drop k).take v ++ tj.cty.drop (k + v))) ++ (List.replicate (l.length - i.toNat - 1) tj.cty).flatten by rw [← this]]
   simp only [List.append_assoc]
  have hT1l : T1.length = i.toNat * tj.size + k := by rw [← hT1]; simp [hc]; omega
  have hT2l : ((tj.cty.drop k).take v).length = v := by simp [hc]; omega
  generalize hA : ((l.take i.toNat).map enc).flatten ++ (enc y).take k = A
  generalize hD : (enc y).drop (k + v) ++ ((l.drop (i.toNat + 1)).map enc).flatten = D
  have hC : (l.map enc).flatten = A ++ (((enc y).drop k).take v ++ D) := by
   rw [Z7 hy, ← hA, ← hD]
   have : enc y = (enc y).take k ++ (((enc y).drop k).take v ++ (enc y).drop (k + v)) := AiN (by rw [hw]; exact hk)
   conv => lhs; rw [show enc y ++ ((l.drop (i.toNat + 1)).map enc).flatten = ((enc y).take k ++ (((enc y).drop k).take v ++ (enc y).drop (k + v))) ++ ((l.drop (i.toNat + 1)).map enc).flatten by rw [← this]]
   simp only [List.append_assoc]
  have hAl : A.length = i.toNat * tj.size + k := by
   rw [← hA, List.length_append, Fg hw, List.length_take, List.length_take, hw]
   rw [Nat.min_eq_left (by omega), Nat.min_eq_left (by omega)]
  have hBl : (((enc y).drop k).take v).length = v := by rw [List.length_take, List.length_drop, hw]; omega
  have hC2 : ((l.set i.toNat y').map enc).flatten = A ++ (cm ++ D) := by
   have hy' : (l.set i.toNat y')[i.toNat]? = some y' := by rw [List.getElem?_set_self hlt]
   rw [Z7 hy', ← hA, ← hD, he, List.take_set_of_le (Nat.le_refl _), List.drop_set_of_lt (Nat.lt_succ_self _)]
   unfold Cg
   rw [hcl]
   simp only [List.append_assoc]
  rw [hT, hC] at h5
  have hrl : raw.length = l.length * tj.size := hl4
  obtain ⟨IA, IX, q1, q2, rfl⟩ := Iv h5 (by rw [hT1l]; omega)
  obtain ⟨IB, ID, q3, q4, rfl⟩ := Iv q2 (by rw [hT2l, List.length_drop, hT1l]; omega)
  rw [hT1l] at q1 q3 q4
  rw [hT2l] at q3 q4
  rw [show (A ++ (((enc y).drop k).take v ++ D)).take (i.toNat * tj.size + k) = A by rw [← hAl]; simp] at q1
  rw [show ((A ++ (((enc y).drop k).take v ++ D)).drop (i.toNat * tj.size + k)).drop v = D by
   rw [← hAl, List.drop_left' rfl]
   exact List.drop_left' hBl] at q4
  have hn1 := List.nodup_cons.1 (show (id :: (IA ++ (IB ++ ID) ++ R)).Nodup from h3)
  generalize hH : H.set id { b with cells := Cg b.cells (off + (i.toNat * tj.size + k)) ds } = H'
  have hfr : ∀ z, z ≠ id → H'[z]? = H[z]? := fun z hz => by rw [← hH, List.getElem?_set_ne (fun e => hz e.symm)]
  have hRf : SepI H' L1 R := h2.frame fun z hz => hfr z (fun e => hn1.1 (e ▸ List.mem_append_right _ hz))
  obtain ⟨JM, R', g1, g2, g3⟩ := hr.sound hRf 5 hok
  have q1' := Eb (f' := B6 At E0.tp H' 5) (fun t x a h hi => Dd 5 t x a h fun z hz => hfr z (fun e => hn1.1 (e ▸ List.mem_append_left _ (List.mem_append_left _ (hi z hz))))) q1
  have q4' := Eb (f' := B6 At E0.tp H' 5) (fun t x a h hi => Dd 5 t x a h fun z hz => hfr z (fun e => hn1.1 (e ▸ List.mem_append_left _ (List.mem_append_right _ (List.mem_append_right _ (hi z hz)))))) q4
  have h7 := Gi q1' (Gi g1 q4')
  have hnd : (id :: (IA ++ (JM ++ ID)) ++ R').Nodup := by
   have h4' := (List.Perm.append_left (id :: (IA ++ (IB ++ ID))) g3).nodup h3
   have hpm : (id :: (IA ++ (IB ++ ID)) ++ (JM ++ R')).Perm (IB ++ (id :: (IA ++ (JM ++ ID)) ++ R')) := by
    rw [List.perm_iff_count]
    intro a
    simp only [List.count_append, List.cons_append, List.count_cons]
    omega
   exact (List.nodup_append.1 (hpm.nodup h4')).2.1
  refine ⟨(id :: (IA ++ (JM ++ ID))) ++ R', ⟨id :: (IA ++ (JM ++ ID)), R', rfl, ⟨rfl, ?_, ?_⟩, g2⟩, hnd⟩
  ·obtain ⟨i', j', u1, u2, u3, u4⟩ := hok1
   rw [e1] at u1
   cases u1
   rw [e2] at u2
   cases u2
   refine ⟨ti, tj, e1, e2, ?_, ?_⟩
   ·show ((l.set i.toNat y').map enc).flatten.length = (l.set i.toNat y').length * tj.size
    rw [Fg hw]
   ·rw [List.length_set, hT]
    rw [hT, hC] at u4
    obtain ⟨v1, v2⟩ := Gq u4
    obtain ⟨_, v3⟩ := Gq v2
    rw [hT1l, ← hAl, List.take_left' rfl] at v1
    rw [hT1l, hT2l, ← hAl, List.drop_left' rfl, List.drop_left' hBl] at v3
    show Eh _ _ (((l.set i.toNat y').map enc).flatten)
    rw [hC2]
    exact Gj v1 (Gj hok v3)
  ·have hg : H'[id]? = some { b with cells := Cg b.cells (off + (i.toNat * tj.size + k)) ds } := by rw [← hH]; exact List.getElem?_set_self hid
   rw [show Al enc (l.set i.toNat y') = .ro (l.set i.toNat y').length (((l.set i.toNat y').map enc).flatten) from rfl, List.length_set, Fz, hC2]
   have hap : Fx H' id = true := by simp only [Fx, hg]; exact ha
   have hrd : Ba H' id off (l.length * tj.size) = some (raw.take (i.toNat * tj.size + k) ++ (ds ++ (raw.drop (i.toNat * tj.size + k)).drop v)) := by
    unfold Ba
    rw [hg]
    simp only [hlv, if_true]
    have hsl : (Cg b.cells (off + (i.toNat * tj.size + k)) ds).length = b.cells.length := by
     unfold Cg
     simp only [List.length_append, List.length_take, List.length_drop]
     omega
    rw [if_pos (by rw [hsl]; exact hle), AbF (by omega) hle, hcs, hdl]
   simp only [e1, e2, Option.bind_some, if_true, hap, hrd, hT, h7]
end
end
section
open Go
theorem Fb {α : Type} (w : α → Nat) : ∀ (a b : List α), F2 w (a ++ b) = F2 w a + F2 w b
 | [], b => by
  show _ = 0 + _
  rw [Nat.zero_add]
  rfl
 | x :: a, b => by
  show 1 + w x + F2 w (a ++ b) = 1 + w x + F2 w a + F2 w b
  rw [Fb w a b]
  omega
theorem Jh {α : Type} (w : α → Nat) : ∀ (l : List α) (i : Nat) (y y' : α), l[i]? = some y → F2 w (l.set i y') + w y = F2 w l + w y'
 | [], i, y, y', h => by simp at h
 | x :: l, 0, y, y', h => by
  have : x = y := by simpa using h
  subst this
  show 1 + w y' + F2 w l + w x = 1 + w x + F2 w l + w y'
  omega
 | x :: l, i + 1, y, y', h => by
  have := Jh w l i y y' (by simpa using h)
  show 1 + w x + F2 w (l.set i y') + w y = 1 + w x + F2 w l + w y'
  omega
theorem Kg {α : Type} {p : α → Prop} {l : List α} {i : Nat} {y' : α} (h : ∀ z ∈ l, p z) (hy : p y') : ∀ z ∈ l.set i y', p z := fun z hz => by
 rcases List.mem_or_eq_of_mem_set hz with h1 | rfl
 ·exact h z h1
 ·exact hy
theorem Mz {α : Type} {p : α → Prop} {l : List α} {i : Nat} {y : α} (h : ∀ z ∈ l, p z) (hy : l[i]? = some y) : p y := h y (List.mem_of_getElem? hy)
def OutB (b : Nat) (o : B5) : Prop := (C3 o.fLast ∧ (∀ z ∈ o.fFl, B9 z) ∧ ∀ z ∈ o.fQ, Dg z) ∧ F2 A0 o.fFl + F2 B4 o.fQ ≤ b
theorem OutB.ok {b : Nat} {o : B5} (h : OutB b o) (hb : b ≤ 1048576) : Rj o := by
 have h1 := Kr A0 o.fFl
 have h2 := Kr B4 o.fQ
 have h3 := h.2
 exact ⟨h.1.1, ⟨by omega, h.1.2.1⟩, ⟨by omega, h.1.2.2⟩⟩
theorem OutB.wt {b : Nat} {o : B5} (h : OutB b o) : Fi o ≤ b := by
 have h3 := h.2
 unfold Fi
 omega
theorem OutB.of {b : Nat} {o : B5} (h : Rj o) (hw : Fi o ≤ b) : OutB b o := by
 unfold Fi at hw
 exact ⟨⟨h.1, h.2.1.2, h.2.2.2⟩, by omega⟩
theorem W2 : ∀ (k : Nat) (u : List Int) (x : Int), C3 x → C3 (Ks u k x).1
 | 0, u, x, h => by
  unfold Ks
  first | exact h | (constructor <;> decide) | (constructor <;> simp)
 | k + 1, u, x, h => by
  rw [Ks]
  have h2 : C3 (nx x) := by
   unfold nx C3
   omega
  split
  ·exact W2 k u (nx x) h2
  ·exact h2
theorem J5 {b : Nat} {o : B5} (h : OutB b o) : OutB b (Ah o) := by
 obtain ⟨⟨h1, h2, h3⟩, h4⟩ := h
 have ht : ∀ (q : List Da), F2 B4 q.tail ≤ F2 B4 q := by
  intro q
  cases q with
  | nil => exact Nat.le_refl _
  | cons m l => show F2 B4 l ≤ 1 + B4 m + F2 B4 l; omega
 have hq := ht o.fQ
 have h3' : ∀ z ∈ o.fQ.tail, Dg z := fun z hz => h3 z (List.mem_of_mem_tail hz)
 unfold Ah
 split
 ·rename_i hr
  split
  ·exact ⟨⟨h1, h2, h3'⟩, by show F2 A0 o.fFl + F2 B4 o.fQ.tail ≤ b; omega⟩
  ·cases hc : o.fQ with
   | nil => simp [Io, hc] at hr
   | cons m l =>
    rw [hc] at h3 h4
    have hm := h3 m (List.mem_cons_self ..)
    have hi : C3 (Fv o) := by
     unfold Fv Cu
     split
     ·exact W2 _ _ _ h1
     ·constructor <;> decide
    have hf : B9 (⟨Fv o, m, m.fQos⟩ : Ao) := ⟨hi, hm, hm.2.2.1⟩
    refine ⟨⟨hi, ?_, fun z hz => h3 z (List.mem_cons_of_mem _ hz)⟩, ?_⟩
    ·exact Bq h2 hf
    ·show F2 A0 (o.fFl ++ [(⟨Fv o, m, m.fQos⟩ : Ao)]) + F2 B4 l ≤ b
     rw [Hi]
     have e : A0 (⟨Fv o, m, m.fQos⟩ : Ao) = B4 m + 0 := rfl
     have e2 : F2 B4 (m :: l) = 1 + B4 m + F2 B4 l := rfl
     omega
 ·exact ⟨⟨h1, h2, h3⟩, h4⟩
theorem Aaf {b : Nat} {kd d : Int} {o : B5} (h : OutB b o) : ∀ (t pre : List Ao), o.fFl = pre ++ t → OutB b (Dq kd d o pre t).1
 | [], pre, he => h
 | f :: t, pre, he => by
  have ih := Aaf (kd := kd) (d := d) h t (pre ++ [f]) (by rw [he]; simp)
  obtain ⟨⟨h1, h2, h3⟩, h4⟩ := h
  rw [he] at h2 h4
  have e1 : F2 A0 (pre ++ f :: t) = F2 A0 pre + (1 + A0 f + F2 A0 t) := Fb _ _ _
  rw [Dq]
  split
  ·split
   ·refine ⟨⟨h1, fun z hz => h2 z ?_, h3⟩, ?_⟩
    ·rcases List.mem_append.1 hz with hz | hz
     ·exact List.mem_append_left _ hz
     ·exact List.mem_append_right _ (List.mem_cons_of_mem _ hz)
    ·show F2 A0 (pre ++ t) + F2 B4 o.fQ ≤ b
     rw [Fb]
     omega
   ·split
    ·have hf := h2 f (by simp)
     refine ⟨⟨h1, fun z hz => ?_, h3⟩, ?_⟩
     ·rcases List.mem_append.1 hz with hz | hz
      ·exact h2 z (List.mem_append_left _ hz)
      ·rcases List.mem_cons.1 hz with rfl | hz
       ·exact ⟨hf.1, hf.2.1, (by decide : (-9223372036854775808 : Int) ≤ 3 ∧ (3 : Int) ≤ 9223372036854775807)⟩
       ·exact h2 z (List.mem_append_right _ (List.mem_cons_of_mem _ hz))
     ·show F2 A0 (pre ++ { f with fSt := 3 } :: t) + F2 B4 o.fQ ≤ b
      have e2 : F2 A0 (pre ++ { f with fSt := 3 } :: t) = F2 A0 pre + (1 + A0 f + F2 A0 t) := Fb _ _ _
      omega
    ·exact ih
  ·exact ih
theorem Aam {b : Nat} {kd d : Int} {o : B5} (h : OutB b o) : OutB b (Gh o kd d).1 := by
 unfold Gh
 split
 ·exact Aaf h _ [] rfl
 ·exact h
theorem Yw {b : Nat} {o : B5} {m : Da} (h : OutB b o) (hm : Dg m) : OutB (b + 1 + B4 m) (Ea o m) := by
 obtain ⟨⟨h1, h2, h3⟩, h4⟩ := h
 unfold Ea
 split
 ·unfold Mu
  split
  ·refine ⟨⟨h1, h2, Bq h3 hm⟩, ?_⟩
   show F2 A0 o.fFl + F2 B4 (o.fQ ++ [m]) ≤ _
   rw [Hi]
   omega
  ·exact ⟨⟨h1, h2, h3⟩, by show F2 A0 o.fFl + F2 B4 o.fQ ≤ _; omega⟩
 ·exact ⟨⟨h1, h2, h3⟩, by omega⟩
theorem Mv {b : Nat} {o : B5} (h : OutB b o) : o.fFl.length ≤ b ∧ o.fQ.length ≤ b := by
 have h1 := Kr A0 o.fFl
 have h2 := Kr B4 o.fQ
 have h3 := h.2
 omega
theorem Aa4 {b : Nat} {o : B5} (h : OutB b o) : o.fFl.length ≤ b := (Mv h).1
theorem E1 {b : Nat} {l : Int} {f : List Ao} {q : List Da} (h1 : C3 l) (h2 : ∀ z ∈ f, B9 z) (h3 : ∀ z ∈ q, Dg z) (h4 : F2 A0 f + F2 B4 q ≤ b) : OutB b ⟨l, f, q⟩ := ⟨⟨h1, h2, h3⟩, h4⟩
theorem OutB.mono {a b : Nat} {o : B5} (h : OutB a o) (hab : a ≤ b) : OutB b o := ⟨h.1, Nat.le_trans h.2 hab⟩
theorem Sx (n : Nat) (hn : 1048576 < n) (code : ByteArray) (hcode : code.size ≤ 1048576) (c i : Nat) (h : Int)   {β : Type} {r : Option β} {KH : KO β} {H : Ac} {L : List Ck} (s0 : Sep H (Cr c code i h :: L)) (hk : ∀ (r0 : B5) (r0x1 : AV) (r0x2 : AV) (i' : Nat) (h' : Int) (H' : Ac), (Aq r0x1 = true) → (Aq r0x2 = true) → (OutB 110 r0) → Sep H' (.own r0x1 113 (Al Az r0.fFl) :: .own r0x2 79 (Al Au r0.fQ) :: Cr c code i' h' :: L) → Gd (· = r) (KH (.agg [.sc (.int .i64 r0.fLast), r0x1, r0x2]) H')) : Gd (· = r) (Dc E0 (n + 16) β 106 [.ptr c 0] H fun x H => KH x H) := by
 rw [Af0, f106]
 try simp only [Cj, Bm, Bi, A6, Be]
 refine C8 s0 fun i1 H s2 => ?_
 refine Bk (cs := [.sc (.int .i64 0), .sc (.int .i64 0), .sc (.int .i64 3), .sc (.int .i64 65534), .sc (.int .i64 65535)]) rfl ?_
 refine Bl s2 fun i3 H s4 => ?_
 refine Dl hcode (by omega) (by omega) rfl s4 Ci (.here) fun z5a iq6 hq6 H mz5 sq6 => ?_
 have s7 := (sq6.pick A8).tail
 obtain ⟨z5, rfl, hz5⟩ := A5 (l := [0, 0, 3, 65534, 65535]) (lo := 0) (hi := 65535) mz5 (by decide)
 refine Bk (cs := [.sc (.int .i64 z5), .nl, .nl]) rfl ?_
 refine C8 s7 fun i8 H s9 => ?_
 refine A3 (cs' := [.sc (.int .i64 z5), .nl, .nl]) s9 (.here) (Ad (Aa rfl (Aa rfl (Aa rfl rfl)))) rfl (A7 rfl) rfl fun H s10 => ?_
 refine Gc rfl rfl ?_
 refine Un _ (by omega) code hcode c iq6 hq6 6 (by omega) (s10.pick A8) fun r11 r11x iq12 hq12 H lr11x hr11 sq12 => ?_
 obtain ⟨or11, wr11⟩ := hr11
 have gr11 := Kr B4 r11
 refine Af (o' := 2) rfl ?_
 refine A3 (cs' := [.sc (.int .i64 z5), .nl, r11x]) sq12 Ci (Ak lr11x) rfl (A7 rfl) rfl fun H s13 => ?_
 refine D7 (m := 6) hcode (by omega) s13 Ci fun z14 iq15 hq15 H hz14 sq15 => ?_
 replace hz14 : 0 ≤ z14 ∧ z14 < 6 := by omega
 have lp16 : ∀ (j m : Nat) (z : Int) (m2 : B5) (m2x1 : AV) (m2x2 : AV) (i : Nat) (h : Int) (H : Ac), j < m → z = ((j : Nat) : Int) → Aq m2x1 = true → Aq m2x2 = true → (OutB 80 m2 ∧ j ≤ 5) → Sep H (.own m2x1 113 (Al Az m2.fFl) :: .own m2x2 79 (Al Au m2.fQ) :: Cr c code i h :: .blk i8 [.sc (.int .i64 m2.fLast), m2x1, m2x2] true :: .blk i1 [.sc (.int .i64 0), .nl, .nl] true :: L) → Gd (· = r) (Ar (PR ((n + 15)) β) ((n + 15)) (fun x H => KH x H) m (.ptr c 0) (.ptr i1 0) (.ptr i8 0) (.sc (.int .i64 z)) H) := by
  clear s0 s2 s4 sq6 s7 s9 s10 sq12 s13 sq15
  intro j
  induction j with
  | zero =>
   intro m0 z m2 m2x1 m2x2 i h H hm hz lm2x1 lm2x2 hinv s0
   obtain ⟨m, rfl⟩ : ∃ m, m0 = m + 1 := ⟨m0 - 1, by omega⟩
   have hnl : (Ah m2).fFl.length ≤ 80 := Aa4 (J5 hinv.1)
   rw [Ar]
   try simp only [Cj, Bm, Bi, A4, A6, A9, Aw, Bx, Ch, Ca, Cc, Be, Fc]
   refine Js ?_
   refine B3 (decide_eq_false (by omega)) ?_
   refine D7 (m := 4) hcode (by omega) s0 Ci fun z17 iq18 hq18 H hz17 sq18 => ?_
   replace hz17 : 0 ≤ z17 ∧ z17 < 4 := by omega
   have lp19 : ∀ (j m : Nat) (z : Int) (m2 : B5) (m2x1 : AV) (m2x2 : AV) (i : Nat) (h : Int) (H : Ac), j < m → z = ((j : Nat) : Int) → Aq m2x1 = true → Aq m2x2 = true → (OutB (110 - 10 * j) m2 ∧ j ≤ 3) → Sep H (.own m2x1 113 (Al Az m2.fFl) :: .own m2x2 79 (Al Au m2.fQ) :: Cr c code i h :: .blk i8 [.sc (.int .i64 m2.fLast), m2x1, m2x2] true :: .blk i1 [.sc (.int .i64 0), .nl, .nl] true :: L) → Gd (· = r) (J9 (PR ((n + 15)) β) ((n + 15)) (fun x H => KH x H) m (.ptr c 0) (.ptr i1 0) (.ptr i8 0) (.sc (.int .i64 z)) H) := by
    clear s0 sq18
    intro j
    induction j with
    | zero =>
     intro m0 z m2 m2x1 m2x2 i h H hm hz lm2x1 lm2x2 hinv s0
     obtain ⟨m, rfl⟩ : ∃ m, m0 = m + 1 := ⟨m0 - 1, by omega⟩
     rw [J9]
     try simp only [A4, A6, A9, Aw, Fc]
     refine Js ?_
     refine B3 (decide_eq_false (by omega)) ?_
     refine Aj s0 Cz rfl ?_
     refine A3 (cs' := [.sc (.int .i64 m2.fLast), m2x1, m2x2]) s0 Fa (Ad (Aa rfl (Aa lm2x1 (Aa lm2x2 rfl)))) rfl (A7 rfl) rfl fun H s20 => ?_
     refine Aj s20 (.here) rfl ?_
     have e21 : OutB 110 (m2 : B5) := by
      exact hinv.1.mono (by omega)
     exact hk (m2 : B5) m2x1 m2x2 i h _ lm2x1 lm2x2 e21 (s20.sel (.cons A8 (.cons A8 (.cons A8 N8))))
    | succ j ih =>
     intro m0 z m2 m2x1 m2x2 i h H hm hz lm2x1 lm2x2 hinv s0
     obtain ⟨m, rfl⟩ : ∃ m, m0 = m + 1 := ⟨m0 - 1, by omega⟩
     rw [J9]
     try simp only [A4, A6, A9, Aw, Fc]
     refine Js ?_
     refine C1 (decide_eq_true (by omega)) ?_
     refine Gd.bothE ?_ ?_
     ·refine Aj s0 Cz rfl ?_
      refine Gc rfl rfl ?_
      refine Pg _ (by omega) code hcode c i h   (s0.pick Ci) fun r22 r22x1 iq23 hq23 H lr22x1 hr22 sq23 => ?_
      obtain ⟨or22, wr22⟩ := hr22
      have ur22 := or22
      have vr22 := wr22
      simp only [Dg, B4, Jo, C3, and_true, true_and] at ur22 vr22
      have c24 := Nr (n + 4) (by omega) m2 r22 (hinv.1.ok (by omega)) (by assumption) (Nat.le_trans hinv.1.wt (by omega)) (by omega)
      refine Es sq23 rfl (.agg (.cons .sc (.cons (.own (by decide) Ci) (.cons (.own (by decide) Cz) .nil))) (.agg (.cons .sc (.cons (.own (by decide) (.here)) (.cons .sc (.cons .sc .nil)))) .nil)) (c24) rfl (Ek ⟨_, rfl, rfl⟩ (P5 _) (Bz Cp)) ?_
      rintro _ _ H ⟨_, _, _, _, rfl, rfl, ⟨x25, x26, lx25, lx26, rfl, rfl⟩, ⟨_, rfl, ⟨rfl, rfl⟩⟩⟩ s27
      simp only [List.nil_append, List.cons_append] at s27
      refine Cn (v := .agg [.sc (.int .i64 ((Ea m2 r22).fLast)), x25, x26]) rfl ?_
      refine Cn (v := .sc (.int .i64 (Qa m2 r22))) rfl ?_
      refine A3 (cs' := [.sc (.int .i64 ((Ea m2 r22).fLast)), x25, x26]) s27 Q0 (Ad (Aa rfl (Aa lx25 (Aa lx26 rfl)))) rfl (A7 rfl) rfl fun H s28 => ?_
      refine K7 (by omega) (by omega) ?_
      have e29 : OutB (110 - 10 * j) (⟨(Ea m2 r22).fLast, ((Ea m2 r22).fFl), ((Ea m2 r22).fQ)⟩ : B5) ∧ j ≤ 3 := by
       refine ⟨?_, by omega⟩; first | exact OutB.mono hinv.1 (by omega) | exact OutB.mono (Yw hinv.1 (by assumption)) (by omega)
      exact ih m _ (⟨(Ea m2 r22).fLast, ((Ea m2 r22).fFl), ((Ea m2 r22).fQ)⟩ : B5) x25 x26 iq23 hq23 _ (by omega) (by omega) lx25 lx26 e29 (s28.sel (.cons Ci (.cons A8 (.cons Ci (.cons (.here) (.cons Cz zS3))))))
     ·refine Gc rfl rfl ?_
      refine Pg _ (by omega) code hcode c i h   (s0.pick Ci) fun r30 r30x1 iq31 hq31 H lr30x1 hr30 sq31 => ?_
      obtain ⟨or30, wr30⟩ := hr30
      have ur30 := or30
      have vr30 := wr30
      simp only [Dg, B4, Jo, C3, and_true, true_and] at ur30 vr30
      refine Aj sq31 Fa rfl ?_
      have c32 := Nr (n + 4) (by omega) m2 r30 (hinv.1.ok (by omega)) (by assumption) (Nat.le_trans hinv.1.wt (by omega)) (by omega)
      refine Es sq31 rfl (.agg (.cons .sc (.cons (.own (by decide) Ci) (.cons (.own (by decide) Cz) .nil))) (.agg (.cons .sc (.cons (.own (by decide) (.here)) (.cons .sc (.cons .sc .nil)))) .nil)) (c32) rfl (Ek ⟨_, rfl, rfl⟩ (P5 _) (Bz Cp)) ?_
      rintro _ _ H ⟨_, _, _, _, rfl, rfl, ⟨x33, x34, lx33, lx34, rfl, rfl⟩, ⟨_, rfl, ⟨rfl, rfl⟩⟩⟩ s35
      simp only [List.nil_append, List.cons_append] at s35
      refine Cn (v := .agg [.sc (.int .i64 ((Ea m2 r30).fLast)), x33, x34]) rfl ?_
      refine Cn (v := .sc (.int .i64 (Qa m2 r30))) rfl ?_
      refine A3 (cs' := [.sc (.int .i64 ((Ea m2 r30).fLast)), x33, x34]) s35 Q0 (Ad (Aa rfl (Aa lx33 (Aa lx34 rfl)))) rfl (A7 rfl) rfl fun H s36 => ?_
      refine K7 (by omega) (by omega) ?_
      have e37 : OutB (110 - 10 * j) (⟨(Ea m2 r30).fLast, ((Ea m2 r30).fFl), ((Ea m2 r30).fQ)⟩ : B5) ∧ j ≤ 3 := by
       refine ⟨?_, by omega⟩; first | exact OutB.mono hinv.1 (by omega) | exact OutB.mono (Yw hinv.1 (by assumption)) (by omega)
      exact ih m _ (⟨(Ea m2 r30).fLast, ((Ea m2 r30).fFl), ((Ea m2 r30).fQ)⟩ : B5) x33 x34 iq31 hq31 _ (by omega) (by omega) lx33 lx34 e37 (s36.sel (.cons Ci (.cons A8 (.cons Ci (.cons (.here) (.cons Cz zS3))))))
   have e38 : OutB (110 - 10 * (z17).toNat) (m2 : B5) ∧ (z17).toNat ≤ 3 := by
    refine ⟨?_, by omega⟩; first | exact OutB.mono hinv.1 (by omega) | exact OutB.mono (Yw hinv.1 (by assumption)) (by omega)
   exact lp19 (z17).toNat _ _ (m2 : B5) m2x1 m2x2 iq18 hq18 _ (by omega) (by omega) lm2x1 lm2x2 e38 (sq18.sel (.cons A8 (.cons A8 (.cons (.here) (.cons (.here) (.cons (.here) .rest))))))
  | succ j ih =>
   intro m0 z m2 m2x1 m2x2 i h H hm hz lm2x1 lm2x2 hinv s0
   obtain ⟨m, rfl⟩ : ∃ m, m0 = m + 1 := ⟨m0 - 1, by omega⟩
   have hnl : (Ah m2).fFl.length ≤ 80 := Aa4 (J5 hinv.1)
   rw [Ar]
   try simp only [Cj, Bm, Bi, A4, A6, A9, Aw, Bx, Ch, Ca, Cc, Be, Fc]
   have tl68 : ∀ (u69 : AV) (u70 : AV) (z71 : Int) (z72 : Int) (i : Nat) (h : Int) (H : Ac), Aq u69 = true → Aq u70 = true → Sep H (.own u69 113 (Al Az ((Ah m2).fFl)) :: .own u70 79 (Al Au ((Ah m2).fQ)) :: Cr c code i h :: .blk i8 [.sc (.int .i64 ((Ah m2).fLast)), u69, u70] true :: .blk i1 [.sc (.int .i64 0), .nl, .nl] true :: L) → Gd (· = r) ((PR ((n + 15)) β).call 191 (.fn 143 [] []) [(.agg [.sc (.int .i64 ((Ah m2).fLast)), u69, u70]), (.sc (.int .i64 z71)), (.sc (.int .i64 z72))] H fun t50 H => (PR ((n + 15)) β).extr t50 0 fun t51 => (PR ((n + 15)) β).extr t50 1 fun t52 => (PR ((n + 15)) β).extr t50 2 fun t53 => (PR ((n + 15)) β).store 3 (.ptr i8 0) t51 H fun H => (PR ((n + 15)) β).bin .sub (.sc (.int .i64 z)) (.sc (.int .i64 1)) fun t19 => Ar (PR ((n + 15)) β) ((n + 15)) (fun x H => KH x H) m (.ptr c 0) (.ptr i1 0) (.ptr i8 0) t19 H) := by
    intro u69 u70 z71 z72 i h H lu69 lu70 s0
    try simp only [De, Cj, Bm, Bi, A4, A6, A9, Ep, Er, Ew, Aw, Bx, Ch, Ca, Dx, Cc, Fn, D1, Dj, Be, Fm, Cy, O2, Eg, Or, E8, Nn, Fc, N6, M1, Rw, Mr, Pc]
    have c73 := Vo (n + 2) (by omega) (⟨(Ah m2).fLast, ((Ah m2).fFl), ((Ah m2).fQ)⟩) z71 z72 (Nat.le_trans (J5 hinv.1).wt (by omega))
    refine Es s0 rfl (.agg (.cons .sc (.cons (.own (by decide) (.here)) (.cons (.own (by decide) A8) .nil))) (.cons .sc (.cons .sc .nil))) (c73) rfl (Ek ⟨_, rfl, rfl⟩ (P5 _) (Ek ⟨_, rfl, rfl⟩ (Hr _) (Bz Cp))) ?_
    rintro _ _ H ⟨_, _, _, _, rfl, rfl, ⟨x80, x81, lx80, lx81, rfl, rfl⟩, ⟨_, _, _, _, rfl, rfl, ⟨x74, x75, x76, x77, x78, x79, lx74, lx75, lx76, lx77, lx78, lx79, rfl, rfl⟩, ⟨_, rfl, ⟨rfl, rfl⟩⟩⟩⟩ s82
    simp only [List.nil_append, List.cons_append] at s82
    refine Cn (v := .agg [.sc (.int .i64 ((Gh (⟨(Ah m2).fLast, ((Ah m2).fFl), ((Ah m2).fQ)⟩) z71 z72).1.fLast)), x80, x81]) rfl ?_
    refine Cn (v := .agg [.sc (.int .i64 ((Gh (⟨(Ah m2).fLast, ((Ah m2).fFl), ((Ah m2).fQ)⟩) z71 z72).2.1.fType)), .sc (.bool (Gh (⟨(Ah m2).fLast, ((Ah m2).fFl), ((Ah m2).fQ)⟩) z71 z72).2.1.fDup), .sc (.int .i64 ((Gh (⟨(Ah m2).fLast, ((Ah m2).fFl), ((Ah m2).fQ)⟩) z71 z72).2.1.fQos)), .sc (.bool (Gh (⟨(Ah m2).fLast, ((Ah m2).fFl), ((Ah m2).fQ)⟩) z71 z72).2.1.fRetain), .sc (.int .i64 ((Gh (⟨(Ah m2).fLast, ((Ah m2).fFl), ((Ah m2).fQ)⟩) z71 z72).2.1.fId)), .sc (.string ((Gh (⟨(Ah m2).fLast, ((Ah m2).fFl), ((Ah m2).fQ)⟩) z71 z72).2.1.fTopic)), x74, .sc (.string ((Gh (⟨(Ah m2).fLast, ((Ah m2).fFl), ((Ah m2).fQ)⟩) z71 z72).2.1.fClient)), .sc (.int .i64 ((Gh (⟨(Ah m2).fLast, ((Ah m2).fFl), ((Ah m2).fQ)⟩) z71 z72).2.1.fLevel)), .sc (.bool (Gh (⟨(Ah m2).fLast, ((Ah m2).fFl), ((Ah m2).fQ)⟩) z71 z72).2.1.fClean), .sc (.int .i64 ((Gh (⟨(Ah m2).fLast, ((Ah m2).fFl), ((Ah m2).fQ)⟩) z71 z72).2.1.fKeep)), .sc (.bool (Gh (⟨(Ah m2).fLast, ((Ah m2).fFl), ((Ah m2).fQ)⟩) z71 z72).2.1.fHasWill), .sc (.string ((Gh (⟨(Ah m2).fLast, ((Ah m2).fFl), ((Ah m2).fQ)⟩) z71 z72).2.1.fWTopic)), x75, .sc (.int .i64 ((Gh (⟨(Ah m2).fLast, ((Ah m2).fFl), ((Ah m2).fQ)⟩) z71 z72).2.1.fWQos)), .sc (.bool (Gh (⟨(Ah m2).fLast, ((Ah m2).fFl), ((Ah m2).fQ)⟩) z71 z72).2.1.fWRetain), .sc (.bool (Gh (⟨(Ah m2).fLast, ((Ah m2).fFl), ((Ah m2).fQ)⟩) z71 z72).2.1.fHasUser), .sc (.string ((Gh (⟨(Ah m2).fLast, ((Ah m2).fFl), ((Ah m2).fQ)⟩) z71 z72).2.1.fUser)), .sc (.bool (Gh (⟨(Ah m2).fLast, ((Ah m2).fFl), ((Ah m2).fQ)⟩) z71 z72).2.1.fHasPass), x76, .sc (.int .i64 ((Gh (⟨(Ah m2).fLast, ((Ah m2).fFl), ((Ah m2).fQ)⟩) z71 z72).2.1.fCode)), .sc (.bool (Gh (⟨(Ah m2).fLast, ((Ah m2).fFl), ((Ah m2).fQ)⟩) z71 z72).2.1.fPresent), x77, x78, x79]) rfl ?_
    refine Cn (v := .sc (.bool (Gh (⟨(Ah m2).fLast, ((Ah m2).fFl), ((Ah m2).fQ)⟩) z71 z72).2.2)) rfl ?_
    refine A3 (cs' := [.sc (.int .i64 ((Gh (⟨(Ah m2).fLast, ((Ah m2).fFl), ((Ah m2).fQ)⟩) z71 z72).1.fLast)), x80, x81]) s82 Mx (Ad (Aa rfl (Aa lx80 (Aa lx81 rfl)))) rfl (A7 rfl) rfl fun H s83 => ?_
    refine K7 (by omega) (by omega) ?_
    have e84 : OutB 80 (⟨(Gh (⟨(Ah m2).fLast, ((Ah m2).fFl), ((Ah m2).fQ)⟩) z71 z72).1.fLast, ((Gh (⟨(Ah m2).fLast, ((Ah m2).fFl), ((Ah m2).fQ)⟩) z71 z72).1.fFl), ((Gh (⟨(Ah m2).fLast, ((Ah m2).fFl), ((Ah m2).fQ)⟩) z71 z72).1.fQ)⟩ : B5) ∧ j ≤ 5 := by
     refine ⟨?_, by omega⟩; first | exact hinv.1 | exact J5 hinv.1 | exact Aam (J5 hinv.1) | (apply E1 <;> first | assumption | omega | (unfold C3; omega) | (intro z hz; cases hz; done) | (show 0 + _ ≤ _; omega))
    exact ih m _ (⟨(Gh (⟨(Ah m2).fLast, ((Ah m2).fFl), ((Ah m2).fQ)⟩) z71 z72).1.fLast, ((Gh (⟨(Ah m2).fLast, ((Ah m2).fFl), ((Ah m2).fQ)⟩) z71 z72).1.fFl), ((Gh (⟨(Ah m2).fLast, ((Ah m2).fFl), ((Ah m2).fQ)⟩) z71 z72).1.fQ)⟩ : B5) x80 x81 i h _ (by omega) (by omega) lx80 lx81 e84 (s83.sel (.cons Vi (.cons zP7 (.cons D6 (.cons (.here) (.cons Vi zS8))))))
   refine Js ?_
   refine C1 (decide_eq_true (by omega)) ?_
   refine Aj s0 Cz rfl ?_
   have c39 := Tj (n + 2) (by omega) m2 (hinv.1.ok (by omega)) (Nat.le_trans hinv.1.wt (by omega))
   refine Es s0 rfl (.agg (.cons .sc (.cons (.own (by decide) (.here)) (.cons (.own (by decide) A8) .nil))) .nil) (c39) rfl (Ek ⟨_, rfl, rfl⟩ (P5 _) (Ek ⟨_, rfl, rfl⟩ (Hr _) (Bz Cp))) ?_
   rintro _ _ H ⟨_, _, _, _, rfl, rfl, ⟨x46, x47, lx46, lx47, rfl, rfl⟩, ⟨_, _, _, _, rfl, rfl, ⟨x40, x41, x42, x43, x44, x45, lx40, lx41, lx42, lx43, lx44, lx45, rfl, rfl⟩, ⟨_, rfl, ⟨rfl, rfl⟩⟩⟩⟩ s48
   simp only [List.nil_append, List.cons_append] at s48
   refine Cn (v := .agg [.sc (.int .i64 ((Ah m2).fLast)), x46, x47]) rfl ?_
   refine Cn (v := .agg [.sc (.int .i64 ((Cf m2).fType)), .sc (.bool (Cf m2).fDup), .sc (.int .i64 ((Cf m2).fQos)), .sc (.bool (Cf m2).fRetain), .sc (.int .i64 ((Cf m2).fId)), .sc (.string ((Cf m2).fTopic)), x40, .sc (.string ((Cf m2).fClient)), .sc (.int .i64 ((Cf m2).fLevel)), .sc (.bool (Cf m2).fClean), .sc (.int .i64 ((Cf m2).fKeep)), .sc (.bool (Cf m2).fHasWill), .sc (.string ((Cf m2).fWTopic)), x41, .sc (.int .i64 ((Cf m2).fWQos)), .sc (.bool (Cf m2).fWRetain), .sc (.bool (Cf m2).fHasUser), .sc (.string ((Cf m2).fUser)), .sc (.bool (Cf m2).fHasPass), x42, .sc (.int .i64 ((Cf m2).fCode)), .sc (.bool (Cf m2).fPresent), x43, x44, x45]) rfl ?_
   refine Cn (v := .sc (.bool (Io m2))) rfl ?_
   refine A3 (cs' := [.sc (.int .i64 ((Ah m2).fLast)), x46, x47]) s48 Mx (Ad (Aa rfl (Aa lx46 (Aa lx47 rfl)))) rfl (A7 rfl) rfl fun H s49 => ?_
   refine Af (o' := 1) rfl ?_
   refine Ay (c := x46) s49 (.here) rfl ?_
   refine Ic s49 Vi ?_
   refine Js ?_
   refine Ai ((decide (0 < ((((Ah m2).fFl).length : Nat) : Int)))) (fun h50 => ?_) (fun h50 => ?_)
   ·refine Ag h50 ?_
    refine Ag h50 ?_
    refine Qj hcode (by omega) s49 Mx fun b51 iq52 hq52 H sq52 => ?_
    refine D9 h50 ?_
    refine Ai (b51) (fun h53 => ?_) (fun h53 => ?_)
    ·refine C1 h53 ?_
     refine Af (o' := 1) rfl ?_
     refine Af (o' := 1) rfl ?_
     refine Ay (c := x46) sq52 A8 rfl ?_
     refine Ic sq52 D6 ?_
     refine Gd.bothE ?_ ?_
     ·refine Ay (c := x46) sq52 A8 rfl ?_
      refine Gd.bothE ?_ ?_
      ·refine D7 (m := ((((Ah m2).fFl).length : Nat) : Int)) hcode (by omega) sq52 (.here) fun z54 iq55 hq55 H hz54 sq55 => ?_
       have s56 := sq55.toShs D6
       obtain ⟨y57, he58⟩ : ∃ y, ((Ah m2).fFl)[(z54).toNat]? = some y := ⟨_, List.getElem?_eq_getElem (by first | omega | (simp at *; omega))⟩
       refine W1 (y := y57) s56 ⟨_, _, rfl, rfl, rfl, rfl⟩ (.here) (by omega) he58 Br Gv rfl fun de58 oe58 raw hl hlf re58 hsc se58 => ?_
       obtain ⟨e58r2, le58r2, rfl⟩ := K3 hl hlf hsc
       clear hl hlf hsc
       refine Rp re58 ?_
       refine C8 se58 fun i59 H s60 => ?_
       refine A3 (cs' := [.sc (.int .i64 y57.fId), .sc (.string y57.fM.fTopic), e58r2, .sc (.int .i64 y57.fM.fQos), .sc (.bool y57.fM.fRetain), .sc (.int .i64 y57.fSt)]) s60 (.here) (Ad (Aa rfl (Aa rfl (Aa le58r2 (Aa rfl (Aa rfl (Aa rfl rfl))))))) rfl (A7 rfl) rfl fun H s61 => ?_
       refine Af (o' := 0) rfl ?_
       refine Gd.bothE ?_ ?_
       ·refine Aj s61 Cz rfl ?_
        refine Gd.bothE ?_ ?_
        ·refine Bk (cs := [.sc (.int .i64 4), .sc (.int .i64 5), .sc (.int .i64 7)]) rfl ?_
         refine Bl s61 fun i62 H s63 => ?_
         refine Gd.bothE ?_ ?_
         ·refine Dl hcode (by omega) (by omega) rfl s63 Cz (.here) fun z64a iq65 hq65 H mz64 sq65 => ?_
          have s66 := (sq65.pick A8).tail
          obtain ⟨z64, rfl, hz64⟩ := A5 (l := [4, 5, 7]) (lo := 4) (hi := 7) mz64 (by decide)
          refine Ay (c := .sc (.int .i64 y57.fId)) s66 A8 rfl ?_
          have s67 := s66.ofShs Ci
          exact tl68 x46 x47 z64 y57.fId iq65 hq65 _ lx46 lx47 (s67.sel (.cons (.here) (.cons D6 (.cons (.here) (.cons A8 (.cons D6 Ip))))))
         ·refine Ay (c := .sc (.int .i64 y57.fId)) s63 A8 rfl ?_
          refine Dl hcode (by omega) (by omega) rfl s63 Cz (.here) fun z85a iq86 hq86 H mz85 sq86 => ?_
          have s87 := (sq86.pick A8).tail
          obtain ⟨z85, rfl, hz85⟩ := A5 (l := [4, 5, 7]) (lo := 4) (hi := 7) mz85 (by decide)
          have s88 := s87.ofShs Ci
          exact tl68 x46 x47 z85 y57.fId iq86 hq86 _ lx46 lx47 (s88.sel (.cons (.here) (.cons D6 (.cons (.here) (.cons A8 (.cons D6 Ip))))))
        ·refine Ay (c := .sc (.int .i64 y57.fId)) s61 (.here) rfl ?_
         refine Bk (cs := [.sc (.int .i64 4), .sc (.int .i64 5), .sc (.int .i64 7)]) rfl ?_
         refine Bl s61 fun i89 H s90 => ?_
         refine Dl hcode (by omega) (by omega) rfl s90 Cz (.here) fun z91a iq92 hq92 H mz91 sq92 => ?_
         have s93 := (sq92.pick A8).tail
         obtain ⟨z91, rfl, hz91⟩ := A5 (l := [4, 5, 7]) (lo := 4) (hi := 7) mz91 (by decide)
         have s94 := s93.ofShs Ci
         exact tl68 x46 x47 z91 y57.fId iq92 hq92 _ lx46 lx47 (s94.sel (.cons (.here) (.cons D6 (.cons (.here) (.cons A8 (.cons D6 Ip))))))
       ·refine Gd.bothE ?_ ?_
        ·refine Bk (cs := [.sc (.int .i64 4), .sc (.int .i64 5), .sc (.int .i64 7)]) rfl ?_
         refine Bl s61 fun i95 H s96 => ?_
         refine Gd.bothE ?_ ?_
         ·refine Aj s96 Fa rfl ?_
          refine Gd.bothE ?_ ?_
          ·refine Dl hcode (by omega) (by omega) rfl s96 Cz (.here) fun z97a iq98 hq98 H mz97 sq98 => ?_
           have s99 := (sq98.pick A8).tail
           obtain ⟨z97, rfl, hz97⟩ := A5 (l := [4, 5, 7]) (lo := 4) (hi := 7) mz97 (by decide)
           refine Ay (c := .sc (.int .i64 y57.fId)) s99 A8 rfl ?_
           have s100 := s99.ofShs Ci
           exact tl68 x46 x47 z97 y57.fId iq98 hq98 _ lx46 lx47 (s100.sel (.cons (.here) (.cons D6 (.cons (.here) (.cons A8 (.cons D6 Ip))))))
          ·refine Ay (c := .sc (.int .i64 y57.fId)) s96 A8 rfl ?_
           refine Dl hcode (by omega) (by omega) rfl s96 Cz (.here) fun z101a iq102 hq102 H mz101 sq102 => ?_
           have s103 := (sq102.pick A8).tail
           obtain ⟨z101, rfl, hz101⟩ := A5 (l := [4, 5, 7]) (lo := 4) (hi := 7) mz101 (by decide)
           have s104 := s103.ofShs Ci
           exact tl68 x46 x47 z101 y57.fId iq102 hq102 _ lx46 lx47 (s104.sel (.cons (.here) (.cons D6 (.cons (.here) (.cons A8 (.cons D6 Ip))))))
         ·refine Gd.bothE ?_ ?_
          ·refine Dl hcode (by omega) (by omega) rfl s96 Cz (.here) fun z105a iq106 hq106 H mz105 sq106 => ?_
           have s107 := (sq106.pick A8).tail
           obtain ⟨z105, rfl, hz105⟩ := A5 (l := [4, 5, 7]) (lo := 4) (hi := 7) mz105 (by decide)
           refine Aj s107 Cz rfl ?_
           refine Ay (c := .sc (.int .i64 y57.fId)) s107 A8 rfl ?_
           have s108 := s107.ofShs Ci
           exact tl68 x46 x47 z105 y57.fId iq106 hq106 _ lx46 lx47 (s108.sel (.cons (.here) (.cons D6 (.cons (.here) (.cons A8 (.cons D6 Ip))))))
          ·refine Ay (c := .sc (.int .i64 y57.fId)) s96 A8 rfl ?_
           refine Gd.bothE ?_ ?_
           ·refine Aj s96 Fa rfl ?_
            refine Dl hcode (by omega) (by omega) rfl s96 Cz (.here) fun z109a iq110 hq110 H mz109 sq110 => ?_
            have s111 := (sq110.pick A8).tail
            obtain ⟨z109, rfl, hz109⟩ := A5 (l := [4, 5, 7]) (lo := 4) (hi := 7) mz109 (by decide)
            have s112 := s111.ofShs Ci
            exact tl68 x46 x47 z109 y57.fId iq110 hq110 _ lx46 lx47 (s112.sel (.cons (.here) (.cons D6 (.cons (.here) (.cons A8 (.cons D6 Ip))))))
           ·refine Dl hcode (by omega) (by omega) rfl s96 Cz (.here) fun z113a iq114 hq114 H mz113 sq114 => ?_
            have s115 := (sq114.pick A8).tail
            obtain ⟨z113, rfl, hz113⟩ := A5 (l := [4, 5, 7]) (lo := 4) (hi := 7) mz113 (by decide)
            refine Aj s115 Cz rfl ?_
            have s116 := s115.ofShs Ci
            exact tl68 x46 x47 z113 y57.fId iq114 hq114 _ lx46 lx47 (s116.sel (.cons (.here) (.cons D6 (.cons (.here) (.cons A8 (.cons D6 Ip))))))
        ·refine Ay (c := .sc (.int .i64 y57.fId)) s61 (.here) rfl ?_
         refine Gd.bothE ?_ ?_
         ·refine Aj s61 Cz rfl ?_
          refine Bk (cs := [.sc (.int .i64 4), .sc (.int .i64 5), .sc (.int .i64 7)]) rfl ?_
          refine Bl s61 fun i117 H s118 => ?_
          refine Dl hcode (by omega) (by omega) rfl s118 Cz (.here) fun z119a iq120 hq120 H mz119 sq120 => ?_
          have s121 := (sq120.pick A8).tail
          obtain ⟨z119, rfl, hz119⟩ := A5 (l := [4, 5, 7]) (lo := 4) (hi := 7) mz119 (by decide)
          have s122 := s121.ofShs Ci
          exact tl68 x46 x47 z119 y57.fId iq120 hq120 _ lx46 lx47 (s122.sel (.cons (.here) (.cons D6 (.cons (.here) (.cons A8 (.cons D6 Ip))))))
         ·refine Bk (cs := [.sc (.int .i64 4), .sc (.int .i64 5), .sc (.int .i64 7)]) rfl ?_
          refine Bl s61 fun i123 H s124 => ?_
          refine Gd.bothE ?_ ?_
          ·refine Aj s124 Fa rfl ?_
           refine Dl hcode (by omega) (by omega) rfl s124 Cz (.here) fun z125a iq126 hq126 H mz125 sq126 => ?_
           have s127 := (sq126.pick A8).tail
           obtain ⟨z125, rfl, hz125⟩ := A5 (l := [4, 5, 7]) (lo := 4) (hi := 7) mz125 (by decide)
           have s128 := s127.ofShs Ci
           exact tl68 x46 x47 z125 y57.fId iq126 hq126 _ lx46 lx47 (s128.sel (.cons (.here) (.cons D6 (.cons (.here) (.cons A8 (.cons D6 Ip))))))
          ·refine Dl hcode (by omega) (by omega) rfl s124 Cz (.here) fun z129a iq130 hq130 H mz129 sq130 => ?_
           have s131 := (sq130.pick A8).tail
           obtain ⟨z129, rfl, hz129⟩ := A5 (l := [4, 5, 7]) (lo := 4) (hi := 7) mz129 (by decide)
           refine Aj s131 Cz rfl ?_
           have s132 := s131.ofShs Ci
           exact tl68 x46 x47 z129 y57.fId iq130 hq130 _ lx46 lx47 (s132.sel (.cons (.here) (.cons D6 (.cons (.here) (.cons A8 (.cons D6 Ip))))))
      ·refine C8 sq52 fun i133 H s134 => ?_
       refine D7 (m := ((((Ah m2).fFl).length : Nat) : Int)) hcode (by omega) s134 A8 fun z135 iq136 hq136 H hz135 sq136 => ?_
       have s137 := sq136.toShs Px
       obtain ⟨y138, he139⟩ : ∃ y, ((Ah m2).fFl)[(z135).toNat]? = some y := ⟨_, List.getElem?_eq_getElem (by first | omega | (simp at *; omega))⟩
       refine W1 (y := y138) s137 ⟨_, _, rfl, rfl, rfl, rfl⟩ (.here) (by omega) he139 Br Gv rfl fun de139 oe139 raw hl hlf re139 hsc se139 => ?_
       obtain ⟨e139r2, le139r2, rfl⟩ := K3 hl hlf hsc
       clear hl hlf hsc
       refine Rp re139 ?_
       refine A3 (cs' := [.sc (.int .i64 y138.fId), .sc (.string y138.fM.fTopic), e139r2, .sc (.int .i64 y138.fM.fQos), .sc (.bool y138.fM.fRetain), .sc (.int .i64 y138.fSt)]) se139 Ci (Ad (Aa rfl (Aa rfl (Aa le139r2 (Aa rfl (Aa rfl (Aa rfl rfl))))))) rfl (A7 rfl) rfl fun H s140 => ?_
       refine Af (o' := 0) rfl ?_
       refine Gd.bothE ?_ ?_
       ·refine Aj s140 Cz rfl ?_
        refine Gd.bothE ?_ ?_
        ·refine Bk (cs := [.sc (.int .i64 4), .sc (.int .i64 5), .sc (.int .i64 7)]) rfl ?_
         refine Bl s140 fun i141 H s142 => ?_
         refine Gd.bothE ?_ ?_
         ·refine Dl hcode (by omega) (by omega) rfl s142 Cz (.here) fun z143a iq144 hq144 H mz143 sq144 => ?_
          have s145 := (sq144.pick A8).tail
          obtain ⟨z143, rfl, hz143⟩ := A5 (l := [4, 5, 7]) (lo := 4) (hi := 7) mz143 (by decide)
          refine Ay (c := .sc (.int .i64 y138.fId)) s145 A8 rfl ?_
          have s146 := s145.ofShs Ci
          exact tl68 x46 x47 z143 y138.fId iq144 hq144 _ lx46 lx47 (s146.sel (.cons (.here) (.cons D6 (.cons (.here) (.cons A8 (.cons D6 Ip))))))
         ·refine Ay (c := .sc (.int .i64 y138.fId)) s142 A8 rfl ?_
          refine Dl hcode (by omega) (by omega) rfl s142 Cz (.here) fun z147a iq148 hq148 H mz147 sq148 => ?_
          have s149 := (sq148.pick A8).tail
          obtain ⟨z147, rfl, hz147⟩ := A5 (l := [4, 5, 7]) (lo := 4) (hi := 7) mz147 (by decide)
          have s150 := s149.ofShs Ci
          exact tl68 x46 x47 z147 y138.fId iq148 hq148 _ lx46 lx47 (s150.sel (.cons (.here) (.cons D6 (.cons (.here) (.cons A8 (.cons D6 Ip))))))
        ·refine Ay (c := .sc (.int .i64 y138.fId)) s140 (.here) rfl ?_
         refine Bk (cs := [.sc (.int .i64 4), .sc (.int .i64 5), .sc (.int .i64 7)]) rfl ?_
         refine Bl s140 fun i151 H s152 => ?_
         refine Dl hcode (by omega) (by omega) rfl s152 Cz (.here) fun z153a iq154 hq154 H mz153 sq154 => ?_
         have s155 := (sq154.pick A8).tail
         obtain ⟨z153, rfl, hz153⟩ := A5 (l := [4, 5, 7]) (lo := 4) (hi := 7) mz153 (by decide)
         have s156 := s155.ofShs Ci
         exact tl68 x46 x47 z153 y138.fId iq154 hq154 _ lx46 lx47 (s156.sel (.cons (.here) (.cons D6 (.cons (.here) (.cons A8 (.cons D6 Ip))))))
       ·refine Gd.bothE ?_ ?_
        ·refine Bk (cs := [.sc (.int .i64 4), .sc (.int .i64 5), .sc (.int .i64 7)]) rfl ?_
         refine Bl s140 fun i157 H s158 => ?_
         refine Gd.bothE ?_ ?_
         ·refine Aj s158 Fa rfl ?_
          refine Gd.bothE ?_ ?_
          ·refine Dl hcode (by omega) (by omega) rfl s158 Cz (.here) fun z159a iq160 hq160 H mz159 sq160 => ?_
           have s161 := (sq160.pick A8).tail
           obtain ⟨z159, rfl, hz159⟩ := A5 (l := [4, 5, 7]) (lo := 4) (hi := 7) mz159 (by decide)
           refine Ay (c := .sc (.int .i64 y138.fId)) s161 A8 rfl ?_
           have s162 := s161.ofShs Ci
           exact tl68 x46 x47 z159 y138.fId iq160 hq160 _ lx46 lx47 (s162.sel (.cons (.here) (.cons D6 (.cons (.here) (.cons A8 (.cons D6 Ip))))))
          ·refine Ay (c := .sc (.int .i64 y138.fId)) s158 A8 rfl ?_
           refine Dl hcode (by omega) (by omega) rfl s158 Cz (.here) fun z163a iq164 hq164 H mz163 sq164 => ?_
           have s165 := (sq164.pick A8).tail
           obtain ⟨z163, rfl, hz163⟩ := A5 (l := [4, 5, 7]) (lo := 4) (hi := 7) mz163 (by decide)
           have s166 := s165.ofShs Ci
           exact tl68 x46 x47 z163 y138.fId iq164 hq164 _ lx46 lx47 (s166.sel (.cons (.here) (.cons D6 (.cons (.here) (.cons A8 (.cons D6 Ip))))))
         ·refine Gd.bothE ?_ ?_
          ·refine Dl hcode (by omega) (by omega) rfl s158 Cz (.here) fun z167a iq168 hq168 H mz167 sq168 => ?_
           have s169 := (sq168.pick A8).tail
           obtain ⟨z167, rfl, hz167⟩ := A5 (l := [4, 5, 7]) (lo := 4) (hi := 7) mz167 (by decide)
           refine Aj s169 Cz rfl ?_
           refine Ay (c := .sc (.int .i64 y138.fId)) s169 A8 rfl ?_
           have s170 := s169.ofShs Ci
           exact tl68 x46 x47 z167 y138.fId iq168 hq168 _ lx46 lx47 (s170.sel (.cons (.here) (.cons D6 (.cons (.here) (.cons A8 (.cons D6 Ip))))))
          ·refine Ay (c := .sc (.int .i64 y138.fId)) s158 A8 rfl ?_
           refine Gd.bothE ?_ ?_
           ·refine Aj s158 Fa rfl ?_
            refine Dl hcode (by omega) (by omega) rfl s158 Cz (.here) fun z171a iq172 hq172 H mz171 sq172 => ?_
            have s173 := (sq172.pick A8).tail
            obtain ⟨z171, rfl, hz171⟩ := A5 (l := [4, 5, 7]) (lo := 4) (hi := 7) mz171 (by decide)
            have s174 := s173.ofShs Ci
            exact tl68 x46 x47 z171 y138.fId iq172 hq172 _ lx46 lx47 (s174.sel (.cons (.here) (.cons D6 (.cons (.here) (.cons A8 (.cons D6 Ip))))))
           ·refine Dl hcode (by omega) (by omega) rfl s158 Cz (.here) fun z175a iq176 hq176 H mz175 sq176 => ?_
            have s177 := (sq176.pick A8).tail
            obtain ⟨z175, rfl, hz175⟩ := A5 (l := [4, 5, 7]) (lo := 4) (hi := 7) mz175 (by decide)
            refine Aj s177 Cz rfl ?_
            have s178 := s177.ofShs Ci
            exact tl68 x46 x47 z175 y138.fId iq176 hq176 _ lx46 lx47 (s178.sel (.cons (.here) (.cons D6 (.cons (.here) (.cons A8 (.cons D6 Ip))))))
        ·refine Ay (c := .sc (.int .i64 y138.fId)) s140 (.here) rfl ?_
         refine Gd.bothE ?_ ?_
         ·refine Aj s140 Cz rfl ?_
          refine Bk (cs := [.sc (.int .i64 4), .sc (.int .i64 5), .sc (.int .i64 7)]) rfl ?_
          refine Bl s140 fun i179 H s180 => ?_
          refine Dl hcode (by omega) (by omega) rfl s180 Cz (.here) fun z181a iq182 hq182 H mz181 sq182 => ?_
          have s183 := (sq182.pick A8).tail
          obtain ⟨z181, rfl, hz181⟩ := A5 (l := [4, 5, 7]) (lo := 4) (hi := 7) mz181 (by decide)
          have s184 := s183.ofShs Ci
          exact tl68 x46 x47 z181 y138.fId iq182 hq182 _ lx46 lx47 (s184.sel (.cons (.here) (.cons D6 (.cons (.here) (.cons A8 (.cons D6 Ip))))))
         ·refine Bk (cs := [.sc (.int .i64 4), .sc (.int .i64 5), .sc (.int .i64 7)]) rfl ?_
          refine Bl s140 fun i185 H s186 => ?_
          refine Gd.bothE ?_ ?_
          ·refine Aj s186 Fa rfl ?_
           refine Dl hcode (by omega) (by omega) rfl s186 Cz (.here) fun z187a iq188 hq188 H mz187 sq188 => ?_
           have s189 := (sq188.pick A8).tail
           obtain ⟨z187, rfl, hz187⟩ := A5 (l := [4, 5, 7]) (lo := 4) (hi := 7) mz187 (by decide)
           have s190 := s189.ofShs Ci
           exact tl68 x46 x47 z187 y138.fId iq188 hq188 _ lx46 lx47 (s190.sel (.cons (.here) (.cons D6 (.cons (.here) (.cons A8 (.cons D6 Ip))))))
          ·refine Dl hcode (by omega) (by omega) rfl s186 Cz (.here) fun z191a iq192 hq192 H mz191 sq192 => ?_
           have s193 := (sq192.pick A8).tail
           obtain ⟨z191, rfl, hz191⟩ := A5 (l := [4, 5, 7]) (lo := 4) (hi := 7) mz191 (by decide)
           refine Aj s193 Cz rfl ?_
           have s194 := s193.ofShs Ci
           exact tl68 x46 x47 z191 y138.fId iq192 hq192 _ lx46 lx47 (s194.sel (.cons (.here) (.cons D6 (.cons (.here) (.cons A8 (.cons D6 Ip))))))
     ·refine Gd.bothE ?_ ?_
      ·refine D7 (m := ((((Ah m2).fFl).length : Nat) : Int)) hcode (by omega) sq52 (.here) fun z195 iq196 hq196 H hz195 sq196 => ?_
       refine Ay (c := x46) sq196 A8 rfl ?_
       have s197 := sq196.toShs D6
       obtain ⟨y198, he199⟩ : ∃ y, ((Ah m2).fFl)[(z195).toNat]? = some y := ⟨_, List.getElem?_eq_getElem (by first | omega | (simp at *; omega))⟩
       refine W1 (y := y198) s197 ⟨_, _, rfl, rfl, rfl, rfl⟩ (.here) (by omega) he199 Br Gv rfl fun de199 oe199 raw hl hlf re199 hsc se199 => ?_
       obtain ⟨e199r2, le199r2, rfl⟩ := K3 hl hlf hsc
       clear hl hlf hsc
       refine Rp re199 ?_
       refine C8 se199 fun i200 H s201 => ?_
       refine A3 (cs' := [.sc (.int .i64 y198.fId), .sc (.string y198.fM.fTopic), e199r2, .sc (.int .i64 y198.fM.fQos), .sc (.bool y198.fM.fRetain), .sc (.int .i64 y198.fSt)]) s201 (.here) (Ad (Aa rfl (Aa rfl (Aa le199r2 (Aa rfl (Aa rfl (Aa rfl rfl))))))) rfl (A7 rfl) rfl fun H s202 => ?_
       refine Af (o' := 0) rfl ?_
       refine Gd.bothE ?_ ?_
       ·refine Aj s202 Cz rfl ?_
        refine Gd.bothE ?_ ?_
        ·refine Bk (cs := [.sc (.int .i64 4), .sc (.int .i64 5), .sc (.int .i64 7)]) rfl ?_
         refine Bl s202 fun i203 H s204 => ?_
         refine Gd.bothE ?_ ?_
         ·refine Dl hcode (by omega) (by omega) rfl s204 Cz (.here) fun z205a iq206 hq206 H mz205 sq206 => ?_
          have s207 := (sq206.pick A8).tail
          obtain ⟨z205, rfl, hz205⟩ := A5 (l := [4, 5, 7]) (lo := 4) (hi := 7) mz205 (by decide)
          refine Ay (c := .sc (.int .i64 y198.fId)) s207 A8 rfl ?_
          have s208 := s207.ofShs Ci
          exact tl68 x46 x47 z205 y198.fId iq206 hq206 _ lx46 lx47 (s208.sel (.cons (.here) (.cons D6 (.cons (.here) (.cons A8 (.cons D6 Ip))))))
         ·refine Ay (c := .sc (.int .i64 y198.fId)) s204 A8 rfl ?_
          refine Dl hcode (by omega) (by omega) rfl s204 Cz (.here) fun z209a iq210 hq210 H mz209 sq210 => ?_
          have s211 := (sq210.pick A8).tail
          obtain ⟨z209, rfl, hz209⟩ := A5 (l := [4, 5, 7]) (lo := 4) (hi := 7) mz209 (by decide)
          have s212 := s211.ofShs Ci
          exact tl68 x46 x47 z209 y198.fId iq210 hq210 _ lx46 lx47 (s212.sel (.cons (.here) (.cons D6 (.cons (.here) (.cons A8 (.cons D6 Ip))))))
        ·refine Ay (c := .sc (.int .i64 y198.fId)) s202 (.here) rfl ?_
         refine Bk (cs := [.sc (.int .i64 4), .sc (.int .i64 5), .sc (.int .i64 7)]) rfl ?_
         refine Bl s202 fun i213 H s214 => ?_
         refine Dl hcode (by omega) (by omega) rfl s214 Cz (.here) fun z215a iq216 hq216 H mz215 sq216 => ?_
         have s217 := (sq216.pick A8).tail
         obtain ⟨z215, rfl, hz215⟩ := A5 (l := [4, 5, 7]) (lo := 4) (hi := 7) mz215 (by decide)
         have s218 := s217.ofShs Ci
         exact tl68 x46 x47 z215 y198.fId iq216 hq216 _ lx46 lx47 (s218.sel (.cons (.here) (.cons D6 (.cons (.here) (.cons A8 (.cons D6 Ip))))))
       ·refine Gd.bothE ?_ ?_
        ·refine Bk (cs := [.sc (.int .i64 4), .sc (.int .i64 5), .sc (.int .i64 7)]) rfl ?_
         refine Bl s202 fun i219 H s220 => ?_
         refine Gd.bothE ?_ ?_
         ·refine Aj s220 Fa rfl ?_
          refine Gd.bothE ?_ ?_
          ·refine Dl hcode (by omega) (by omega) rfl s220 Cz (.here) fun z221a iq222 hq222 H mz221 sq222 => ?_
           have s223 := (sq222.pick A8).tail
           obtain ⟨z221, rfl, hz221⟩ := A5 (l := [4, 5, 7]) (lo := 4) (hi := 7) mz221 (by decide)
           refine Ay (c := .sc (.int .i64 y198.fId)) s223 A8 rfl ?_
           have s224 := s223.ofShs Ci
           exact tl68 x46 x47 z221 y198.fId iq222 hq222 _ lx46 lx47 (s224.sel (.cons (.here) (.cons D6 (.cons (.here) (.cons A8 (.cons D6 Ip))))))
          ·refine Ay (c := .sc (.int .i64 y198.fId)) s220 A8 rfl ?_
           refine Dl hcode (by omega) (by omega) rfl s220 Cz (.here) fun z225a iq226 hq226 H mz225 sq226 => ?_
           have s227 := (sq226.pick A8).tail
           obtain ⟨z225, rfl, hz225⟩ := A5 (l := [4, 5, 7]) (lo := 4) (hi := 7) mz225 (by decide)
           have s228 := s227.ofShs Ci
           exact tl68 x46 x47 z225 y198.fId iq226 hq226 _ lx46 lx47 (s228.sel (.cons (.here) (.cons D6 (.cons (.here) (.cons A8 (.cons D6 Ip))))))
         ·refine Gd.bothE ?_ ?_
          ·refine Dl hcode (by omega) (by omega) rfl s220 Cz (.here) fun z229a iq230 hq230 H mz229 sq230 => ?_
           have s231 := (sq230.pick A8).tail
           obtain ⟨z229, rfl, hz229⟩ := A5 (l := [4, 5, 7]) (lo := 4) (hi := 7) mz229 (by decide)
           refine Aj s231 Cz rfl ?_
           refine Ay (c := .sc (.int .i64 y198.fId)) s231 A8 rfl ?_
           have s232 := s231.ofShs Ci
           exact tl68 x46 x47 z229 y198.fId iq230 hq230 _ lx46 lx47 (s232.sel (.cons (.here) (.cons D6 (.cons (.here) (.cons A8 (.cons D6 Ip))))))
          ·refine Ay (c := .sc (.int .i64 y198.fId)) s220 A8 rfl ?_
           refine Gd.bothE ?_ ?_
           ·refine Aj s220 Fa rfl ?_
            refine Dl hcode (by omega) (by omega) rfl s220 Cz (.here) fun z233a iq234 hq234 H mz233 sq234 => ?_
            have s235 := (sq234.pick A8).tail
            obtain ⟨z233, rfl, hz233⟩ := A5 (l := [4, 5, 7]) (lo := 4) (hi := 7) mz233 (by decide)
            have s236 := s235.ofShs Ci
            exact tl68 x46 x47 z233 y198.fId iq234 hq234 _ lx46 lx47 (s236.sel (.cons (.here) (.cons D6 (.cons (.here) (.cons A8 (.cons D6 Ip))))))
           ·refine Dl hcode (by omega) (by omega) rfl s220 Cz (.here) fun z237a iq238 hq238 H mz237 sq238 => ?_
            have s239 := (sq238.pick A8).tail
            obtain ⟨z237, rfl, hz237⟩ := A5 (l := [4, 5, 7]) (lo := 4) (hi := 7) mz237 (by decide)
            refine Aj s239 Cz rfl ?_
            have s240 := s239.ofShs Ci
            exact tl68 x46 x47 z237 y198.fId iq238 hq238 _ lx46 lx47 (s240.sel (.cons (.here) (.cons D6 (.cons (.here) (.cons A8 (.cons D6 Ip))))))
        ·refine Ay (c := .sc (.int .i64 y198.fId)) s202 (.here) rfl ?_
         refine Gd.bothE ?_ ?_
         ·refine Aj s202 Cz rfl ?_
          refine Bk (cs := [.sc (.int .i64 4), .sc (.int .i64 5), .sc (.int .i64 7)]) rfl ?_
          refine Bl s202 fun i241 H s242 => ?_
          refine Dl hcode (by omega) (by omega) rfl s242 Cz (.here) fun z243a iq244 hq244 H mz243 sq244 => ?_
          have s245 := (sq244.pick A8).tail
          obtain ⟨z243, rfl, hz243⟩ := A5 (l := [4, 5, 7]) (lo := 4) (hi := 7) mz243 (by decide)
          have s246 := s245.ofShs Ci
          exact tl68 x46 x47 z243 y198.fId iq244 hq244 _ lx46 lx47 (s246.sel (.cons (.here) (.cons D6 (.cons (.here) (.cons A8 (.cons D6 Ip))))))
         ·refine Bk (cs := [.sc (.int .i64 4), .sc (.int .i64 5), .sc (.int .i64 7)]) rfl ?_
          refine Bl s202 fun i247 H s248 => ?_
          refine Gd.bothE ?_ ?_
          ·refine Aj s248 Fa rfl ?_
           refine Dl hcode (by omega) (by omega) rfl s248 Cz (.here) fun z249a iq250 hq250 H mz249 sq250 => ?_
           have s251 := (sq250.pick A8).tail
           obtain ⟨z249, rfl, hz249⟩ := A5 (l := [4, 5, 7]) (lo := 4) (hi := 7) mz249 (by decide)
           have s252 := s251.ofShs Ci
           exact tl68 x46 x47 z249 y198.fId iq250 hq250 _ lx46 lx47 (s252.sel (.cons (.here) (.cons D6 (.cons (.here) (.cons A8 (.cons D6 Ip))))))
          ·refine Dl hcode (by omega) (by omega) rfl s248 Cz (.here) fun z253a iq254 hq254 H mz253 sq254 => ?_
           have s255 := (sq254.pick A8).tail
           obtain ⟨z253, rfl, hz253⟩ := A5 (l := [4, 5, 7]) (lo := 4) (hi := 7) mz253 (by decide)
           refine Aj s255 Cz rfl ?_
           have s256 := s255.ofShs Ci
           exact tl68 x46 x47 z253 y198.fId iq254 hq254 _ lx46 lx47 (s256.sel (.cons (.here) (.cons D6 (.cons (.here) (.cons A8 (.cons D6 Ip))))))
      ·refine C8 sq52 fun i257 H s258 => ?_
       refine Gd.bothE ?_ ?_
       ·refine Ay (c := x46) s258 Ci rfl ?_
        refine D7 (m := ((((Ah m2).fFl).length : Nat) : Int)) hcode (by omega) s258 A8 fun z259 iq260 hq260 H hz259 sq260 => ?_
        have s261 := sq260.toShs Px
        obtain ⟨y262, he263⟩ : ∃ y, ((Ah m2).fFl)[(z259).toNat]? = some y := ⟨_, List.getElem?_eq_getElem (by first | omega | (simp at *; omega))⟩
        refine W1 (y := y262) s261 ⟨_, _, rfl, rfl, rfl, rfl⟩ (.here) (by omega) he263 Br Gv rfl fun de263 oe263 raw hl hlf re263 hsc se263 => ?_
        obtain ⟨e263r2, le263r2, rfl⟩ := K3 hl hlf hsc
        clear hl hlf hsc
        refine Rp re263 ?_
        refine A3 (cs' := [.sc (.int .i64 y262.fId), .sc (.string y262.fM.fTopic), e263r2, .sc (.int .i64 y262.fM.fQos), .sc (.bool y262.fM.fRetain), .sc (.int .i64 y262.fSt)]) se263 Ci (Ad (Aa rfl (Aa rfl (Aa le263r2 (Aa rfl (Aa rfl (Aa rfl rfl))))))) rfl (A7 rfl) rfl fun H s264 => ?_
        refine Af (o' := 0) rfl ?_
        refine Gd.bothE ?_ ?_
        ·refine Aj s264 Cz rfl ?_
         refine Gd.bothE ?_ ?_
         ·refine Bk (cs := [.sc (.int .i64 4), .sc (.int .i64 5), .sc (.int .i64 7)]) rfl ?_
          refine Bl s264 fun i265 H s266 => ?_
          refine Gd.bothE ?_ ?_
          ·refine Dl hcode (by omega) (by omega) rfl s266 Cz (.here) fun z267a iq268 hq268 H mz267 sq268 => ?_
           have s269 := (sq268.pick A8).tail
           obtain ⟨z267, rfl, hz267⟩ := A5 (l := [4, 5, 7]) (lo := 4) (hi := 7) mz267 (by decide)
           refine Ay (c := .sc (.int .i64 y262.fId)) s269 A8 rfl ?_
           have s270 := s269.ofShs Ci
           exact tl68 x46 x47 z267 y262.fId iq268 hq268 _ lx46 lx47 (s270.sel (.cons (.here) (.cons D6 (.cons (.here) (.cons A8 (.cons D6 Ip))))))
          ·refine Ay (c := .sc (.int .i64 y262.fId)) s266 A8 rfl ?_
           refine Dl hcode (by omega) (by omega) rfl s266 Cz (.here) fun z271a iq272 hq272 H mz271 sq272 => ?_
           have s273 := (sq272.pick A8).tail
           obtain ⟨z271, rfl, hz271⟩ := A5 (l := [4, 5, 7]) (lo := 4) (hi := 7) mz271 (by decide)
           have s274 := s273.ofShs Ci
           exact tl68 x46 x47 z271 y262.fId iq272 hq272 _ lx46 lx47 (s274.sel (.cons (.here) (.cons D6 (.cons (.here) (.cons A8 (.cons D6 Ip))))))
         ·refine Ay (c := .sc (.int .i64 y262.fId)) s264 (.here) rfl ?_
          refine Bk (cs := [.sc (.int .i64 4), .sc (.int .i64 5), .sc (.int .i64 7)]) rfl ?_
          refine Bl s264 fun i275 H s276 => ?_
          refine Dl hcode (by omega) (by omega) rfl s276 Cz (.here) fun z277a iq278 hq278 H mz277 sq278 => ?_
          have s279 := (sq278.pick A8).tail
          obtain ⟨z277, rfl, hz277⟩ := A5 (l := [4, 5, 7]) (lo := 4) (hi := 7) mz277 (by decide)
          have s280 := s279.ofShs Ci
          exact tl68 x46 x47 z277 y262.fId iq278 hq278 _ lx46 lx47 (s280.sel (.cons (.here) (.cons D6 (.cons (.here) (.cons A8 (.cons D6 Ip))))))
        ·refine Gd.bothE ?_ ?_
         ·refine Bk (cs := [.sc (.int .i64 4), .sc (.int .i64 5), .sc (.int .i64 7)]) rfl ?_
          refine Bl s264 fun i281 H s282 => ?_
          refine Gd.bothE ?_ ?_
          ·refine Aj s282 Fa rfl ?_
           refine Gd.bothE ?_ ?_
           ·refine Dl hcode (by omega) (by omega) rfl s282 Cz (.here) fun z283a iq284 hq284 H mz283 sq284 => ?_
            have s285 := (sq284.pick A8).tail
            obtain ⟨z283, rfl, hz283⟩ := A5 (l := [4, 5, 7]) (lo := 4) (hi := 7) mz283 (by decide)
            refine Ay (c := .sc (.int .i64 y262.fId)) s285 A8 rfl ?_
            have s286 := s285.ofShs Ci
            exact tl68 x46 x47 z283 y262.fId iq284 hq284 _ lx46 lx47 (s286.sel (.cons (.here) (.cons D6 (.cons (.here) (.cons A8 (.cons D6 Ip))))))
           ·refine Ay (c := .sc (.int .i64 y262.fId)) s282 A8 rfl ?_
            refine Dl hcode (by omega) (by omega) rfl s282 Cz (.here) fun z287a iq288 hq288 H mz287 sq288 => ?_
            have s289 := (sq288.pick A8).tail
            obtain ⟨z287, rfl, hz287⟩ := A5 (l := [4, 5, 7]) (lo := 4) (hi := 7) mz287 (by decide)
            have s290 := s289.ofShs Ci
            exact tl68 x46 x47 z287 y262.fId iq288 hq288 _ lx46 lx47 (s290.sel (.cons (.here) (.cons D6 (.cons (.here) (.cons A8 (.cons D6 Ip))))))
          ·refine Gd.bothE ?_ ?_
           ·refine Dl hcode (by omega) (by omega) rfl s282 Cz (.here) fun z291a iq292 hq292 H mz291 sq292 => ?_
            have s293 := (sq292.pick A8).tail
            obtain ⟨z291, rfl, hz291⟩ := A5 (l := [4, 5, 7]) (lo := 4) (hi := 7) mz291 (by decide)
            refine Aj s293 Cz rfl ?_
            refine Ay (c := .sc (.int .i64 y262.fId)) s293 A8 rfl ?_
            have s294 := s293.ofShs Ci
            exact tl68 x46 x47 z291 y262.fId iq292 hq292 _ lx46 lx47 (s294.sel (.cons (.here) (.cons D6 (.cons (.here) (.cons A8 (.cons D6 Ip))))))
           ·refine Ay (c := .sc (.int .i64 y262.fId)) s282 A8 rfl ?_
            refine Gd.bothE ?_ ?_
            ·refine Aj s282 Fa rfl ?_
             refine Dl hcode (by omega) (by omega) rfl s282 Cz (.here) fun z295a iq296 hq296 H mz295 sq296 => ?_
             have s297 := (sq296.pick A8).tail
             obtain ⟨z295, rfl, hz295⟩ := A5 (l := [4, 5, 7]) (lo := 4) (hi := 7) mz295 (by decide)
             have s298 := s297.ofShs Ci
             exact tl68 x46 x47 z295 y262.fId iq296 hq296 _ lx46 lx47 (s298.sel (.cons (.here) (.cons D6 (.cons (.here) (.cons A8 (.cons D6 Ip))))))
            ·refine Dl hcode (by omega) (by omega) rfl s282 Cz (.here) fun z299a iq300 hq300 H mz299 sq300 => ?_
             have s301 := (sq300.pick A8).tail
             obtain ⟨z299, rfl, hz299⟩ := A5 (l := [4, 5, 7]) (lo := 4) (hi := 7) mz299 (by decide)
             refine Aj s301 Cz rfl ?_
             have s302 := s301.ofShs Ci
             exact tl68 x46 x47 z299 y262.fId iq300 hq300 _ lx46 lx47 (s302.sel (.cons (.here) (.cons D6 (.cons (.here) (.cons A8 (.cons D6 Ip))))))
         ·refine Ay (c := .sc (.int .i64 y262.fId)) s264 (.here) rfl ?_
          refine Gd.bothE ?_ ?_
          ·refine Aj s264 Cz rfl ?_
           refine Bk (cs := [.sc (.int .i64 4), .sc (.int .i64 5), .sc (.int .i64 7)]) rfl ?_
           refine Bl s264 fun i303 H s304 => ?_
           refine Dl hcode (by omega) (by omega) rfl s304 Cz (.here) fun z305a iq306 hq306 H mz305 sq306 => ?_
           have s307 := (sq306.pick A8).tail
           obtain ⟨z305, rfl, hz305⟩ := A5 (l := [4, 5, 7]) (lo := 4) (hi := 7) mz305 (by decide)
           have s308 := s307.ofShs Ci
           exact tl68 x46 x47 z305 y262.fId iq306 hq306 _ lx46 lx47 (s308.sel (.cons (.here) (.cons D6 (.cons (.here) (.cons A8 (.cons D6 Ip))))))
          ·refine Bk (cs := [.sc (.int .i64 4), .sc (.int .i64 5), .sc (.int .i64 7)]) rfl ?_
           refine Bl s264 fun i309 H s310 => ?_
           refine Gd.bothE ?_ ?_
           ·refine Aj s310 Fa rfl ?_
            refine Dl hcode (by omega) (by omega) rfl s310 Cz (.here) fun z311a iq312 hq312 H mz311 sq312 => ?_
            have s313 := (sq312.pick A8).tail
            obtain ⟨z311, rfl, hz311⟩ := A5 (l := [4, 5, 7]) (lo := 4) (hi := 7) mz311 (by decide)
            have s314 := s313.ofShs Ci
            exact tl68 x46 x47 z311 y262.fId iq312 hq312 _ lx46 lx47 (s314.sel (.cons (.here) (.cons D6 (.cons (.here) (.cons A8 (.cons D6 Ip))))))
           ·refine Dl hcode (by omega) (by omega) rfl s310 Cz (.here) fun z315a iq316 hq316 H mz315 sq316 => ?_
            have s317 := (sq316.pick A8).tail
            obtain ⟨z315, rfl, hz315⟩ := A5 (l := [4, 5, 7]) (lo := 4) (hi := 7) mz315 (by decide)
            refine Aj s317 Cz rfl ?_
            have s318 := s317.ofShs Ci
            exact tl68 x46 x47 z315 y262.fId iq316 hq316 _ lx46 lx47 (s318.sel (.cons (.here) (.cons D6 (.cons (.here) (.cons A8 (.cons D6 Ip))))))
       ·refine D7 (m := ((((Ah m2).fFl).length : Nat) : Int)) hcode (by omega) s258 A8 fun z319 iq320 hq320 H hz319 sq320 => ?_
        refine Ay (c := x46) sq320 Ci rfl ?_
        have s321 := sq320.toShs Px
        obtain ⟨y322, he323⟩ : ∃ y, ((Ah m2).fFl)[(z319).toNat]? = some y := ⟨_, List.getElem?_eq_getElem (by first | omega | (simp at *; omega))⟩
        refine W1 (y := y322) s321 ⟨_, _, rfl, rfl, rfl, rfl⟩ (.here) (by omega) he323 Br Gv rfl fun de323 oe323 raw hl hlf re323 hsc se323 => ?_
        obtain ⟨e323r2, le323r2, rfl⟩ := K3 hl hlf hsc
        clear hl hlf hsc
        refine Rp re323 ?_
        refine A3 (cs' := [.sc (.int .i64 y322.fId), .sc (.string y322.fM.fTopic), e323r2, .sc (.int .i64 y322.fM.fQos), .sc (.bool y322.fM.fRetain), .sc (.int .i64 y322.fSt)]) se323 Ci (Ad (Aa rfl (Aa rfl (Aa le323r2 (Aa rfl (Aa rfl (Aa rfl rfl))))))) rfl (A7 rfl) rfl fun H s324 => ?_
        refine Af (o' := 0) rfl ?_
        refine Gd.bothE ?_ ?_
        ·refine Aj s324 Cz rfl ?_
         refine Gd.bothE ?_ ?_
         ·refine Bk (cs := [.sc (.int .i64 4), .sc (.int .i64 5), .sc (.int .i64 7)]) rfl ?_
          refine Bl s324 fun i325 H s326 => ?_
          refine Gd.bothE ?_ ?_
          ·refine Dl hcode (by omega) (by omega) rfl s326 Cz (.here) fun z327a iq328 hq328 H mz327 sq328 => ?_
           have s329 := (sq328.pick A8).tail
           obtain ⟨z327, rfl, hz327⟩ := A5 (l := [4, 5, 7]) (lo := 4) (hi := 7) mz327 (by decide)
           refine Ay (c := .sc (.int .i64 y322.fId)) s329 A8 rfl ?_
           have s330 := s329.ofShs Ci
           exact tl68 x46 x47 z327 y322.fId iq328 hq328 _ lx46 lx47 (s330.sel (.cons (.here) (.cons D6 (.cons (.here) (.cons A8 (.cons D6 Ip))))))
          ·refine Ay (c := .sc (.int .i64 y322.fId)) s326 A8 rfl ?_
           refine Dl hcode (by omega) (by omega) rfl s326 Cz (.here) fun z331a iq332 hq332 H mz331 sq332 => ?_
           have s333 := (sq332.pick A8).tail
           obtain ⟨z331, rfl, hz331⟩ := A5 (l := [4, 5, 7]) (lo := 4) (hi := 7) mz331 (by decide)
           have s334 := s333.ofShs Ci
           exact tl68 x46 x47 z331 y322.fId iq332 hq332 _ lx46 lx47 (s334.sel (.cons (.here) (.cons D6 (.cons (.here) (.cons A8 (.cons D6 Ip))))))
         ·refine Ay (c := .sc (.int .i64 y322.fId)) s324 (.here) rfl ?_
          refine Bk (cs := [.sc (.int .i64 4), .sc (.int .i64 5), .sc (.int .i64 7)]) rfl ?_
          refine Bl s324 fun i335 H s336 => ?_
          refine Dl hcode (by omega) (by omega) rfl s336 Cz (.here) fun z337a iq338 hq338 H mz337 sq338 => ?_
          have s339 := (sq338.pick A8).tail
          obtain ⟨z337, rfl, hz337⟩ := A5 (l := [4, 5, 7]) (lo := 4) (hi := 7) mz337 (by decide)
          have s340 := s339.ofShs Ci
          exact tl68 x46 x47 z337 y322.fId iq338 hq338 _ lx46 lx47 (s340.sel (.cons (.here) (.cons D6 (.cons (.here) (.cons A8 (.cons D6 Ip))))))
        ·refine Gd.bothE ?_ ?_
         ·refine Bk (cs := [.sc (.int .i64 4), .sc (.int .i64 5), .sc (.int .i64 7)]) rfl ?_
          refine Bl s324 fun i341 H s342 => ?_
          refine Gd.bothE ?_ ?_
          ·refine Aj s342 Fa rfl ?_
           refine Gd.bothE ?_ ?_
           ·refine Dl hcode (by omega) (by omega) rfl s342 Cz (.here) fun z343a iq344 hq344 H mz343 sq344 => ?_
            have s345 := (sq344.pick A8).tail
            obtain ⟨z343, rfl, hz343⟩ := A5 (l := [4, 5, 7]) (lo := 4) (hi := 7) mz343 (by decide)
            refine Ay (c := .sc (.int .i64 y322.fId)) s345 A8 rfl ?_
            have s346 := s345.ofShs Ci
            exact tl68 x46 x47 z343 y322.fId iq344 hq344 _ lx46 lx47 (s346.sel (.cons (.here) (.cons D6 (.cons (.here) (.cons A8 (.cons D6 Ip))))))
           ·refine Ay (c := .sc (.int .i64 y322.fId)) s342 A8 rfl ?_
            refine Dl hcode (by omega) (by omega) rfl s342 Cz (.here) fun z347a iq348 hq348 H mz347 sq348 => ?_
            have s349 := (sq348.pick A8).tail
            obtain ⟨z347, rfl, hz347⟩ := A5 (l := [4, 5, 7]) (lo := 4) (hi := 7) mz347 (by decide)
            have s350 := s349.ofShs Ci
            exact tl68 x46 x47 z347 y322.fId iq348 hq348 _ lx46 lx47 (s350.sel (.cons (.here) (.cons D6 (.cons (.here) (.cons A8 (.cons D6 Ip))))))
          ·refine Gd.bothE ?_ ?_
           ·refine Dl hcode (by omega) (by omega) rfl s342 Cz (.here) fun z351a iq352 hq352 H mz351 sq352 => ?_
            have s353 := (sq352.pick A8).tail
            obtain ⟨z351, rfl, hz351⟩ := A5 (l := [4, 5, 7]) (lo := 4) (hi := 7) mz351 (by decide)
            refine Aj s353 Cz rfl ?_
            refine Ay (c := .sc (.int .i64 y322.fId)) s353 A8 rfl ?_
            have s354 := s353.ofShs Ci
            exact tl68 x46 x47 z351 y322.fId iq352 hq352 _ lx46 lx47 (s354.sel (.cons (.here) (.cons D6 (.cons (.here) (.cons A8 (.cons D6 Ip))))))
           ·refine Ay (c := .sc (.int .i64 y322.fId)) s342 A8 rfl ?_
            refine Gd.bothE ?_ ?_
            ·refine Aj s342 Fa rfl ?_
             refine Dl hcode (by omega) (by omega) rfl s342 Cz (.here) fun z355a iq356 hq356 H mz355 sq356 => ?_
             have s357 := (sq356.pick A8).tail
             obtain ⟨z355, rfl, hz355⟩ := A5 (l := [4, 5, 7]) (lo := 4) (hi := 7) mz355 (by decide)
             have s358 := s357.ofShs Ci
             exact tl68 x46 x47 z355 y322.fId iq356 hq356 _ lx46 lx47 (s358.sel (.cons (.here) (.cons D6 (.cons (.here) (.cons A8 (.cons D6 Ip))))))
            ·refine Dl hcode (by omega) (by omega) rfl s342 Cz (.here) fun z359a iq360 hq360 H mz359 sq360 => ?_
             have s361 := (sq360.pick A8).tail
             obtain ⟨z359, rfl, hz359⟩ := A5 (l := [4, 5, 7]) (lo := 4) (hi := 7) mz359 (by decide)
             refine Aj s361 Cz rfl ?_
             have s362 := s361.ofShs Ci
             exact tl68 x46 x47 z359 y322.fId iq360 hq360 _ lx46 lx47 (s362.sel (.cons (.here) (.cons D6 (.cons (.here) (.cons A8 (.cons D6 Ip))))))
         ·refine Ay (c := .sc (.int .i64 y322.fId)) s324 (.here) rfl ?_
          refine Gd.bothE ?_ ?_
          ·refine Aj s324 Cz rfl ?_
           refine Bk (cs := [.sc (.int .i64 4), .sc (.int .i64 5), .sc (.int .i64 7)]) rfl ?_
           refine Bl s324 fun i363 H s364 => ?_
           refine Dl hcode (by omega) (by omega) rfl s364 Cz (.here) fun z365a iq366 hq366 H mz365 sq366 => ?_
           have s367 := (sq366.pick A8).tail
           obtain ⟨z365, rfl, hz365⟩ := A5 (l := [4, 5, 7]) (lo := 4) (hi := 7) mz365 (by decide)
           have s368 := s367.ofShs Ci
           exact tl68 x46 x47 z365 y322.fId iq366 hq366 _ lx46 lx47 (s368.sel (.cons (.here) (.cons D6 (.cons (.here) (.cons A8 (.cons D6 Ip))))))
          ·refine Bk (cs := [.sc (.int .i64 4), .sc (.int .i64 5), .sc (.int .i64 7)]) rfl ?_
           refine Bl s324 fun i369 H s370 => ?_
           refine Gd.bothE ?_ ?_
           ·refine Aj s370 Fa rfl ?_
            refine Dl hcode (by omega) (by omega) rfl s370 Cz (.here) fun z371a iq372 hq372 H mz371 sq372 => ?_
            have s373 := (sq372.pick A8).tail
            obtain ⟨z371, rfl, hz371⟩ := A5 (l := [4, 5, 7]) (lo := 4) (hi := 7) mz371 (by decide)
            have s374 := s373.ofShs Ci
            exact tl68 x46 x47 z371 y322.fId iq372 hq372 _ lx46 lx47 (s374.sel (.cons (.here) (.cons D6 (.cons (.here) (.cons A8 (.cons D6 Ip))))))
           ·refine Dl hcode (by omega) (by omega) rfl s370 Cz (.here) fun z375a iq376 hq376 H mz375 sq376 => ?_
            have s377 := (sq376.pick A8).tail
            obtain ⟨z375, rfl, hz375⟩ := A5 (l := [4, 5, 7]) (lo := 4) (hi := 7) mz375 (by decide)
            refine Aj s377 Cz rfl ?_
            have s378 := s377.ofShs Ci
            exact tl68 x46 x47 z375 y322.fId iq376 hq376 _ lx46 lx47 (s378.sel (.cons (.here) (.cons D6 (.cons (.here) (.cons A8 (.cons D6 Ip))))))
    ·refine B3 h53 ?_
     refine K7 (by omega) (by omega) ?_
     have e379 : OutB 80 (⟨(Ah m2).fLast, ((Ah m2).fFl), ((Ah m2).fQ)⟩ : B5) ∧ j ≤ 5 := by
      refine ⟨?_, by omega⟩; first | exact hinv.1 | exact J5 hinv.1 | exact Aam (J5 hinv.1) | (apply E1 <;> first | assumption | omega | (unfold C3; omega) | (intro z hz; cases hz; done) | (show 0 + _ ≤ _; omega))
     exact ih m _ (⟨(Ah m2).fLast, ((Ah m2).fFl), ((Ah m2).fQ)⟩ : B5) x46 x47 iq52 hq52 _ (by omega) (by omega) lx46 lx47 e379 (sq52.sel (.cons D6 (.cons Vi (.cons (.here) (.cons (.here) (.cons Vi zS8))))))
   ·refine B0 h50 ?_
    refine B0 h50 ?_
    refine C4 h50 ?_
    refine B3 rfl ?_
    refine K7 (by omega) (by omega) ?_
    have e380 : OutB 80 (⟨(Ah m2).fLast, ((Ah m2).fFl), ((Ah m2).fQ)⟩ : B5) ∧ j ≤ 5 := by
     refine ⟨?_, by omega⟩; first | exact hinv.1 | exact J5 hinv.1 | exact Aam (J5 hinv.1) | (apply E1 <;> first | assumption | omega | (unfold C3; omega) | (intro z hz; cases hz; done) | (show 0 + _ ≤ _; omega))
    exact ih m _ (⟨(Ah m2).fLast, ((Ah m2).fFl), ((Ah m2).fQ)⟩ : B5) x46 x47 i h _ (by omega) (by omega) lx46 lx47 e380 (s49.sel (.cons Vi (.cons zP7 (.cons D6 (.cons (.here) (.cons Vi zS8))))))
 have s381 := sq15.nl (ty := 113) ⟨_, _, rfl, rfl⟩
 have e382 : OutB 80 (⟨z5, [], r11⟩ : B5) ∧ (z14).toNat ≤ 5 := by
  refine ⟨?_, by omega⟩; first | exact hinv.1 | exact J5 hinv.1 | exact Aam (J5 hinv.1) | (apply E1 <;> first | assumption | omega | (unfold C3; omega) | (intro z hz; cases hz; done) | (show 0 + _ ≤ _; omega))
 exact lp16 (z14).toNat _ _ (⟨z5, [], r11⟩ : B5) .nl r11x iq15 hq15 _ (by omega) (by omega) rfl lr11x e382 (s381.sel (.cons (.here) (.cons Ci (.cons (.here) (.cons (.here) (.cons (.here) .rest))))))
theorem Afp (n : Nat) (hn : 1048576 < n) (code : ByteArray) (hcode : code.size ≤ 1048576) (c i : Nat) (h : Int)   {β : Type} {r : Option β} {KH : KO β} {H : Ac} {L : List Ck} (s0 : Sep H (Cr c code i h :: L)) (hk : ∀ (r0 : B5) (r0x1 : AV) (r0x2 : AV) (i' : Nat) (h' : Int) (H' : Ac), (Aq r0x1 = true) → (Aq r0x2 = true) → (OutB 400 r0) → Sep H' (.own r0x1 113 (Al Az r0.fFl) :: .own r0x2 79 (Al Au r0.fQ) :: Cr c code i' h' :: L) → Gd (· = r) (KH (.agg [.sc (.int .i64 r0.fLast), r0x1, r0x2]) H')) : Gd (· = r) (Dc E0 (n + 18) β 102 [.ptr c 0] H fun x H => KH x H) := by
 rw [AeQ, f102]
 try simp only [Cj, Bm, Bi, A4, A6, A9, Aw, Ca, Cc, Be, Cy]
 refine C8 s0 fun i1 H s2 => ?_
 refine Gc rfl rfl ?_
 refine Sx _ (by omega) code hcode c i h   (s2.pick A8) fun r3 r3x1 r3x2 iq4 hq4 H lr3x1 lr3x2 hr3 sq4 => ?_
 have kr3 := hr3
 obtain ⟨⟨oar3, obr3, ocr3⟩, wr3⟩ := kr3
 have gr3 := Mv hr3
 refine C8 sq4 fun i5 H s6 => ?_
 refine A3 (cs' := [.sc (.int .i64 r3.fLast), r3x1, r3x2]) s6 (.here) (Ad (Aa rfl (Aa lr3x1 (Aa lr3x2 rfl)))) rfl (A7 rfl) rfl fun H s7 => ?_
 refine D7 (m := 14) hcode (by omega) s7 Cz fun z8 iq9 hq9 H hz8 sq9 => ?_
 replace hz8 : 0 ≤ z8 ∧ z8 < 14 := by omega
 refine Bv ?_
 refine Ai ((decide (z8 = 0))) (fun h10 => ?_) (fun h10 => ?_)
 ·refine C1 h10 ?_
  refine Bk (cs := [.sc (.int .i64 (-1)), .sc (.int .i64 65536)]) rfl ?_
  refine Bl sq9 fun i11 H s12 => ?_
  refine Dl hcode (by omega) (by omega) rfl s12 A8 (.here) fun z13a iq14 hq14 H mz13 sq14 => ?_
  have s15 := (sq14.pick A8).tail
  obtain ⟨z13, rfl, hz13⟩ := A5 (l := [(-1), 65536]) (lo := -1) (hi := 65536) mz13 (by decide)
  refine Af (o' := 0) rfl ?_
  refine A3 (cs' := [.sc (.int .i64 z13), r3x1, r3x2]) s15 A8 (Ak rfl) rfl (A7 rfl) rfl fun H s16 => ?_
  refine Aj s16 (.here) rfl ?_
  refine A3 (cs' := [.sc (.int .i64 z13), r3x1, r3x2]) s16 Fa (Ad (Aa rfl (Aa lr3x1 (Aa lr3x2 rfl)))) rfl (A7 rfl) rfl fun H s17 => ?_
  refine Aj s17 (.here) rfl ?_
  have e18 : OutB 400 (⟨z13, r3.fFl, r3.fQ⟩ : B5) := by
   apply E1 <;> first | assumption | omega | (unfold C3; omega) | (refine List.forall_mem_append.2 ⟨by assumption, ?_⟩; intro z hz; simp only [List.mem_cons, List.not_mem_nil, or_false] at hz; rcases hz with rfl | rfl <;> (simp only [B9, Dg, Jo, C3]; decide)) | (rw [Fb]; exact Nat.le_trans (Nat.add_le_add_right (Nat.add_le_add_left (by decide : F2 A0 _ ≤ 4) _) _) (by omega))
  exact hk (⟨z13, r3.fFl, r3.fQ⟩ : B5) r3x1 r3x2 iq14 hq14 _ lr3x1 lr3x2 e18 (s17.sel (.cons Cz (.cons Cz (.cons Ci N8))))
 ·refine B3 h10 ?_
  refine Bv ?_
  refine Ai ((decide (z8 = 1))) (fun h19 => ?_) (fun h19 => ?_)
  ·refine C1 h19 ?_
   refine Gc rfl rfl ?_
   refine Acb _ (by omega) code hcode c iq9 hq9   (sq9.pick (.here)) fun r20 r20x iq21 hq21 H lr20x hr20 sq21 => ?_
   obtain ⟨or20, wr20⟩ := hr20
   have gr20 := Kr B4 r20
   refine Af (o' := 2) rfl ?_
   refine A3 (cs' := [.sc (.int .i64 r3.fLast), r3x1, r20x]) sq21 Ci (Ak lr20x) rfl (A7 rfl) rfl fun H s22 => ?_
   refine Aj s22 (.here) rfl ?_
   refine A3 (cs' := [.sc (.int .i64 r3.fLast), r3x1, r20x]) s22 Lf (Ad (Aa rfl (Aa lr3x1 (Aa lr20x rfl)))) rfl (A7 rfl) rfl fun H s23 => ?_
   refine Aj s23 (.here) rfl ?_
   have e24 : OutB 400 (⟨r3.fLast, r3.fFl, r20⟩ : B5) := by
    apply E1 <;> first | assumption | omega | (unfold C3; omega) | (refine List.forall_mem_append.2 ⟨by assumption, ?_⟩; intro z hz; simp only [List.mem_cons, List.not_mem_nil, or_false] at hz; rcases hz with rfl | rfl <;> (simp only [B9, Dg, Jo, C3]; decide)) | (rw [Fb]; exact Nat.le_trans (Nat.add_le_add_right (Nat.add_le_add_left (by decide : F2 A0 _ ≤ 4) _) _) (by omega))
   exact hk (⟨r3.fLast, r3.fFl, r20⟩ : B5) r3x1 r20x iq21 hq21 _ lr3x1 lr20x e24 (s23.sel (.cons Fa (.cons Ci (.cons Ci zS3))))
  ·refine B3 h19 ?_
   refine Bv ?_
   refine Ai ((decide (z8 = 2))) (fun h25 => ?_) (fun h25 => ?_)
   ·refine C1 h25 ?_
    refine Af (o' := 1) rfl ?_
    refine Ay (c := r3x1) sq9 A8 rfl ?_
    refine Ic sq9 Ci ?_
    refine Js ?_
    refine Ai ((decide (0 < ((r3.fFl.length : Nat) : Int)))) (fun h26 => ?_) (fun h26 => ?_)
    ·refine C1 h26 ?_
     refine Af (o' := 1) rfl ?_
     refine Gd.bothE ?_ ?_
     ·refine Ay (c := r3x1) sq9 A8 rfl ?_
      refine Bk (cs := [.sc (.int .i64 0), .sc (.int .i64 1), .sc (.int .i64 2), .sc (.int .i64 65536)]) rfl ?_
      refine Bl sq9 fun i27 H s28 => ?_
      refine Dl hcode (by omega) (by omega) rfl s28 A8 (.here) fun z29a iq30 hq30 H mz29 sq30 => ?_
      have s31 := (sq30.pick A8).tail
      obtain ⟨z29, rfl, hz29⟩ := A5 (l := [0, 1, 2, 65536]) (lo := 0) (hi := 65536) mz29 (by decide)
      obtain ⟨y33, he32⟩ : ∃ y, (r3.fFl)[(0 : Int).toNat]? = some y := ⟨_, List.getElem?_eq_getElem (by first | omega | (simp at *; omega))⟩
      refine Kv (y := y33) (y' := ({ y33 with fId := z29 } : Ao)) (k := 0) (v := (.int .i64 y33.fId)) s31 ⟨_, _, rfl, rfl, rfl, rfl⟩ Ci (by omega) he32 Br (by omega) rfl rfl rfl fun H s34 => ?_
      have he32sy := Mz (p := B9) obr3 he32
      have he32sw := Jh A0 (r3.fFl) (0 : Int).toNat y33 ({ y33 with fId := z29 } : Ao) he32
      have he32sv : A0 ({ y33 with fId := z29 } : Ao) = A0 y33 ∨ A0 ({ y33 with fId := z29 } : Ao) ≤ 102 := by first | exact .inl rfl | (right; show B4 _ + 0 ≤ 102; omega)
      have he32so : B9 ({ y33 with fId := z29 } : Ao) := ⟨by first | exact he32sy.1 | (simp only [C3]; omega), by first | exact he32sy.2.1 | assumption, by first | exact he32sy.2.2 | (simp only [C3]; omega)⟩
      have he32sa := Kg (p := B9) (i := (0 : Int).toNat) obr3 he32so
      refine Aj s34 Ci rfl ?_
      refine A3 (cs' := [.sc (.int .i64 r3.fLast), r3x1, r3x2]) s34 Fa (Ad (Aa rfl (Aa lr3x1 (Aa lr3x2 rfl)))) rfl (A7 rfl) rfl fun H s35 => ?_
      refine Aj s35 (.here) rfl ?_
      have e36 : OutB 400 (⟨r3.fLast, (r3.fFl.set (0 : Int).toNat ({ y33 with fId := z29 } : Ao)), r3.fQ⟩ : B5) := by
       apply E1 <;> first | assumption | omega | (unfold C3; omega) | (refine List.forall_mem_append.2 ⟨by assumption, ?_⟩; intro z hz; simp only [List.mem_cons, List.not_mem_nil, or_false] at hz; rcases hz with rfl | rfl <;> (simp only [B9, Dg, Jo, C3]; decide)) | (rw [Fb]; exact Nat.le_trans (Nat.add_le_add_right (Nat.add_le_add_left (by decide : F2 A0 _ ≤ 4) _) _) (by omega))
      exact hk (⟨r3.fLast, (r3.fFl.set (0 : Int).toNat ({ y33 with fId := z29 } : Ao)), r3.fQ⟩ : B5) r3x1 r3x2 iq30 hq30 _ lr3x1 lr3x2 e36 (s35.sel (.cons A8 (.cons Cz (.cons A8 N8))))
     ·refine Bk (cs := [.sc (.int .i64 0), .sc (.int .i64 1), .sc (.int .i64 2), .sc (.int .i64 65536)]) rfl ?_
      refine Bl sq9 fun i37 H s38 => ?_
      refine Gd.bothE ?_ ?_
      ·refine Ay (c := r3x1) s38 Ci rfl ?_
       refine Dl hcode (by omega) (by omega) rfl s38 A8 (.here) fun z39a iq40 hq40 H mz39 sq40 => ?_
       have s41 := (sq40.pick A8).tail
       obtain ⟨z39, rfl, hz39⟩ := A5 (l := [0, 1, 2, 65536]) (lo := 0) (hi := 65536) mz39 (by decide)
       obtain ⟨y43, he42⟩ : ∃ y, (r3.fFl)[(0 : Int).toNat]? = some y := ⟨_, List.getElem?_eq_getElem (by first | omega | (simp at *; omega))⟩
       refine Kv (y := y43) (y' := ({ y43 with fId := z39 } : Ao)) (k := 0) (v := (.int .i64 y43.fId)) s41 ⟨_, _, rfl, rfl, rfl, rfl⟩ Ci (by omega) he42 Br (by omega) rfl rfl rfl fun H s44 => ?_
       have he42sy := Mz (p := B9) obr3 he42
       have he42sw := Jh A0 (r3.fFl) (0 : Int).toNat y43 ({ y43 with fId := z39 } : Ao) he42
       have he42sv : A0 ({ y43 with fId := z39 } : Ao) = A0 y43 ∨ A0 ({ y43 with fId := z39 } : Ao) ≤ 102 := by first | exact .inl rfl | (right; show B4 _ + 0 ≤ 102; omega)
       have he42so : B9 ({ y43 with fId := z39 } : Ao) := ⟨by first | exact he42sy.1 | (simp only [C3]; omega), by first | exact he42sy.2.1 | assumption, by first | exact he42sy.2.2 | (simp only [C3]; omega)⟩
       have he42sa := Kg (p := B9) (i := (0 : Int).toNat) obr3 he42so
       refine Aj s44 Ci rfl ?_
       refine A3 (cs' := [.sc (.int .i64 r3.fLast), r3x1, r3x2]) s44 Fa (Ad (Aa rfl (Aa lr3x1 (Aa lr3x2 rfl)))) rfl (A7 rfl) rfl fun H s45 => ?_
       refine Aj s45 (.here) rfl ?_
       have e46 : OutB 400 (⟨r3.fLast, (r3.fFl.set (0 : Int).toNat ({ y43 with fId := z39 } : Ao)), r3.fQ⟩ : B5) := by
        apply E1 <;> first | assumption | omega | (unfold C3; omega) | (refine List.forall_mem_append.2 ⟨by assumption, ?_⟩; intro z hz; simp only [List.mem_cons, List.not_mem_nil, or_false] at hz; rcases hz with rfl | rfl <;> (simp only [B9, Dg, Jo, C3]; decide)) | (rw [Fb]; exact Nat.le_trans (Nat.add_le_add_right (Nat.add_le_add_left (by decide : F2 A0 _ ≤ 4) _) _) (by omega))
       exact hk (⟨r3.fLast, (r3.fFl.set (0 : Int).toNat ({ y43 with fId := z39 } : Ao)), r3.fQ⟩ : B5) r3x1 r3x2 iq40 hq40 _ lr3x1 lr3x2 e46 (s45.sel (.cons A8 (.cons Cz (.cons A8 N8))))
      ·refine Dl hcode (by omega) (by omega) rfl s38 A8 (.here) fun z47a iq48 hq48 H mz47 sq48 => ?_
       have s49 := (sq48.pick A8).tail
       obtain ⟨z47, rfl, hz47⟩ := A5 (l := [0, 1, 2, 65536]) (lo := 0) (hi := 65536) mz47 (by decide)
       refine Ay (c := r3x1) s49 A8 rfl ?_
       obtain ⟨y51, he50⟩ : ∃ y, (r3.fFl)[(0 : Int).toNat]? = some y := ⟨_, List.getElem?_eq_getElem (by first | omega | (simp at *; omega))⟩
       refine Kv (y := y51) (y' := ({ y51 with fId := z47 } : Ao)) (k := 0) (v := (.int .i64 y51.fId)) s49 ⟨_, _, rfl, rfl, rfl, rfl⟩ Ci (by omega) he50 Br (by omega) rfl rfl rfl fun H s52 => ?_
       have he50sy := Mz (p := B9) obr3 he50
       have he50sw := Jh A0 (r3.fFl) (0 : Int).toNat y51 ({ y51 with fId := z47 } : Ao) he50
       have he50sv : A0 ({ y51 with fId := z47 } : Ao) = A0 y51 ∨ A0 ({ y51 with fId := z47 } : Ao) ≤ 102 := by first | exact .inl rfl | (right; show B4 _ + 0 ≤ 102; omega)
       have he50so : B9 ({ y51 with fId := z47 } : Ao) := ⟨by first | exact he50sy.1 | (simp only [C3]; omega), by first | exact he50sy.2.1 | assumption, by first | exact he50sy.2.2 | (simp only [C3]; omega)⟩
       have he50sa := Kg (p := B9) (i := (0 : Int).toNat) obr3 he50so
       refine Aj s52 Ci rfl ?_
       refine A3 (cs' := [.sc (.int .i64 r3.fLast), r3x1, r3x2]) s52 Fa (Ad (Aa rfl (Aa lr3x1 (Aa lr3x2 rfl)))) rfl (A7 rfl) rfl fun H s53 => ?_
       refine Aj s53 (.here) rfl ?_
       have e54 : OutB 400 (⟨r3.fLast, (r3.fFl.set (0 : Int).toNat ({ y51 with fId := z47 } : Ao)), r3.fQ⟩ : B5) := by
        apply E1 <;> first | assumption | omega | (unfold C3; omega) | (refine List.forall_mem_append.2 ⟨by assumption, ?_⟩; intro z hz; simp only [List.mem_cons, List.not_mem_nil, or_false] at hz; rcases hz with rfl | rfl <;> (simp only [B9, Dg, Jo, C3]; decide)) | (rw [Fb]; exact Nat.le_trans (Nat.add_le_add_right (Nat.add_le_add_left (by decide : F2 A0 _ ≤ 4) _) _) (by omega))
       exact hk (⟨r3.fLast, (r3.fFl.set (0 : Int).toNat ({ y51 with fId := z47 } : Ao)), r3.fQ⟩ : B5) r3x1 r3x2 iq48 hq48 _ lr3x1 lr3x2 e54 (s53.sel (.cons A8 (.cons Cz (.cons A8 N8))))
    ·refine B3 h26 ?_
     refine Aj sq9 A8 rfl ?_
     refine A3 (cs' := [.sc (.int .i64 r3.fLast), r3x1, r3x2]) sq9 Fa (Ad (Aa rfl (Aa lr3x1 (Aa lr3x2 rfl)))) rfl (A7 rfl) rfl fun H s55 => ?_
     refine Aj s55 (.here) rfl ?_
     have e56 : OutB 400 (r3 : B5) := by
      apply E1 <;> first | assumption | omega | (unfold C3; omega) | (refine List.forall_mem_append.2 ⟨by assumption, ?_⟩; intro z hz; simp only [List.mem_cons, List.not_mem_nil, or_false] at hz; rcases hz with rfl | rfl <;> (simp only [B9, Dg, Jo, C3]; decide)) | (rw [Fb]; exact Nat.le_trans (Nat.add_le_add_right (Nat.add_le_add_left (by decide : F2 A0 _ ≤ 4) _) _) (by omega))
     exact hk (r3 : B5) r3x1 r3x2 iq9 hq9 _ lr3x1 lr3x2 e56 (s55.sel (.cons Cz (.cons Cz (.cons A8 N8))))
   ·refine B3 h25 ?_
    refine Bv ?_
    refine Ai ((decide (z8 = 3))) (fun h57 => ?_) (fun h57 => ?_)
    ·refine C1 h57 ?_
     refine Af (o' := 1) rfl ?_
     refine Ay (c := r3x1) sq9 A8 rfl ?_
     refine Ic sq9 Ci ?_
     refine Js ?_
     refine Ai ((decide (0 < ((r3.fFl.length : Nat) : Int)))) (fun h58 => ?_) (fun h58 => ?_)
     ·refine C1 h58 ?_
      refine Af (o' := 1) rfl ?_
      refine Gd.bothE ?_ ?_
      ·refine Ay (c := r3x1) sq9 A8 rfl ?_
       refine Bk (cs := [.sc (.int .i64 0), .sc (.int .i64 1), .sc (.int .i64 2), .sc (.int .i64 3), .sc (.int .i64 4)]) rfl ?_
       refine Bl sq9 fun i59 H s60 => ?_
       refine Dl hcode (by omega) (by omega) rfl s60 A8 (.here) fun z61a iq62 hq62 H mz61 sq62 => ?_
       have s63 := (sq62.pick A8).tail
       obtain ⟨z61, rfl, hz61⟩ := A5 (l := [0, 1, 2, 3, 4]) (lo := 0) (hi := 4) mz61 (by decide)
       obtain ⟨y65, he64⟩ : ∃ y, (r3.fFl)[(0 : Int).toNat]? = some y := ⟨_, List.getElem?_eq_getElem (by first | omega | (simp at *; omega))⟩
       refine Kv (y := y65) (y' := ({ y65 with fSt := z61 } : Ao)) (k := 5) (v := (.int .i64 y65.fSt)) s63 ⟨_, _, rfl, rfl, rfl, rfl⟩ Ci (by omega) he64 Br (by omega) rfl rfl rfl fun H s66 => ?_
       have he64sy := Mz (p := B9) obr3 he64
       have he64sw := Jh A0 (r3.fFl) (0 : Int).toNat y65 ({ y65 with fSt := z61 } : Ao) he64
       have he64sv : A0 ({ y65 with fSt := z61 } : Ao) = A0 y65 ∨ A0 ({ y65 with fSt := z61 } : Ao) ≤ 102 := by first | exact .inl rfl | (right; show B4 _ + 0 ≤ 102; omega)
       have he64so : B9 ({ y65 with fSt := z61 } : Ao) := ⟨by first | exact he64sy.1 | (simp only [C3]; omega), by first | exact he64sy.2.1 | assumption, by first | exact he64sy.2.2 | (simp only [C3]; omega)⟩
       have he64sa := Kg (p := B9) (i := (0 : Int).toNat) obr3 he64so
       refine Aj s66 Ci rfl ?_
       refine A3 (cs' := [.sc (.int .i64 r3.fLast), r3x1, r3x2]) s66 Fa (Ad (Aa rfl (Aa lr3x1 (Aa lr3x2 rfl)))) rfl (A7 rfl) rfl fun H s67 => ?_
       refine Aj s67 (.here) rfl ?_
       have e68 : OutB 400 (⟨r3.fLast, (r3.fFl.set (0 : Int).toNat ({ y65 with fSt := z61 } : Ao)), r3.fQ⟩ : B5) := by
        apply E1 <;> first | assumption | omega | (unfold C3; omega) | (refine List.forall_mem_append.2 ⟨by assumption, ?_⟩; intro z hz; simp only [List.mem_cons, List.not_mem_nil, or_false] at hz; rcases hz with rfl | rfl <;> (simp only [B9, Dg, Jo, C3]; decide)) | (rw [Fb]; exact Nat.le_trans (Nat.add_le_add_right (Nat.add_le_add_left (by decide : F2 A0 _ ≤ 4) _) _) (by omega))
       exact hk (⟨r3.fLast, (r3.fFl.set (0 : Int).toNat ({ y65 with fSt := z61 } : Ao)), r3.fQ⟩ : B5) r3x1 r3x2 iq62 hq62 _ lr3x1 lr3x2 e68 (s67.sel (.cons A8 (.cons Cz (.cons A8 N8))))
      ·refine Bk (cs := [.sc (.int .i64 0), .sc (.int .i64 1), .sc (.int .i64 2), .sc (.int .i64 3), .sc (.int .i64 4)]) rfl ?_
       refine Bl sq9 fun i69 H s70 => ?_
       refine Gd.bothE ?_ ?_
       ·refine Ay (c := r3x1) s70 Ci rfl ?_
        refine Dl hcode (by omega) (by omega) rfl s70 A8 (.here) fun z71a iq72 hq72 H mz71 sq72 => ?_
        have s73 := (sq72.pick A8).tail
        obtain ⟨z71, rfl, hz71⟩ := A5 (l := [0, 1, 2, 3, 4]) (lo := 0) (hi := 4) mz71 (by decide)
        obtain ⟨y75, he74⟩ : ∃ y, (r3.fFl)[(0 : Int).toNat]? = some y := ⟨_, List.getElem?_eq_getElem (by first | omega | (simp at *; omega))⟩
        refine Kv (y := y75) (y' := ({ y75 with fSt := z71 } : Ao)) (k := 5) (v := (.int .i64 y75.fSt)) s73 ⟨_, _, rfl, rfl, rfl, rfl⟩ Ci (by omega) he74 Br (by omega) rfl rfl rfl fun H s76 => ?_
        have he74sy := Mz (p := B9) obr3 he74
        have he74sw := Jh A0 (r3.fFl) (0 : Int).toNat y75 ({ y75 with fSt := z71 } : Ao) he74
        have he74sv : A0 ({ y75 with fSt := z71 } : Ao) = A0 y75 ∨ A0 ({ y75 with fSt := z71 } : Ao) ≤ 102 := by first | exact .inl rfl | (right; show B4 _ + 0 ≤ 102; omega)
        have he74so : B9 ({ y75 with fSt := z71 } : Ao) := ⟨by first | exact he74sy.1 | (simp only [C3]; omega), by first | exact he74sy.2.1 | assumption, by first | exact he74sy.2.2 | (simp only [C3]; omega)⟩
        have he74sa := Kg (p := B9) (i := (0 : Int).toNat) obr3 he74so
        refine Aj s76 Ci rfl ?_
        refine A3 (cs' := [.sc (.int .i64 r3.fLast), r3x1, r3x2]) s76 Fa (Ad (Aa rfl (Aa lr3x1 (Aa lr3x2 rfl)))) rfl (A7 rfl) rfl fun H s77 => ?_
        refine Aj s77 (.here) rfl ?_
        have e78 : OutB 400 (⟨r3.fLast, (r3.fFl.set (0 : Int).toNat ({ y75 with fSt := z71 } : Ao)), r3.fQ⟩ : B5) := by
         apply E1 <;> first | assumption | omega | (unfold C3; omega) | (refine List.forall_mem_append.2 ⟨by assumption, ?_⟩; intro z hz; simp only [List.mem_cons, List.not_mem_nil, or_false] at hz; rcases hz with rfl | rfl <;> (simp only [B9, Dg, Jo, C3]; decide)) | (rw [Fb]; exact Nat.le_trans (Nat.add_le_add_right (Nat.add_le_add_left (by decide : F2 A0 _ ≤ 4) _) _) (by omega))
        exact hk (⟨r3.fLast, (r3.fFl.set (0 : Int).toNat ({ y75 with fSt := z71 } : Ao)), r3.fQ⟩ : B5) r3x1 r3x2 iq72 hq72 _ lr3x1 lr3x2 e78 (s77.sel (.cons A8 (.cons Cz (.cons A8 N8))))
       ·refine Dl hcode (by omega) (by omega) rfl s70 A8 (.here) fun z79a iq80 hq80 H mz79 sq80 => ?_
        have s81 := (sq80.pick A8).tail
        obtain ⟨z79, rfl, hz79⟩ := A5 (l := [0, 1, 2, 3, 4]) (lo := 0) (hi := 4) mz79 (by decide)
        refine Ay (c := r3x1) s81 A8 rfl ?_
        obtain ⟨y83, he82⟩ : ∃ y, (r3.fFl)[(0 : Int).toNat]? = some y := ⟨_, List.getElem?_eq_getElem (by first | omega | (simp at *; omega))⟩
        refine Kv (y := y83) (y' := ({ y83 with fSt := z79 } : Ao)) (k := 5) (v := (.int .i64 y83.fSt)) s81 ⟨_, _, rfl, rfl, rfl, rfl⟩ Ci (by omega) he82 Br (by omega) rfl rfl rfl fun H s84 => ?_
        have he82sy := Mz (p := B9) obr3 he82
        have he82sw := Jh A0 (r3.fFl) (0 : Int).toNat y83 ({ y83 with fSt := z79 } : Ao) he82
        have he82sv : A0 ({ y83 with fSt := z79 } : Ao) = A0 y83 ∨ A0 ({ y83 with fSt := z79 } : Ao) ≤ 102 := by first | exact .inl rfl | (right; show B4 _ + 0 ≤ 102; omega)
        have he82so : B9 ({ y83 with fSt := z79 } : Ao) := ⟨by first | exact he82sy.1 | (simp only [C3]; omega), by first | exact he82sy.2.1 | assumption, by first | exact he82sy.2.2 | (simp only [C3]; omega)⟩
        have he82sa := Kg (p := B9) (i := (0 : Int).toNat) obr3 he82so
        refine Aj s84 Ci rfl ?_
        refine A3 (cs' := [.sc (.int .i64 r3.fLast), r3x1, r3x2]) s84 Fa (Ad (Aa rfl (Aa lr3x1 (Aa lr3x2 rfl)))) rfl (A7 rfl) rfl fun H s85 => ?_
        refine Aj s85 (.here) rfl ?_
        have e86 : OutB 400 (⟨r3.fLast, (r3.fFl.set (0 : Int).toNat ({ y83 with fSt := z79 } : Ao)), r3.fQ⟩ : B5) := by
         apply E1 <;> first | assumption | omega | (unfold C3; omega) | (refine List.forall_mem_append.2 ⟨by assumption, ?_⟩; intro z hz; simp only [List.mem_cons, List.not_mem_nil, or_false] at hz; rcases hz with rfl | rfl <;> (simp only [B9, Dg, Jo, C3]; decide)) | (rw [Fb]; exact Nat.le_trans (Nat.add_le_add_right (Nat.add_le_add_left (by decide : F2 A0 _ ≤ 4) _) _) (by omega))
        exact hk (⟨r3.fLast, (r3.fFl.set (0 : Int).toNat ({ y83 with fSt := z79 } : Ao)), r3.fQ⟩ : B5) r3x1 r3x2 iq80 hq80 _ lr3x1 lr3x2 e86 (s85.sel (.cons A8 (.cons Cz (.cons A8 N8))))
     ·refine B3 h58 ?_
      refine Aj sq9 A8 rfl ?_
      refine A3 (cs' := [.sc (.int .i64 r3.fLast), r3x1, r3x2]) sq9 Fa (Ad (Aa rfl (Aa lr3x1 (Aa lr3x2 rfl)))) rfl (A7 rfl) rfl fun H s87 => ?_
      refine Aj s87 (.here) rfl ?_
      have e88 : OutB 400 (r3 : B5) := by
       apply E1 <;> first | assumption | omega | (unfold C3; omega) | (refine List.forall_mem_append.2 ⟨by assumption, ?_⟩; intro z hz; simp only [List.mem_cons, List.not_mem_nil, or_false] at hz; rcases hz with rfl | rfl <;> (simp only [B9, Dg, Jo, C3]; decide)) | (rw [Fb]; exact Nat.le_trans (Nat.add_le_add_right (Nat.add_le_add_left (by decide : F2 A0 _ ≤ 4) _) _) (by omega))
      exact hk (r3 : B5) r3x1 r3x2 iq9 hq9 _ lr3x1 lr3x2 e88 (s87.sel (.cons Cz (.cons Cz (.cons A8 N8))))
    ·refine B3 h57 ?_
     refine Bv ?_
     refine Ai ((decide (z8 = 4))) (fun h89 => ?_) (fun h89 => ?_)
     ·refine C1 h89 ?_
      refine Af (o' := 1) rfl ?_
      refine Ay (c := r3x1) sq9 A8 rfl ?_
      refine Ic sq9 Ci ?_
      refine Js ?_
      refine Ai ((decide (0 < ((r3.fFl.length : Nat) : Int)))) (fun h90 => ?_) (fun h90 => ?_)
      ·refine C1 h90 ?_
       refine Af (o' := 1) rfl ?_
       refine Gd.bothE ?_ ?_
       ·refine Ay (c := r3x1) sq9 A8 rfl ?_
        refine Gc rfl rfl ?_
        refine Vk _ (by omega) code hcode c iq9 hq9   (sq9.pick (.here)) fun r91 r91x1 iq92 hq92 H lr91x1 hr91 sq92 => ?_
        obtain ⟨or91, wr91⟩ := hr91
        have ur91 := or91
        have vr91 := wr91
        simp only [Dg, B4, Jo, C3, and_true, true_and] at ur91 vr91
        obtain ⟨y94, he93⟩ : ∃ y, (r3.fFl)[(0 : Int).toNat]? = some y := ⟨_, List.getElem?_eq_getElem (by first | omega | (simp at *; omega))⟩
        refine AcE (y := y94) (y' := ({ y94 with fM := r91 } : Ao)) (k := 1) (v := 4) (cty := F9) sq92 ⟨_, _, rfl, rfl, rfl, rfl⟩ rfl Cz (.sc (.own (.here) (.sc (.sc .nil)))) ⟨trivial, ⟨(AcP r91.fBody), ⟨trivial, ⟨trivial, trivial⟩⟩⟩⟩ (by omega) he93 Br (by omega) (Ad (Aa rfl (Aa lr91x1 (Aa rfl (Aa rfl rfl))))) rfl rfl rfl fun H s95 => ?_
        have he93sy := Mz (p := B9) obr3 he93
        have he93sw := Jh A0 (r3.fFl) (0 : Int).toNat y94 ({ y94 with fM := r91 } : Ao) he93
        have he93sv : A0 ({ y94 with fM := r91 } : Ao) = A0 y94 ∨ A0 ({ y94 with fM := r91 } : Ao) ≤ 102 := by first | exact .inl rfl | (right; show B4 _ + 0 ≤ 102; omega)
        have he93so : B9 ({ y94 with fM := r91 } : Ao) := ⟨by first | exact he93sy.1 | (simp only [C3]; omega), by first | exact he93sy.2.1 | assumption, by first | exact he93sy.2.2 | (simp only [C3]; omega)⟩
        have he93sa := Kg (p := B9) (i := (0 : Int).toNat) obr3 he93so
        refine Aj s95 Ci rfl ?_
        refine A3 (cs' := [.sc (.int .i64 r3.fLast), r3x1, r3x2]) s95 Fa (Ad (Aa rfl (Aa lr3x1 (Aa lr3x2 rfl)))) rfl (A7 rfl) rfl fun H s96 => ?_
        refine Aj s96 (.here) rfl ?_
        have e97 : OutB 400 (⟨r3.fLast, (r3.fFl.set (0 : Int).toNat ({ y94 with fM := r91 } : Ao)), r3.fQ⟩ : B5) := by
         apply E1 <;> first | assumption | omega | (unfold C3; omega) | (refine List.forall_mem_append.2 ⟨by assumption, ?_⟩; intro z hz; simp only [List.mem_cons, List.not_mem_nil, or_false] at hz; rcases hz with rfl | rfl <;> (simp only [B9, Dg, Jo, C3]; decide)) | (rw [Fb]; exact Nat.le_trans (Nat.add_le_add_right (Nat.add_le_add_left (by decide : F2 A0 _ ≤ 4) _) _) (by omega))
        exact hk (⟨r3.fLast, (r3.fFl.set (0 : Int).toNat ({ y94 with fM := r91 } : Ao)), r3.fQ⟩ : B5) r3x1 r3x2 iq92 hq92 _ lr3x1 lr3x2 e97 (s96.sel (.cons A8 (.cons Cz (.cons A8 N8))))
       ·refine Gc rfl rfl ?_
        refine Vk _ (by omega) code hcode c iq9 hq9   (sq9.pick (.here)) fun r98 r98x1 iq99 hq99 H lr98x1 hr98 sq99 => ?_
        obtain ⟨or98, wr98⟩ := hr98
        have ur98 := or98
        have vr98 := wr98
        simp only [Dg, B4, Jo, C3, and_true, true_and] at ur98 vr98
        refine Ay (c := r3x1) sq99 Ci rfl ?_
        obtain ⟨y101, he100⟩ : ∃ y, (r3.fFl)[(0 : Int).toNat]? = some y := ⟨_, List.getElem?_eq_getElem (by first | omega | (simp at *; omega))⟩
        refine AcE (y := y101) (y' := ({ y101 with fM := r98 } : Ao)) (k := 1) (v := 4) (cty := F9) sq99 ⟨_, _, rfl, rfl, rfl, rfl⟩ rfl Cz (.sc (.own (.here) (.sc (.sc .nil)))) ⟨trivial, ⟨(AcP r98.fBody), ⟨trivial, ⟨trivial, trivial⟩⟩⟩⟩ (by omega) he100 Br (by omega) (Ad (Aa rfl (Aa lr98x1 (Aa rfl (Aa rfl rfl))))) rfl rfl rfl fun H s102 => ?_
        have he100sy := Mz (p := B9) obr3 he100
        have he100sw := Jh A0 (r3.fFl) (0 : Int).toNat y101 ({ y101 with fM := r98 } : Ao) he100
        have he100sv : A0 ({ y101 with fM := r98 } : Ao) = A0 y101 ∨ A0 ({ y101 with fM := r98 } : Ao) ≤ 102 := by first | exact .inl rfl | (right; show B4 _ + 0 ≤ 102; omega)
        have he100so : B9 ({ y101 with fM := r98 } : Ao) := ⟨by first | exact he100sy.1 | (simp only [C3]; omega), by first | exact he100sy.2.1 | assumption, by first | exact he100sy.2.2 | (simp only [C3]; omega)⟩
        have he100sa := Kg (p := B9) (i := (0 : Int).toNat) obr3 he100so
        refine Aj s102 Ci rfl ?_
        refine A3 (cs' := [.sc (.int .i64 r3.fLast), r3x1, r3x2]) s102 Fa (Ad (Aa rfl (Aa lr3x1 (Aa lr3x2 rfl)))) rfl (A7 rfl) rfl fun H s103 => ?_
        refine Aj s103 (.here) rfl ?_
        have e104 : OutB 400 (⟨r3.fLast, (r3.fFl.set (0 : Int).toNat ({ y101 with fM := r98 } : Ao)), r3.fQ⟩ : B5) := by
         apply E1 <;> first | assumption | omega | (unfold C3; omega) | (refine List.forall_mem_append.2 ⟨by assumption, ?_⟩; intro z hz; simp only [List.mem_cons, List.not_mem_nil, or_false] at hz; rcases hz with rfl | rfl <;> (simp only [B9, Dg, Jo, C3]; decide)) | (rw [Fb]; exact Nat.le_trans (Nat.add_le_add_right (Nat.add_le_add_left (by decide : F2 A0 _ ≤ 4) _) _) (by omega))
        exact hk (⟨r3.fLast, (r3.fFl.set (0 : Int).toNat ({ y101 with fM := r98 } : Ao)), r3.fQ⟩ : B5) r3x1 r3x2 iq99 hq99 _ lr3x1 lr3x2 e104 (s103.sel (.cons A8 (.cons Cz (.cons A8 N8))))
      ·refine B3 h90 ?_
       refine Aj sq9 A8 rfl ?_
       refine A3 (cs' := [.sc (.int .i64 r3.fLast), r3x1, r3x2]) sq9 Fa (Ad (Aa rfl (Aa lr3x1 (Aa lr3x2 rfl)))) rfl (A7 rfl) rfl fun H s105 => ?_
       refine Aj s105 (.here) rfl ?_
       have e106 : OutB 400 (r3 : B5) := by
        apply E1 <;> first | assumption | omega | (unfold C3; omega) | (refine List.forall_mem_append.2 ⟨by assumption, ?_⟩; intro z hz; simp only [List.mem_cons, List.not_mem_nil, or_false] at hz; rcases hz with rfl | rfl <;> (simp only [B9, Dg, Jo, C3]; decide)) | (rw [Fb]; exact Nat.le_trans (Nat.add_le_add_right (Nat.add_le_add_left (by decide : F2 A0 _ ≤ 4) _) _) (by omega))
       exact hk (r3 : B5) r3x1 r3x2 iq9 hq9 _ lr3x1 lr3x2 e106 (s105.sel (.cons Cz (.cons Cz (.cons A8 N8))))
     ·refine B3 h89 ?_
      refine Bv ?_
      refine Ai ((decide (z8 = 5))) (fun h107 => ?_) (fun h107 => ?_)
      ·refine C1 h107 ?_
       refine Af (o' := 1) rfl ?_
       refine Ay (c := r3x1) sq9 A8 rfl ?_
       refine Bk (cs := [.sc (.string (⟨#[97]⟩)), .nl, .sc (.int .i64 1), .sc (.bool false)]) rfl ?_
       refine Bk (cs := [.sc (.int .i64 9), .sc (.string (⟨#[97]⟩)), .nl, .sc (.int .i64 1), .sc (.bool false), .sc (.int .i64 1)]) rfl ?_
       refine Bk (cs := [.sc (.string (⟨#[97]⟩)), .nl, .sc (.int .i64 2), .sc (.bool false)]) rfl ?_
       refine Bk (cs := [.sc (.int .i64 10), .sc (.string (⟨#[97]⟩)), .nl, .sc (.int .i64 2), .sc (.bool false), .sc (.int .i64 3)]) rfl ?_
       refine Bk (cs := [.sc (.int .i64 9), .sc (.string (⟨#[97]⟩)), .nl, .sc (.int .i64 1), .sc (.bool false), .sc (.int .i64 1), .sc (.int .i64 10), .sc (.string (⟨#[97]⟩)), .nl, .sc (.int .i64 2), .sc (.bool false), .sc (.int .i64 3)]) rfl ?_
       refine Bl sq9 fun i108 H s109 => ?_
       refine AgN (q := [(⟨9, ⟨⟨#[97]⟩, ⟨#[]⟩, 1, false⟩, 1⟩ : Ao), (⟨10, ⟨⟨#[97]⟩, ⟨#[]⟩, 2, false⟩, 3⟩ : Ao)]) (cty := [3, 9, 22, 3, 4, 3]) s109 ⟨_, _, rfl, rfl, rfl, rfl⟩ Cz (Pd (.here) rfl (Aa rfl (Aa rfl (Aa rfl (Aa rfl (Aa rfl (Aa rfl (Aa rfl (Aa rfl (Aa rfl (Aa rfl (Aa rfl (Aa rfl rfl)))))))))))) (.sc (.sc (.nl (.sc (.sc (.sc (.sc (.sc (.nl (.sc (.sc (.sc .nil)))))))))))) ⟨trivial, ⟨trivial, ⟨(Ej ⟨_, _, rfl, rfl⟩), ⟨trivial, ⟨trivial, ⟨trivial, ⟨trivial, ⟨trivial, ⟨(Ej ⟨_, _, rfl, rfl⟩), ⟨trivial, ⟨trivial, ⟨trivial, trivial⟩⟩⟩⟩⟩⟩⟩⟩⟩⟩⟩⟩) ⟨trivial, ⟨trivial, ⟨(Ej ⟨_, _, rfl, rfl⟩), ⟨trivial, ⟨trivial, ⟨trivial, ⟨trivial, ⟨trivial, ⟨(Ej ⟨_, _, rfl, rfl⟩), ⟨trivial, ⟨trivial, ⟨trivial, trivial⟩⟩⟩⟩⟩⟩⟩⟩⟩⟩⟩⟩ (by simp only [List.length_cons, List.length_nil]; omega) fun x110 H lx110 s111 => ?_
       refine Af (o' := 1) rfl ?_
       refine A3 (cs' := [.sc (.int .i64 r3.fLast), x110, r3x2]) s111 Ci (Ak lx110) rfl (A7 rfl) rfl fun H s112 => ?_
       refine Aj s112 (.here) rfl ?_
       refine A3 (cs' := [.sc (.int .i64 r3.fLast), x110, r3x2]) s112 Fa (Ad (Aa rfl (Aa lx110 (Aa lr3x2 rfl)))) rfl (A7 rfl) rfl fun H s113 => ?_
       refine Aj s113 (.here) rfl ?_
       have e114 : OutB 400 (⟨r3.fLast, (r3.fFl ++ [(⟨9, ⟨⟨#[97]⟩, ⟨#[]⟩, 1, false⟩, 1⟩ : Ao), (⟨10, ⟨⟨#[97]⟩, ⟨#[]⟩, 2, false⟩, 3⟩ : Ao)]), r3.fQ⟩ : B5) := by
        apply E1 <;> first | assumption | omega | (unfold C3; omega) | (refine List.forall_mem_append.2 ⟨by assumption, ?_⟩; intro z hz; simp only [List.mem_cons, List.not_mem_nil, or_false] at hz; rcases hz with rfl | rfl <;> (simp only [B9, Dg, Jo, C3]; decide)) | (rw [Fb]; exact Nat.le_trans (Nat.add_le_add_right (Nat.add_le_add_left (by decide : F2 A0 _ ≤ 4) _) _) (by omega))
       exact hk (⟨r3.fLast, (r3.fFl ++ [(⟨9, ⟨⟨#[97]⟩, ⟨#[]⟩, 1, false⟩, 1⟩ : Ao), (⟨10, ⟨⟨#[97]⟩, ⟨#[]⟩, 2, false⟩, 3⟩ : Ao)]), r3.fQ⟩ : B5) x110 r3x2 iq9 hq9 _ lx110 lr3x2 e114 (s113.sel (.cons Ci (.cons Cz (.cons Ci N8))))
      ·refine B3 h107 ?_
       refine Aj sq9 A8 rfl ?_
       refine A3 (cs' := [.sc (.int .i64 r3.fLast), r3x1, r3x2]) sq9 Fa (Ad (Aa rfl (Aa lr3x1 (Aa lr3x2 rfl)))) rfl (A7 rfl) rfl fun H s115 => ?_
       refine Aj s115 (.here) rfl ?_
       have e116 : OutB 400 (r3 : B5) := by
        apply E1 <;> first | assumption | omega | (unfold C3; omega) | (refine List.forall_mem_append.2 ⟨by assumption, ?_⟩; intro z hz; simp only [List.mem_cons, List.not_mem_nil, or_false] at hz; rcases hz with rfl | rfl <;> (simp only [B9, Dg, Jo, C3]; decide)) | (rw [Fb]; exact Nat.le_trans (Nat.add_le_add_right (Nat.add_le_add_left (by decide : F2 A0 _ ≤ 4) _) _) (by omega))
       exact hk (r3 : B5) r3x1 r3x2 iq9 hq9 _ lr3x1 lr3x2 e116 (s115.sel (.cons Cz (.cons Cz (.cons A8 N8))))
end
section
open Go
theorem AgH (x : Int) : (Th x).length = 1 := rfl
theorem AeY {α β : Type} {r : Option β} {w : Nat} {enc : α → List AV} {l pre t : List α} {d : α} {K : AV → Option β} (hw : ∀ x, (enc x).length = w) (h0 : 0 < w) (hp : decide ((pre.length : Int) > 0) = true) (hl : l = pre ++ t) (hlen : l.length ≤ 1048576) (h : K (.rp (enc (pre.getLastD d) ++ (t.map enc).flatten)) = r) : E7 w (Al enc l) (.sc (.int .i64 (IntKind.i64.wrap ((pre.length : Int) - 1)))) (fun t => K t) = r := by
 refine Afr hw h0 hp hl hlen fun y hy => ?_
 rw [show pre.getLastD d = y from by rw [List.getLastD_eq_getLast?, hy]; rfl] at h
 exact h
def AbI (l : List Int) : List Int → List Int → Bool
 | pre, [] => decide ((l.length : Int) ≤ 4)
 | pre, x :: r => (K0 x 1 65535 && !(decide ((pre.length : Int) > 0) && decide ((pre.getLastD 0) ≥ x))) && AbI l (pre ++ [x]) r
theorem Qv (n : Nat) (hn : 1048576 < n) (ty : Nat) (l : List Int) (hlen : l.length ≤ 1048576) : ∀ (r pre : List Int) (m : Nat) (H : Ac), l = pre ++ r → r.length < m → O3 (PR (n + 3) AV) (n + 3) (fun x H => Bc At E0.tp ty H x) m (Al Th l) (.sc (.int .i64 pre.length)) H = some (.sc (.bool (AbI l pre r)))
 | [], pre, m + 1, H, hl, hm => by
  have hlt : decide ((pre.length : Int) < (l.length : Int)) = false := by
   rw [hl]
   simp
  show (PR (n + 3) AV).len _ _ = _
  simp only [De, Cj, Bi, A4, A6, A9, Ep, Er, Ew, Aw, Bx, Ch, Ca, Dx, Cc, Fn, D1, Dj, Bm, Be, Fm, Cy, Eg, E8]
  refine Do ?_
  refine Bf (v := .sc (.bool (decide ((pre.length : Int) < (l.length : Int))))) (fun k => rfl) ?_
  refine Gb hlt ?_
  refine Do ?_
  refine Bf (v := .sc (.bool (decide ((l.length : Int) ≤ 4)))) (fun k => rfl) ?_
  exact Gz (by (try clear ih); (try clear hlt); (try clear hix); (try clear hm); (try clear hmem); (try clear hpl); (try clear hsl); (try clear hlen); (try clear hqn); (try clear hqs); (try clear hs); (try clear B); (try clear B1); (try clear B2); (try clear hl); subst_vars; rw [AbI]; first | done | (cases h1 : K0 x 1 65535 <;> cases h2 : decide ((pre.length : Int) > 0) <;> cases h3 : decide ((pre.getLastD 0) ≥ x) <;> simp [h1, h2, h3] at * <;> first | omega | (simp_all; done) | (simp_all; omega)))
 | x :: r, pre, m + 1, H, hl, hm => by
  have hpl : pre.length < l.length := by rw [hl]; simp
  have hlt : decide ((pre.length : Int) < (l.length : Int)) = true := by simpa using hpl
  have hmem : x ∈ l := by rw [hl]; simp
  have hix : IntKind.i64.wrap ((pre.length : Int) + 1) = (((pre ++ [x]).length : Nat) : Int) := by
   rw [Fe _ (by omega) (by omega), List.length_append, List.length_singleton]
   rfl
  show (PR (n + 3) AV).len _ _ = _
  simp only [De, Cj, Bi, A4, A6, A9, Ep, Er, Ew, Aw, Bx, Ch, Ca, Dx, Cc, Fn, D1, Dj, Bm, Be, Fm, Cy, Eg, E8]
  refine Do ?_
  refine Bf (v := .sc (.bool (decide ((pre.length : Int) < (l.length : Int))))) (fun k => rfl) ?_
  refine Fo hlt ?_
  refine Jg AgH (by decide) hl ?_
  refine Jd (c := .sc (.int .i64 x)) rfl ?_
  refine F5 rfl (Cl (Ed _ _) (Cl (Ed _ _) (Cl (Ed _ _) E6))) (Mw (n + 2) _ x 1 65535) ?_
  refine Ii ?_
  apply B7 ((!(K0 x 1 65535)) || ((decide ((pre.length : Int) > 0)) && (decide ((pre.getLastD 0) ≥ x))))
  ·intro b1 q1
   refine Ai ((K0 x 1 65535)) (fun h1 => ?_) (fun h1 => ?_)
   ·refine Dm (nF h1) ?_
    refine Dm (nF h1) ?_
    refine Bf (v := .sc (.bool (decide ((pre.length : Int) > 0)))) (fun k => rfl) ?_
    refine Dm (nF h1) ?_
    apply B7 ((decide ((pre.length : Int) > 0)) && (decide ((pre.getLastD 0) ≥ x)))
    ·intro b2 q2
     refine Ai ((decide ((pre.length : Int) > 0))) (fun h2 => ?_) (fun h2 => ?_)
     ·refine Bb h2 ?_
      refine Bb h2 ?_
      refine Bb h2 ?_
      refine Bf (v := .sc (.int .i64 (IntKind.i64.wrap ((pre.length : Int) - 1)))) (fun k => rfl) ?_
      refine Bb h2 ?_
      refine AeY (d := 0) AgH (by decide) h2 hl hlen ?_
      refine Bb h2 ?_
      refine Jd (c := .sc (.int .i64 (pre.getLastD 0))) rfl ?_
      refine Bb h2 ?_
      refine Bb h2 ?_
      refine Bb h2 ?_
      refine Jg AgH (by decide) hl ?_
      refine Bb h2 ?_
      refine Jd (c := .sc (.int .i64 x)) rfl ?_
      refine Bb h2 ?_
      refine Bf (v := .sc (.bool (decide ((pre.getLastD 0) ≥ x)))) (fun k => rfl) ?_
      refine Dm (nF h1) ?_
      refine Dh h2 (Ke q2 h2) ?_
      exact rfl
     ·refine Bd h2 ?_
      refine Bd h2 ?_
      refine Bd h2 ?_
      refine Bd h2 ?_
      refine Bd h2 ?_
      refine Bd h2 ?_
      refine Bd h2 ?_
      refine Bd h2 ?_
      refine Bd h2 ?_
      refine Bd h2 ?_
      refine Dm (nF h1) ?_
      refine Df h2 (Ko q2 h2) ?_
      exact rfl
    intro b2 q2
    refine Df (nF h1) (by subst q2; exact mOF q1 (nF h1)) ?_
    exact rfl
   ·refine Du (nT h1) ?_
    refine Du (nT h1) ?_
    refine Du (nT h1) ?_
    refine Tz ?_
    refine Tz ?_
    refine Tz ?_
    refine Tz ?_
    refine Tz ?_
    refine Tz ?_
    refine Tz ?_
    refine Tz ?_
    refine Tz ?_
    refine Tz ?_
    refine Du (nT h1) ?_
    refine Dh (nT h1) (mOT q1 (nT h1)) ?_
    exact rfl
  intro b1 q1
  refine Ai (b1) (fun h3 => ?_) (fun h3 => ?_)
  ·refine Fo h3 ?_
   exact Gz (by (try clear ih); (try clear hlt); (try clear hix); (try clear hm); (try clear hmem); (try clear hpl); (try clear hsl); (try clear hlen); (try clear hqn); (try clear hqs); (try clear hs); (try clear B); (try clear B1); (try clear B2); (try clear hl); subst_vars; rw [AbI]; first | done | (cases h1 : K0 x 1 65535 <;> cases h2 : decide ((pre.length : Int) > 0) <;> cases h3 : decide ((pre.getLastD 0) ≥ x) <;> simp [h1, h2, h3] at * <;> first | omega | (simp_all; done) | (simp_all; omega)))
  ·refine Gb h3 ?_
   refine Bf (v := .sc (.int .i64 (IntKind.i64.wrap ((pre.length : Int) + 1)))) (fun k => rfl) ?_
   rw [hix]
   refine (Qv n hn ty l hlen r (pre ++ [x]) m _  (by rw [hl]; simp) (by simpa using hm)).trans (congrArg (fun b => some (AV.sc (Value.bool b))) ?_)
   (try clear ih); (try clear hlt); (try clear hix); (try clear hm); (try clear hmem); (try clear hpl); (try clear hsl); (try clear hlen); (try clear hqn); (try clear hqs); (try clear hs); (try clear B); (try clear B1); (try clear B2); (try clear hl); subst_vars; rw [AbI]; first | done | (cases h1 : K0 x 1 65535 <;> cases h2 : decide ((pre.length : Int) > 0) <;> cases h3 : decide ((pre.getLastD 0) ≥ x) <;> simp [h1, h2, h3] at * <;> first | omega | (simp_all; done) | (simp_all; omega))
def V8 (l : List Int) : Bool := AbI l [] l
theorem Aem (n : Nat) (hn : 1048576 < n) (ty : Nat) (l : List Int) (hlen : l.length ≤ 1048576) : Di E0 (n + 4) ty 156 [Dn l] = some (.sc (.bool (V8 l))) := by
 rw [Bu, Aft, f156, La]
 exact Qv n hn ty l hlen l [] (n + 3) [] rfl (by omega)
def Yj (clean : Bool) (conn gen : Int) : Bool := if conn == -1 then (!clean && gen == 0) else (K0 conn 0 3 && decide (gen ≥ 0))
def AdQ (s : ByteArray) : Bool := G1 s && !(s.toList == (⟨#[]⟩ : ByteArray).toList)
def Jj (s : Cs) : Bool := AdQ s.fClient && decide (s.fBorn ≥ 0) && Yj s.fClean s.fConn s.fGen && Hm s.fO && V8 s.fIn
theorem Lj (s : Cs) (b0 : I9 s ≤ 1048576) : s.fClient.size ≤ 1048576 ∧ Fi s.fO ≤ 1048576 ∧ s.fIn.length ≤ 1048576 := by
 unfold I9 at b0
 omega
theorem Qb (n : Nat) (hn : 1048576 < n) (ty : Nat) (s : Cs) (hs : s.fClient.size ≤ 1048576) (hwo : Fi s.fO ≤ 1048576) (hin : s.fIn.length ≤ 1048576) : Di E0 (n + 11) ty 136 [.agg (A2 s)] = some (.sc (.bool (Jj s))) := by
 rw [Bu, Af9, f136]
 try simp only [De, Cj, Bi, A4, A6, A9, Ep, Er, Ew, Aw, Bx, Ch, Ca, Dx, Cc, Fn, D1, Dj, Bm, Be, Fm, Cy, Eg, E8]
 refine Qu (Gr _) fun iB1 eB1 B1 => ?_
 refine Ap ?_
 refine Ce (c := .sc (.int .i64 s.fConn)) B1 (A7 rfl) rfl ?_
 refine Bf (v := .sc (.bool (s.fConn == (-1)))) (fun k => rfl) ?_
 apply B7 ((s.fConn == (-1)) && (s.fClean || (s.fGen != 0)))
 ·intro b2 q2
  refine Ai ((s.fConn == (-1))) (fun h2 => ?_) (fun h2 => ?_)
  ·refine Bb h2 ?_
   refine Ap ?_
   refine Bb h2 ?_
   refine Ce (c := .sc (.bool s.fClean)) B1 (A7 rfl) rfl ?_
   refine Bb h2 ?_
   apply B7 (s.fClean || (s.fGen != 0))
   ·intro b3 q3
    refine Ai (s.fClean) (fun h3 => ?_) (fun h3 => ?_)
    ·refine Du h3 ?_
     refine Du h3 ?_
     refine Du h3 ?_
     refine Bb h2 ?_
     refine Dh h3 (mOT q3 h3) ?_
     exact rfl
    ·refine Dm h3 ?_
     refine Ap ?_
     refine Dm h3 ?_
     refine Ce (c := .sc (.int .i64 s.fGen)) B1 (A7 rfl) rfl ?_
     refine Dm h3 ?_
     refine Bf (v := .sc (.bool (s.fGen != 0))) (fun k => rfl) ?_
     refine Bb h2 ?_
     refine Df h3 (mOF q3 h3) ?_
     exact rfl
   intro b3 q3
   refine Dh h2 (by subst q3; exact Ke q2 h2) ?_
   exact rfl
  ·refine Bd h2 ?_
   refine Bd h2 ?_
   refine Bd h2 ?_
   refine Tz ?_
   refine Tz ?_
   refine Tz ?_
   refine Bd h2 ?_
   refine Df h2 (Ko q2 h2) ?_
   exact rfl
 intro b2 q2
 refine Ai (b2) (fun h4 => ?_) (fun h4 => ?_)
 ·refine Fo h4 ?_
  exact Gz (by (try clear B1); (try clear hs); (try clear hwo); (try clear hin); subst_vars; unfold Jj AdQ Yj K0; generalize Hm s.fO = o1 at *; generalize V8 s.fIn = o2 at *; generalize G1 s.fClient = o3 at *; generalize (s.fClient.toList == (⟨#[]⟩ : ByteArray).toList) = o4 at *; generalize s.fClean = cl at *; generalize s.fConn = c at *; generalize s.fGen = g at *; generalize s.fBorn = bo at *; cases o1 <;> cases o2 <;> cases o3 <;> cases o4 <;> cases cl <;> (try simp) <;> (try simp at *) <;> first | done | omega | (rw [Bool.eq_iff_iff]; simp; omega) | (simp_all; omega) | (by_cases hc : c = -1 <;> simp [hc] at h4 ⊢ <;> first | done | (intros; omega) | (rw [Bool.eq_iff_iff]; simp; omega) | (simp_all; done) | (simp_all; omega)))
 ·refine Gb h4 ?_
  refine Ap ?_
  refine Ce (c := .sc (.string s.fClient)) B1 (A7 rfl) rfl ?_
  refine F5 rfl (Cl (Ed _ _) E6) (Uo (n + 6) (by omega) _ s.fClient) ?_
  apply B7 ((G1 s.fClient) && (!(s.fClient.toList == (⟨#[]⟩ : ByteArray).toList)))
  ·intro b5 q5
   refine Ai ((G1 s.fClient)) (fun h5 => ?_) (fun h5 => ?_)
   ·refine Bb h5 ?_
    refine Ap ?_
    refine Bb h5 ?_
    refine Ce (c := .sc (.string s.fClient)) B1 (A7 rfl) rfl ?_
    refine Bb h5 ?_
    refine Bf (v := .sc (.bool (!(s.fClient.toList == (⟨#[]⟩ : ByteArray).toList)))) (fun k => rfl) ?_
    refine Dh h5 (Ke q5 h5) ?_
    exact rfl
   ·refine Bd h5 ?_
    refine Bd h5 ?_
    refine Bd h5 ?_
    refine Df h5 (Ko q5 h5) ?_
    exact rfl
  intro b5 q5
  apply B7 (b5 && (decide (s.fBorn ≥ 0)))
  ·intro b6 q6
   refine Ai (b5) (fun h6 => ?_) (fun h6 => ?_)
   ·refine Bb h6 ?_
    refine Ap ?_
    refine Bb h6 ?_
    refine Ce (c := .sc (.int .i64 s.fBorn)) B1 (A7 rfl) rfl ?_
    refine Bb h6 ?_
    refine Bf (v := .sc (.bool (decide (s.fBorn ≥ 0)))) (fun k => rfl) ?_
    refine Dh h6 (Ke q6 h6) ?_
    exact rfl
   ·refine Bd h6 ?_
    refine Bd h6 ?_
    refine Bd h6 ?_
    refine Df h6 (Ko q6 h6) ?_
    exact rfl
  intro b6 q6
  apply B7 (b6 && (K0 s.fConn (-1) 3))
  ·intro b7 q7
   refine Ai (b6) (fun h7 => ?_) (fun h7 => ?_)
   ·refine Bb h7 ?_
    refine Ap ?_
    refine Bb h7 ?_
    refine Ce (c := .sc (.int .i64 s.fConn)) B1 (A7 rfl) rfl ?_
    refine Bb h7 ?_
    refine F5 rfl (Cl (Ed _ _) (Cl (Ed _ _) (Cl (Ed _ _) E6))) (Mw (n + 9) _ s.fConn (-1) 3) ?_
    refine Dh h7 (Ke q7 h7) ?_
    exact rfl
   ·refine Bd h7 ?_
    refine Bd h7 ?_
    refine Bd h7 ?_
    refine Df h7 (Ko q7 h7) ?_
    exact rfl
  intro b7 q7
  apply B7 (b7 && (decide (s.fGen ≥ 0)))
  ·intro b8 q8
   refine Ai (b7) (fun h8 => ?_) (fun h8 => ?_)
   ·refine Bb h8 ?_
    refine Ap ?_
    refine Bb h8 ?_
    refine Ce (c := .sc (.int .i64 s.fGen)) B1 (A7 rfl) rfl ?_
    refine Bb h8 ?_
    refine Bf (v := .sc (.bool (decide (s.fGen ≥ 0)))) (fun k => rfl) ?_
    refine Dh h8 (Ke q8 h8) ?_
    exact rfl
   ·refine Bd h8 ?_
    refine Bd h8 ?_
    refine Bd h8 ?_
    refine Df h8 (Ko q8 h8) ?_
    exact rfl
  intro b8 q8
  apply B7 (b8 && (Hm s.fO))
  ·intro b9 q9
   refine Ai (b8) (fun h9 => ?_) (fun h9 => ?_)
   ·refine Bb h9 ?_
    refine Ap ?_
    refine Bb h9 ?_
    refine F0 (ds := Bg s.fO) B1 (A7 rfl) rfl ?_
    refine Bb h9 ?_
    refine F5 rfl (Cl (F7 _ (H5 _)) E6) (O7 (n + 0) (by omega) _ s.fO hwo) ?_
    refine Dh h9 (Ke q9 h9) ?_
    exact rfl
   ·refine Bd h9 ?_
    refine Bd h9 ?_
    refine Bd h9 ?_
    refine Df h9 (Ko q9 h9) ?_
    exact rfl
  intro b9 q9
  apply B7 (b9 && (V8 s.fIn))
  ·intro b10 q10
   refine Ai (b9) (fun h10 => ?_) (fun h10 => ?_)
   ·refine Bb h10 ?_
    refine Ap ?_
    refine Bb h10 ?_
    refine Ce (c := Dn s.fIn) B1 (A7 rfl) rfl ?_
    refine Bb h10 ?_
    refine F5 rfl (Cl (Ik _ _ _) E6) (Aem (n + 6) (by omega) _ s.fIn hin) ?_
    refine Dh h10 (Ke q10 h10) ?_
    exact rfl
   ·refine Bd h10 ?_
    refine Bd h10 ?_
    refine Bd h10 ?_
    refine Df h10 (Ko q10 h10) ?_
    exact rfl
  intro b10 q10
  exact Gz (by (try clear B1); (try clear hs); (try clear hwo); (try clear hin); subst_vars; unfold Jj AdQ Yj K0; generalize Hm s.fO = o1 at *; generalize V8 s.fIn = o2 at *; generalize G1 s.fClient = o3 at *; generalize (s.fClient.toList == (⟨#[]⟩ : ByteArray).toList) = o4 at *; generalize s.fClean = cl at *; generalize s.fConn = c at *; generalize s.fGen = g at *; generalize s.fBorn = bo at *; cases o1 <;> cases o2 <;> cases o3 <;> cases o4 <;> cases cl <;> (try simp) <;> (try simp at *) <;> first | done | omega | (rw [Bool.eq_iff_iff]; simp; omega) | (simp_all; omega) | (by_cases hc : c = -1 <;> simp [hc] at h4 ⊢ <;> first | done | (intros; omega) | (rw [Bool.eq_iff_iff]; simp; omega) | (simp_all; done) | (simp_all; omega)))
end
section
open Go
variable {β : Type} {n : Nat} {r : Option β}
def iv (l : List Int) : List Value := l.map fun z => .int .i64 z
theorem Rz (l : List Int) : (l.map fun z => AV.sc (.int .i64 z)) = (iv l).map AV.sc := by rw [iv, List.map_map]; rfl
theorem Xh (l : List Int) (hs : l.length ≤ 1048576) (H : Ac) (K : KO β) : Hh 1 8 .nl (Dn l) H K = K (.sl H.length 0 l.length 1) (H ++ [⟨l.map fun z => .sc (.int .i64 z), true, true⟩]) := by
 have e1 : C5 H 1 (Dn l) = some (l.map fun z => .sc (.int .i64 z)) := by
  show (if (l.map fun z => AV.sc (.int .i64 z)).length = l.length * 1 then some (l.map fun z => AV.sc (.int .i64 z)) else none) = _
  rw [if_pos (by simp)]
 have e2 : C5 H 1 .nl = some [] := rfl
 have e3 : G2 (Dn l) = some l.length := rfl
 simp only [Hh, G2, e1, e2, Mn, Option.bind_some, e3]
 rw [if_pos (by omega), if_pos (by simp [Aq, Mf])]
 simp only [Fj, Nat.zero_add, List.nil_append]
theorem Vv {H : Ac} {id d : Nat} {l : List Int} (h : H[id]? = some ⟨l.map fun z => .sc (.int .i64 z), true, true⟩) : B6 At E0.tp H (d + 2) 53 (.sl id 0 l.length 1) = some (Dn l, [id]) := by
 rw [Fz]
 have ha : Fx H id = true := by simp only [Fx, h]
 have hr : Ba H id 0 (l.length * 1) = some (l.map fun z => .sc (.int .i64 z)) := by
  simp only [Ba, h, if_true, Nat.zero_add, Nat.mul_one, List.length_map, Nat.le_refl, List.drop_zero]
  congr 1
  exact List.take_of_length_le (by simp)
 obtain ⟨i, j, h1, h2, h3, h4⟩ := Rx
 simp only [h1, h2, Option.bind_some, h3, if_true, ha, hr]
 have ho := U8 (ti := At) (tp := E0.tp) (H := H) (d := d) (List.replicate l.length j.cty).flatten (iv l) (by simp [iv, h4])
 rw [Rz, ho, Option.bind_some, ← Rz]
theorem Ab5 (N : Nat) (l : List Int) : Bo At E0.tp N 53 (Dn l) = (.sl N 0 l.length 1, [⟨l.map fun z => .sc (.int .i64 z), true, true⟩]) := by
 obtain ⟨i, j, h1, h2, h3, h4⟩ := Rx
 show Bo At E0.tp N 53 (.ro l.length (l.map fun z => .sc (.int .i64 z))) = _
 simp only [Bo, h1, Option.bind_some, h2, Option.getD_some, h3, Rz, Pj]
theorem Acr (n : Nat) (l : List Int) (hs : l.length ≤ 1048576) : Di E0 (n + 1) 53 109 [Dn l] = some (Dn l) := by
 rw [Bu, Af5, f109]
 simp only [Cy]
 rw [Xh l hs, Bc, Vv (d := 6) (l := l) rfl]
 rfl
def Q9 (s : Cs) : Prop := M4 s.fO ∧ s.fIn.length ≤ 1048576
theorem Wn {H : Ac} {s : Cs} {ys : List AV} {N1 N2 m : Nat} (h1 : Cm (B6 At E0.tp H 7) Gp ys = some (Bg s.fO, List.range' N1 m)) (hl : ys.length = 3) (h2 : H[N2]? = some ⟨s.fIn.map fun z => .sc (.int .i64 z), true, true⟩) (hd : N1 + m ≤ N2) :
  Bc At E0.tp 117 H (.agg ([.sc (.string s.fClient), .sc (.int .i64 s.fBorn), .sc (.bool s.fClean), .sc (.int .i64 s.fConn), .sc (.int .i64 s.fGen)] ++ (ys ++ [.sl N2 0 s.fIn.length 1]))) = some (.agg (A2 s)) := by
 obtain ⟨i, hi, hc⟩ := Uu
 have h3 := Vv (d := 5) h2
 have e1 : Cm (B6 At E0.tp H 7) [53] [.sl N2 0 s.fIn.length 1] = some ([Dn s.fIn], [N2]) := by
  simp only [Cm, h3, Option.bind_some, List.append_nil]
 have e2 := Gi h1 e1
 have e3 : Cm (B6 At E0.tp H 7) [9, 3, 4, 3, 3] [.sc (.string s.fClient), .sc (.int .i64 s.fBorn), .sc (.bool s.fClean), .sc (.int .i64 s.fConn), .sc (.int .i64 s.fGen)] = some ([.sc (.string s.fClient), .sc (.int .i64 s.fBorn), .sc (.bool s.fClean), .sc (.int .i64 s.fConn), .sc (.int .i64 s.fGen)], []) := by
  simp only [Cm, Gt, Option.bind_some, List.append_nil]
 have e4 := Gi e3 e2
 have hcy : Lm = [9, 3, 4, 3, 3] ++ (Gp ++ [53]) := rfl
 rw [Bc, D4, hi, Option.bind_some, hc, hcy, e4]
 simp only [Option.bind_some, List.nil_append]
 rw [if_pos]
 ·rfl
 ·rw [List.nodup_append]
  refine ⟨List.nodup_range', by simp, fun a ha b hb => ?_⟩
  rw [List.mem_range'_1] at ha
  rw [List.mem_singleton] at hb
  omega
theorem ys3 {ys : List AV} (h : ys.length = 3) : ∃ a b c, ys = [a, b, c] := by
 match ys, h with
 | [a, b, c], _ => exact ⟨a, b, c, rfl⟩
theorem AbA (n : Nat) (hn : 1048576 < n) (s : Cs) (hs : Q9 s) : Di E0 (n + 5) 117 66 [.agg (A2 s)] = some (.agg (A2 s)) := by
 rw [Bu, Ahv, f66]
 simp only [De, Cj, Bi, A4, A6, Ie]
 rw [I5 _ _ _ (Gr s)]
 simp only [List.length_nil, List.nil_append, List.length_cons, Nat.zero_add]
 have hz : ([⟨[.sc (.string ⟨#[]⟩), .sc (.int .i64 0), .sc (.bool false), .sc (.int .i64 0), .sc (.int .i64 0), .sc (.int .i64 0), .nl, .nl, .nl], true, true⟩] : Ac) = [⟨Ga, true, true⟩] := rfl
 rw [hz]
 have hH : ([⟨A2 s, true, true⟩] ++ [⟨Ga, true, true⟩] : Ac)[0]? = some ⟨A2 s, true, true⟩ := rfl
 refine Ap ?_
 refine F0 (ds := Bg s.fO) hH (A7 rfl) rfl ?_
 refine Ap ?_
 refine Ce (c := Dn s.fIn) hH (A7 rfl) rfl ?_
 rw [El (vs := [.agg (Bg s.fO)]) rfl (Cl (F7 _ (H5 _)) E6) (AcL n hn s.fO hs.1)]
 obtain ⟨i, hi, hc⟩ := Wq
 rw [Fq, hi, Option.getD_some, hc]
 simp only
 generalize hB : Bw At E0.tp ([⟨A2 s, true, true⟩] ++ [⟨Ga, true, true⟩] : Ac).length Gp (Bg s.fO) = B
 have hBl : B.1.length = 3 := by rw [← hB, In]; rfl
 have hBf : B.1.all Aq = true := by rw [← hB]; exact Iq _ _ _ (H5 _)
 refine Ap ?_
 rw [El (vs := [Dn s.fIn]) rfl (Cl (Ik _ _ _) E6) (Acr (n + 3) s.fIn hs.2), Ab5]
 simp only
 have hN : ([⟨A2 s, true, true⟩] ++ [⟨Ga, true, true⟩] ++ B.2 : Ac).length = 2 + B.2.length := by simp; omega
 rw [hN]
 obtain ⟨a, b, c, habc⟩ := ys3 hBl
 have hBc : Cx (.agg B.1) = some [a, b, c] := by
  show (if _ then _ else none) = _
  rw [if_pos hBf, habc]
 rw [En 3 0 (0 + 5) (.agg B.1) ⟨A2 s, true, true⟩ [a, b, c] _ _ rfl hBc rfl (A7 rfl) rfl]
 refine Ap ?_
 rw [En 1 0 (0 + 8) (.sl (2 + B.2.length) 0 s.fIn.length 1) ⟨Cg (A2 s) (0 + 5) [a, b, c], true, true⟩ [.sl (2 + B.2.length) 0 s.fIn.length 1] _ _ rfl rfl rfl (A7 rfl) rfl]
 refine F0 (ds := [.sc (.string s.fClient), .sc (.int .i64 s.fBorn), .sc (.bool s.fClean), .sc (.int .i64 s.fConn), .sc (.int .i64 s.fGen), a, b, c, .sl (2 + B.2.length) 0 s.fIn.length 1]) (cs := [.sc (.string s.fClient), .sc (.int .i64 s.fBorn), .sc (.bool s.fClean), .sc (.int .i64 s.fConn), .sc (.int .i64 s.fGen), a, b, c, .sl (2 + B.2.length) 0 s.fIn.length 1]) rfl (A7 rfl) rfl ?_
 have hlf : [AV.sc (.string s.fClient), .sc (.int .i64 s.fBorn), .sc (.bool s.fClean), .sc (.int .i64 s.fConn), .sc (.int .i64 s.fGen), a, b, c, .sl (2 + B.2.length) 0 s.fIn.length 1].all Aq = true := by
  rw [habc] at hBf
  simp only [List.all_cons, List.all_nil, Bool.and_true, Bool.and_eq_true] at hBf
  simp [Aq, Mf] at hBf ⊢
  exact hBf
 have hcc : Cx (.agg [.sc (.string s.fClient), .sc (.int .i64 s.fBorn), .sc (.bool s.fClean), .sc (.int .i64 s.fConn), .sc (.int .i64 s.fGen), a, b, c, .sl (2 + B.2.length) 0 s.fIn.length 1]) = some [.sc (.string s.fClient), .sc (.int .i64 s.fBorn), .sc (.bool s.fClean), .sc (.int .i64 s.fConn), .sc (.int .i64 s.fGen), a, b, c, .sl (2 + B.2.length) 0 s.fIn.length 1] := by
  show (if _ then _ else none) = _
  rw [if_pos hlf]
 rw [En 9 1 0 _ ⟨Ga, true, true⟩ _ _ _ rfl hcc rfl (by decide) rfl]
 refine F0 (ds := [.sc (.string s.fClient), .sc (.int .i64 s.fBorn), .sc (.bool s.fClean), .sc (.int .i64 s.fConn), .sc (.int .i64 s.fGen), a, b, c, .sl (2 + B.2.length) 0 s.fIn.length 1]) (cs := [.sc (.string s.fClient), .sc (.int .i64 s.fBorn), .sc (.bool s.fClean), .sc (.int .i64 s.fConn), .sc (.int .i64 s.fGen), a, b, c, .sl (2 + B.2.length) 0 s.fIn.length 1]) rfl (A7 rfl) rfl ?_
 have lB : ∀ (b0 b1 : Gl) (X : List Gl), Cm (B6 At E0.tp (b0 :: b1 :: (B.2 ++ X)) 7) Gp B.1 = some (Bg s.fO, List.range' 2 B.2.length) := by
  intro b0 b1 X
  have := Il (H := b0 :: b1 :: (B.2 ++ X)) (fun ty t N h h' _ => F1 7 ty t N h h') Gp (Bg s.fO) 2 (Xv 4 s.fO) (by
   rw [show Bw At E0.tp 2 Gp (Bg s.fO) = B from hB]
   exact Km [b0, b1] B.2 X) (E4 _ _ _)
  rw [show Bw At E0.tp 2 Gp (Bg s.fO) = B from hB] at this
  exact this
 have key := fun (b0 b1 : Gl) => Wn (H := b0 :: b1 :: (B.2 ++ [⟨s.fIn.map fun z => .sc (.int .i64 z), true, true⟩])) (N2 := 2 + B.2.length) (lB b0 b1 _) hBl (by
  have := Hq (b0 :: b1 :: B.2) ⟨s.fIn.map fun z => .sc (.int .i64 z), true, true⟩ []
  rw [List.length_cons, List.length_cons, show B.2.length + 1 + 1 = 2 + B.2.length by omega] at this
  exact this) (Nat.le_refl _)
 rw [habc] at key
 have hfin := key ⟨[.sc (.string s.fClient), .sc (.int .i64 s.fBorn), .sc (.bool s.fClean), .sc (.int .i64 s.fConn), .sc (.int .i64 s.fGen), a, b, c, .sl (2 + B.2.length) 0 s.fIn.length 1], true, true⟩ ⟨[.sc (.string s.fClient), .sc (.int .i64 s.fBorn), .sc (.bool s.fClean), .sc (.int .i64 s.fConn), .sc (.int .i64 s.fGen), a, b, c, .sl (2 + B.2.length) 0 s.fIn.length 1], true, true⟩
 exact hfin
theorem Jw (n : Nat) (hn : 1048576 < n) (s : Cs) (hs : Q9 s) : Di E0 (n + 5) 117 138 [.agg (A2 s)] = some (.agg (A2 s)) := by
 rw [Bu, Afy, f138]
 simp only [De, Cj, Bi, A4, A6, Cy, Ie]
 rw [I5 _ _ _ (Gr s)]
 simp only [List.length_nil, List.nil_append, List.length_cons, Nat.zero_add]
 have hz : ([⟨[.sc (.string ⟨#[]⟩), .sc (.int .i64 0), .sc (.bool false), .sc (.int .i64 0), .sc (.int .i64 0), .sc (.int .i64 0), .nl, .nl, .nl], true, true⟩] : Ac) = [⟨Ga, true, true⟩] := rfl
 rw [hz]
 have hH : ([⟨A2 s, true, true⟩] ++ [⟨Ga, true, true⟩] : Ac)[0]? = some ⟨A2 s, true, true⟩ := rfl
 refine F0 (ds := A2 s) hH (A7 rfl) rfl ?_
 rw [show ([⟨A2 s, true, true⟩] ++ [⟨Ga, true, true⟩] : Ac).length = 2 from rfl]
 rw [En 9 2 0 (.agg (A2 s)) ⟨Ga, true, true⟩ (A2 s) _ _ rfl (S6 (Gr s)) rfl (by decide) rfl]
 have hH2 : ([⟨A2 s, true, true⟩] ++ [⟨Ga, true, true⟩] ++ [⟨Ga, true, true⟩] : Ac).set 2 ⟨Cg Ga 0 (A2 s), true, true⟩ = [⟨A2 s, true, true⟩, ⟨Ga, true, true⟩, ⟨A2 s, true, true⟩] := rfl
 simp only [hH2]
 refine Ap ?_
 refine F0 (ds := Bg s.fO) (cs := A2 s) rfl (A7 rfl) rfl ?_
 rw [El (vs := [.agg (Bg s.fO)]) rfl (Cl (F7 _ (H5 _)) E6) (Ot n hn s.fO hs.1)]
 obtain ⟨i, hi, hc⟩ := Wq
 rw [Fq, hi, Option.getD_some, hc]
 simp only
 generalize hB : Bw At E0.tp ([⟨A2 s, true, true⟩, ⟨Ga, true, true⟩, ⟨A2 s, true, true⟩] : Ac).length Gp (Bg s.fO) = B
 have hBl : B.1.length = 3 := by rw [← hB, In]; rfl
 have hBf : B.1.all Aq = true := by rw [← hB]; exact Iq _ _ _ (H5 _)
 obtain ⟨a, b, c, habc⟩ := ys3 hBl
 have hBc : Cx (.agg B.1) = some [a, b, c] := by
  show (if _ then _ else none) = _
  rw [if_pos hBf, habc]
 refine Ap ?_
 rw [En 3 2 (0 + 5) (.agg B.1) ⟨A2 s, true, true⟩ [a, b, c] _ _ rfl hBc rfl (A7 rfl) rfl]
 refine Ap ?_
 refine Ce (c := Dn s.fIn) (cs := A2 s) rfl (A7 rfl) rfl ?_
 rw [Xh s.fIn hs.2]
 have hset : ([⟨A2 s, true, true⟩, ⟨Ga, true, true⟩, ⟨A2 s, true, true⟩] ++ B.2 : Ac).set 2 ⟨Cg (A2 s) (0 + 5) [a, b, c], true, true⟩ = [⟨A2 s, true, true⟩, ⟨Ga, true, true⟩, ⟨Cg (A2 s) (0 + 5) [a, b, c], true, true⟩] ++ B.2 := rfl
 simp only [hset]
 have hN : ([⟨A2 s, true, true⟩, ⟨Ga, true, true⟩, ⟨Cg (A2 s) (0 + 5) [a, b, c], true, true⟩] ++ B.2 : Ac).length = 3 + B.2.length := by simp; omega
 rw [hN]
 refine Ap ?_
 rw [En 1 2 (0 + 8) (.sl (3 + B.2.length) 0 s.fIn.length 1) ⟨Cg (A2 s) (0 + 5) [a, b, c], true, true⟩ [.sl (3 + B.2.length) 0 s.fIn.length 1] _ _ rfl rfl rfl (A7 rfl) rfl]
 refine F0 (ds := [.sc (.string s.fClient), .sc (.int .i64 s.fBorn), .sc (.bool s.fClean), .sc (.int .i64 s.fConn), .sc (.int .i64 s.fGen), a, b, c, .sl (3 + B.2.length) 0 s.fIn.length 1]) (cs := [.sc (.string s.fClient), .sc (.int .i64 s.fBorn), .sc (.bool s.fClean), .sc (.int .i64 s.fConn), .sc (.int .i64 s.fGen), a, b, c, .sl (3 + B.2.length) 0 s.fIn.length 1]) rfl (A7 rfl) rfl ?_
 have hlf : [AV.sc (.string s.fClient), .sc (.int .i64 s.fBorn), .sc (.bool s.fClean), .sc (.int .i64 s.fConn), .sc (.int .i64 s.fGen), a, b, c, .sl (3 + B.2.length) 0 s.fIn.length 1].all Aq = true := by
  rw [habc] at hBf
  simp only [List.all_cons, List.all_nil, Bool.and_true, Bool.and_eq_true] at hBf
  simp [Aq, Mf] at hBf ⊢
  exact hBf
 have hcc : Cx (.agg [.sc (.string s.fClient), .sc (.int .i64 s.fBorn), .sc (.bool s.fClean), .sc (.int .i64 s.fConn), .sc (.int .i64 s.fGen), a, b, c, .sl (3 + B.2.length) 0 s.fIn.length 1]) = some [.sc (.string s.fClient), .sc (.int .i64 s.fBorn), .sc (.bool s.fClean), .sc (.int .i64 s.fConn), .sc (.int .i64 s.fGen), a, b, c, .sl (3 + B.2.length) 0 s.fIn.length 1] := by
  show (if _ then _ else none) = _
  rw [if_pos hlf]
 rw [En 9 1 0 _ ⟨Ga, true, true⟩ _ _ _ rfl hcc rfl (by decide) rfl]
 refine F0 (ds := [.sc (.string s.fClient), .sc (.int .i64 s.fBorn), .sc (.bool s.fClean), .sc (.int .i64 s.fConn), .sc (.int .i64 s.fGen), a, b, c, .sl (3 + B.2.length) 0 s.fIn.length 1]) (cs := [.sc (.string s.fClient), .sc (.int .i64 s.fBorn), .sc (.bool s.fClean), .sc (.int .i64 s.fConn), .sc (.int .i64 s.fGen), a, b, c, .sl (3 + B.2.length) 0 s.fIn.length 1]) rfl (A7 rfl) rfl ?_
 have lB : ∀ (b0 b1 b2 : Gl) (X : List Gl), Cm (B6 At E0.tp (b0 :: b1 :: b2 :: (B.2 ++ X)) 7) Gp B.1 = some (Bg s.fO, List.range' 3 B.2.length) := by
  intro b0 b1 b2 X
  have := Il (H := b0 :: b1 :: b2 :: (B.2 ++ X)) (fun ty t N h h' _ => F1 7 ty t N h h') Gp (Bg s.fO) 3 (Xv 4 s.fO) (by
   rw [show Bw At E0.tp 3 Gp (Bg s.fO) = B from hB]
   exact Km [b0, b1, b2] B.2 X) (E4 _ _ _)
  rw [show Bw At E0.tp 3 Gp (Bg s.fO) = B from hB] at this
  exact this
 have key := fun (b0 b1 b2 : Gl) => Wn (H := b0 :: b1 :: b2 :: (B.2 ++ [⟨s.fIn.map fun z => .sc (.int .i64 z), true, true⟩])) (N2 := 3 + B.2.length) (lB b0 b1 b2 _) hBl (by
  have := Hq (b0 :: b1 :: b2 :: B.2) ⟨s.fIn.map fun z => .sc (.int .i64 z), true, true⟩ []
  rw [List.length_cons, List.length_cons, List.length_cons, show B.2.length + 1 + 1 + 1 = 3 + B.2.length by omega] at this
  exact this) (Nat.le_refl _)
 rw [habc] at key
 have hfin := key ⟨A2 s, true, true⟩ ⟨[.sc (.string s.fClient), .sc (.int .i64 s.fBorn), .sc (.bool s.fClean), .sc (.int .i64 s.fConn), .sc (.int .i64 s.fGen), a, b, c, .sl (3 + B.2.length) 0 s.fIn.length 1], true, true⟩ ⟨[.sc (.string s.fClient), .sc (.int .i64 s.fBorn), .sc (.bool s.fClean), .sc (.int .i64 s.fConn), .sc (.int .i64 s.fGen), a, b, c, .sl (3 + B.2.length) 0 s.fIn.length 1], true, true⟩
 exact hfin
end
end Go.Proofs.Ytjiahcekpohehaa.Abs
