/- What the proof needs, part 4: a sound evaluator over trees, the program's functions on it, and what they come to. -/
import Derived.Test.YtlcpigdmekgajaaGreatDoorMfc
import Derived.Laws.BitsLemmas
set_option linter.unusedVariables false
set_option linter.unusedSimpArgs false
set_option maxRecDepth 100000
namespace Go.Proofs.YtlcpigdmekgajaaGreatDoor.Abs
open _root_.Bool renaming false_eq_true → zaa, and_eq_true → zag, not_true → zau, not_false → zaw, true_and → za2, false_and → za4, and_true → za6, false_or → za7, or_eq_true → zaK, and_false → zaL, true_or → zaU, eq_false_iff → zaZ, or_false → zb4, or_true → zbN
open _root_.Option renaming bind_some → zad
open _root_.List renaming length_append → zae, append_assoc → zaf, nil_append → zai, replicate → zak, append_nil → zam, length_cons → zan, cons_append → zaq, length_singleton → zas, map_cons → zat, mem_cons_of_mem → zav, length_nil → zax, all_cons → zaz, mem_cons_self → za1, flatten_cons → za3, map_append → zaF, mapM_cons → zaI, map_nil → zaO, mem_append → zaQ, take_of_length_le → zbb, foldl_cons → zbj, all_nil → zbl, foldl_append → zbp, drop_drop → zbq, mem_singleton → zbu, getD_eq_getElem?_getD → zb1, foldl_nil → zb5, length_drop → zbB, set_cons_zero → zbP
open _root_.ByteArray renaming size_append → zah, size_extract → zap, data_append → zbs, size → zbx, data_push → zbL, ext → zbO
open _root_.Nat renaming le_refl → zao, zero_le → zay, zero_add → za0, le_trans → zaA, mul_one → zby, add_mul → zbK
open _root_.Array renaming ext' → zbk
open _root_.Int renaming tmod_eq_emod_of_nonneg → zaC, natCast_zero → zaX, toNat_natCast → zbg, eq_ofNat_of_zero_le → zbw, add_comm → zbU
section
open Go
def Kd (x y : WantV) : Bool := x.fFilter.toList == y.fFilter.toList && x.fQos == y.fQos
theorem Y1 (x y : WantV) : Mu [1, 0] (Bu x) (Bu y) = some (Kd x y) := by
 simp only [Bu, Mu, Acn, Kd, if_true, zad]
 generalize (x.fFilter.toList == y.fFilter.toList) = b0
 generalize (x.fQos == y.fQos) = b1
 cases b0 <;> cases b1 <;> rfl
theorem Acp (n : Nat) (hn : 1048576 < n) (ty : Nat) (l q : List WantV) (hl : l.length ≤ 1048576) : Cb E0 (n + 1) ty 132 [Bl Bu l, Bl Bu q] = some (.sc (.bool (Hd Kd l q))) := by
 rw [At, AjF, f132]
 simp only [Jo, Eu, D6]
 rw [F9, F9, Sp, C1, Hd]
 by_cases h : l.length = q.length
 rw [if_neg (by simpa using h), if_pos h]
 rw [F9]
 have key := L8 (β := AV) Bu (Gy) (by decide) (fun x => .agg (Bu x)) (fun p k => Bx true 2 p [] k) (fun x r k => Abr 2 _ _ [] k (Gy x)) (fun x y k => Ra .neq [1, 0] x y k) Kd (fun x y k => Adk _ _ _ _ (Y1 x y) k) l q h hl (fun m i => R6 (PR n AV) n (fun x H => A4 Ak E0.tp ty H x) m (Bl Bu l) (Bl Bu q) (si l.length) i []) (some bF) (some bT) (fun m i => rfl) l q [] [] n rfl rfl rfl (by omega)
 simp only [zax, zaX] at key
 refine key.trans ?_
 cases J4 Kd l q <;> rfl
 rw [if_pos (by simpa using h), if_neg h]
 rfl
theorem Aeq (n : Nat) (hn : 1048576 < n) (ty : Nat) (l q : List ByteArray) (hl : l.length ≤ 1048576) : Cb E0 (n + 1) ty 133 [Et l, Et q] = some (.sc (.bool (Hd Td l q))) := by
 rw [L0, L0]
 rw [At, AjG, f133]
 simp only [Jo, Eu, D6]
 rw [F9, F9, Sp, C1, Hd]
 by_cases h : l.length = q.length
 rw [if_neg (by simpa using h), if_pos h]
 rw [F9]
 have key := L8 (β := AV) V5 (fun _ => rfl) (by decide) (fun z => ss z) (fun p k => Bx false 1 p [] k) (fun x r k => ldS x r [] k) (fun x y k => Bz .neq x y k) Td (fun x y k => neS x y k) l q h hl (fun m i => R7 (PR n AV) n (fun x H => A4 Ak E0.tp ty H x) m (Bl V5 l) (Bl V5 q) (si l.length) i []) (some bF) (some bT) (fun m i => rfl) l q [] [] n rfl rfl rfl (by omega)
 simp only [zax, zaX] at key
 refine key.trans ?_
 cases J4 Td l q <;> rfl
 rw [if_pos (by simpa using h), if_neg h]
 rfl
theorem Aep (n : Nat) (hn : 1048576 < n) (ty : Nat) (l q : List Int) (hl : l.length ≤ 1048576) : Cb E0 (n + 1) ty 134 [Ey l, Ey q] = some (.sc (.bool (Hd eqI l q))) := by
 rw [Lu, Lu]
 rw [At, AjH, f134]
 simp only [Jo, Eu, D6]
 rw [F9, F9, Sp, C1, Hd]
 by_cases h : l.length = q.length
 rw [if_neg (by simpa using h), if_pos h]
 rw [F9]
 have key := L8 (β := AV) V4 (fun _ => rfl) (by decide) (fun z => si z) (fun p k => Bx false 1 p [] k) (fun x r k => ldI x r [] k) (fun x y k => Bz .neq x y k) eqI (fun x y k => neI x y k) l q h hl (fun m i => R8 (PR n AV) n (fun x H => A4 Ak E0.tp ty H x) m (Bl V4 l) (Bl V4 q) (si l.length) i []) (some bF) (some bT) (fun m i => rfl) l q [] [] n rfl rfl rfl (by omega)
 simp only [zax, zaX] at key
 refine key.trans ?_
 cases J4 eqI l q <;> rfl
 rw [if_pos (by simpa using h), if_neg h]
 rfl
def Gr (a b : PacketV) : Bool := (a.fType == b.fType) && (a.fDup == b.fDup) && (a.fQos == b.fQos) && (a.fRetain == b.fRetain) && (a.fId == b.fId) && (a.fTopic.toList == b.fTopic.toList) && (a.fBody.toList == b.fBody.toList) && (a.fClient.toList == b.fClient.toList) && (a.fLevel == b.fLevel) && (a.fClean == b.fClean) && (a.fKeep == b.fKeep) && (a.fHasWill == b.fHasWill) && (a.fWTopic.toList == b.fWTopic.toList) && (a.fWBody.toList == b.fWBody.toList) && (a.fWQos == b.fWQos) && (a.fWRetain == b.fWRetain) && (a.fHasUser == b.fHasUser) && (a.fUser.toList == b.fUser.toList) && (a.fHasPass == b.fHasPass) && (a.fPass.toList == b.fPass.toList) && (a.fCode == b.fCode) && (a.fPresent == b.fPresent)
def Mk (a b : PacketV) : Bool := Hd Kd a.fWants b.fWants && Hd Td a.fNames b.fNames && Hd eqI a.fCodes b.fCodes
def Dm (a b : PacketV) : Bool := Mk a b && Gr a b
section
variable {β : Type} {r : Option β} {n : Nat} {H : Ab} {K : AV → Option β} {KH : KO β}
theorem Alx {b : Bool} {F : Bool → Prop} (h1 : b = true → F true) (h2 : b = false → F false) : F b := by
 cases b
 exact h2 rfl
 exact h1 rfl
theorem Aqf {x y : Int} (h1 : (x == y) = true → K (.sc (.bool true)) = r) (h2 : (x == y) = false → K (.sc (.bool false)) = r) : Bz .eql (.sc (.int .i64 x)) (.sc (.int .i64 y)) (fun t => K t) = r := Dx (v := .sc (.bool (x == y))) (fun k => rfl) (Alx (F := fun b => K (.sc (.bool b)) = r) h1 h2)
theorem Aqg {x y : ByteArray} (h1 : (x.toList == y.toList) = true → K (.sc (.bool true)) = r) (h2 : (x.toList == y.toList) = false → K (.sc (.bool false)) = r) : Bz .eql (.sc (.string x)) (.sc (.string y)) (fun t => K t) = r := Dx (v := .sc (.bool (x.toList == y.toList))) (fun k => rfl) (Alx (F := fun b => K (.sc (.bool b)) = r) h1 h2)
theorem Aqe {x y : Bool} (h1 : (x == y) = true → K (.sc (.bool true)) = r) (h2 : (x == y) = false → K (.sc (.bool false)) = r) : Nw .eql (.sc (.bool x)) (.sc (.bool y)) (fun t => K t) = r := O5 (v := .sc (.bool (x == y))) (fun k => rfl) (Alx (F := fun b => K (.sc (.bool b)) = r) h1 h2)
theorem AoW {ty f : Nat} {args vs : List AV} {b : Bool} (hh : Ek f = false) (hv : args.mapM (C5 H 8) = some vs) (ht : Cb E0 n ty f vs = some (.sc (.bool b))) (h1 : b = true → KH (.sc (.bool true)) H = r) (h2 : b = false → KH (.sc (.bool false)) H = r) : (PR n β).call ty (.fn f [] []) args H (fun x H => KH x H) = r := Ma hh hv ht (Alx (F := fun b => KH (.sc (.bool b)) H = r) h1 h2)
end
theorem Ald (n : Nat) (hn : 1048576 < n) (ty : Nat) (a b : PacketV) (H : Ab) (i1 i2 : Nat) (B1 : H[i1]? = some ⟨Ag a, true, true⟩) (B2 : H[i2]? = some ⟨Ag b, true, true⟩) (hl2 : a.fCodes.length ≤ 1048576) (hq2 : a.fCodes.length = b.fCodes.length) : Ps (PR (n + 1) AV) (n + 1) (fun x H => A4 Ak E0.tp ty H x) (n + 1) (.ptr i1 0) (.ptr i2 0) (.sc (.int .i64 0)) H = some (.sc (.bool (if J4 eqI a.fCodes b.fCodes then (Gr a b) else false))) := by
 have hL : ∀ m i, Ps (PR (n + 1) AV) (n + 1) (fun x H => A4 Ak E0.tp ty H x) (m + 1) (.ptr i1 0) (.ptr i2 0) i H = Bz .lss i (si a.fCodes.length) fun t14 => C8 t14 (Dj 1 (Bl V4 a.fCodes) i fun t19 => Bx false 1 t19 H fun t20 => Dj 1 (Bl V4 b.fCodes) i fun t23 => Bx false 1 t23 H fun t24 => (fun x y k => Bz .neq x y k) t20 t24 fun t25 => C8 t25 (some bF) (Bz .add i (si 1) fun t16 => Ps (PR (n + 1) AV) (n + 1) (fun x H => A4 Ak E0.tp ty H x) m (.ptr i1 0) (.ptr i2 0) t16 H)) (some (sb (Gr a b))) := by
  intro m i
  show (PR (n + 1) AV).fadr 24 (.ptr i1 0) _ = _
  simp only [Hy, Gb, Eu, Id, K7, D6, Fo, Pr.gT, Pr.gF, Pr.hT, Pr.hF, Pr.kT, Pr.kF, Gx, Jo, I5]
  refine B0 (Ec (c := Ey a.fCodes) B1 (Cr rfl) rfl (N3 ?_))
  congr 1
  funext t
  congr 1
  refine B0 (Ec (c := Ey a.fCodes) B1 (Cr rfl) rfl ?_)
  rw [Lu]
  congr 1
  funext t2
  congr 1
  funext t3
  refine B0 (Ec (c := Ey b.fCodes) B2 (Cr rfl) rfl ?_)
  rw [Lu]
  rfl
  ·skip
   repeat' first
    | ((with_reducible show Fg _ _ _ _ _ = _); first | refine Bs rfl ?_ | refine Br rfl ?_ | refine w_u ?_)
    | ((with_reducible show Dh _ _ _ = _); refine B0 ?_)
    | ((with_reducible show Bx _ _ _ _ _ = _); first | refine Ec B1 (Cr rfl) rfl ?_ | refine Ec B2 (Cr rfl) rfl ?_)
    | ((with_reducible show Bz _ _ _ _ = _); first | refine Aqf (fun _ => ?_) (fun _ => ?_) | refine Aqg (fun _ => ?_) fun _ => ?_)
    | ((with_reducible show Nw _ _ _ _ = _); refine Aqe (fun _ => ?_) fun _ => ?_)
    | ((with_reducible show M1 _ _ _ _ = _); first | refine Adc rfl ?_ | refine AbT rfl ?_)
    | ((with_reducible show Pr.call _ _ _ _ _ _ = _); refine AoW rfl (Co (J9 _ _ _) (Co (J9 _ _ _) G7)) (Aat _ _ _ _) (fun _ => ?_) fun _ => ?_)
    | refine T7 ?_
   all_goals simp only [Gr, *, za2, za6, za4, zaL]
 have key := L8 (β := AV) V4 (fun _ => rfl) (by decide) (fun z => si z) (fun p k => Bx false 1 p H k) (fun x r k => ldI x r H k) (fun x y k => Bz .neq x y k) eqI (fun x y k => neI x y k) a.fCodes b.fCodes hq2 hl2 (fun m i => Ps (PR (n + 1) AV) (n + 1) (fun x H => A4 Ak E0.tp ty H x) m (.ptr i1 0) (.ptr i2 0) i H) (some bF) (some (sb (Gr a b))) hL a.fCodes b.fCodes [] [] (n + 1) rfl rfl rfl (by omega)
 simp only [zax, zaX] at key
 refine key.trans ?_
 cases J4 eqI a.fCodes b.fCodes <;> rfl
theorem Alc (n : Nat) (hn : 1048576 < n) (ty : Nat) (a b : PacketV) (H : Ab) (i1 i2 : Nat) (B1 : H[i1]? = some ⟨Ag a, true, true⟩) (B2 : H[i2]? = some ⟨Ag b, true, true⟩) (hl1 : a.fNames.length ≤ 1048576) (hq1 : a.fNames.length = b.fNames.length) (hl2 : a.fCodes.length ≤ 1048576) (hq2 : a.fCodes.length = b.fCodes.length) : M7 (PR (n + 1) AV) (n + 1) (fun x H => A4 Ak E0.tp ty H x) (n + 1) (.ptr i1 0) (.ptr i2 0) (.sc (.int .i64 0)) H = some (.sc (.bool (if J4 Td a.fNames b.fNames then (if J4 eqI a.fCodes b.fCodes then (Gr a b) else false) else false))) := by
 have hL : ∀ m i, M7 (PR (n + 1) AV) (n + 1) (fun x H => A4 Ak E0.tp ty H x) (m + 1) (.ptr i1 0) (.ptr i2 0) i H = Bz .lss i (si a.fNames.length) fun t14 => C8 t14 (Dj 1 (Bl V5 a.fNames) i fun t19 => Bx false 1 t19 H fun t20 => Dj 1 (Bl V5 b.fNames) i fun t23 => Bx false 1 t23 H fun t24 => (fun x y k => Bz .neq x y k) t20 t24 fun t25 => C8 t25 (some bF) (Bz .add i (si 1) fun t16 => M7 (PR (n + 1) AV) (n + 1) (fun x H => A4 Ak E0.tp ty H x) m (.ptr i1 0) (.ptr i2 0) t16 H)) (some (sb (if J4 eqI a.fCodes b.fCodes then (Gr a b) else false))) := by
  intro m i
  show (PR (n + 1) AV).fadr 23 (.ptr i1 0) _ = _
  simp only [Hy, Gb, Eu, Id, K7, D6, Fo, Pr.gT, Pr.gF, Pr.hT, Pr.hF, Pr.kT, Pr.kF, Gx, Jo, I5]
  refine B0 (Ec (c := Et a.fNames) B1 (Cr rfl) rfl (N3 ?_))
  congr 1
  funext t
  congr 1
  refine B0 (Ec (c := Et a.fNames) B1 (Cr rfl) rfl ?_)
  rw [L0]
  congr 1
  funext t2
  congr 1
  funext t3
  refine B0 (Ec (c := Et b.fNames) B2 (Cr rfl) rfl ?_)
  rw [L0]
  rfl
  skip
  exact Ald n hn ty a b H i1 i2 B1 B2 hl2 hq2
 have key := L8 (β := AV) V5 (fun _ => rfl) (by decide) (fun z => ss z) (fun p k => Bx false 1 p H k) (fun x r k => ldS x r H k) (fun x y k => Bz .neq x y k) Td (fun x y k => neS x y k) a.fNames b.fNames hq1 hl1 (fun m i => M7 (PR (n + 1) AV) (n + 1) (fun x H => A4 Ak E0.tp ty H x) m (.ptr i1 0) (.ptr i2 0) i H) (some bF) (some (sb (if J4 eqI a.fCodes b.fCodes then (Gr a b) else false))) hL a.fNames b.fNames [] [] (n + 1) rfl rfl rfl (by omega)
 simp only [zax, zaX] at key
 refine key.trans ?_
 cases J4 Td a.fNames b.fNames <;> rfl
theorem Alb (n : Nat) (hn : 1048576 < n) (ty : Nat) (a b : PacketV) (H : Ab) (i1 i2 : Nat) (B1 : H[i1]? = some ⟨Ag a, true, true⟩) (B2 : H[i2]? = some ⟨Ag b, true, true⟩) (hl0 : a.fWants.length ≤ 1048576) (hq0 : a.fWants.length = b.fWants.length) (hl1 : a.fNames.length ≤ 1048576) (hq1 : a.fNames.length = b.fNames.length) (hl2 : a.fCodes.length ≤ 1048576) (hq2 : a.fCodes.length = b.fCodes.length) : M6 (PR (n + 1) AV) (n + 1) (fun x H => A4 Ak E0.tp ty H x) (n + 1) (.ptr i1 0) (.ptr i2 0) (.sc (.int .i64 0)) H = some (.sc (.bool (if J4 Kd a.fWants b.fWants then (if J4 Td a.fNames b.fNames then (if J4 eqI a.fCodes b.fCodes then (Gr a b) else false) else false) else false))) := by
 have hL : ∀ m i, M6 (PR (n + 1) AV) (n + 1) (fun x H => A4 Ak E0.tp ty H x) (m + 1) (.ptr i1 0) (.ptr i2 0) i H = Bz .lss i (si a.fWants.length) fun t14 => C8 t14 (Dj 2 (Bl Bu a.fWants) i fun t19 => Bx true 2 t19 H fun t20 => Dj 2 (Bl Bu b.fWants) i fun t23 => Bx true 2 t23 H fun t24 => (fun x y k => Ra .neq [1, 0] x y k) t20 t24 fun t25 => C8 t25 (some bF) (Bz .add i (si 1) fun t16 => M6 (PR (n + 1) AV) (n + 1) (fun x H => A4 Ak E0.tp ty H x) m (.ptr i1 0) (.ptr i2 0) t16 H)) (some (sb (if J4 Td a.fNames b.fNames then (if J4 eqI a.fCodes b.fCodes then (Gr a b) else false) else false))) := by
  intro m i
  show (PR (n + 1) AV).fadr 22 (.ptr i1 0) _ = _
  simp only [Hy, Gb, Eu, Id, K7, D6, Fo, Pr.gT, Pr.gF, Pr.hT, Pr.hF, Pr.kT, Pr.kF, Gx, Jo, I5]
  refine B0 (Ec (c := Bl Bu a.fWants) B1 (Cr rfl) rfl (N3 ?_))
  congr 1
  funext t
  congr 1
  refine B0 (Ec (c := Bl Bu a.fWants) B1 (Cr rfl) rfl ?_)
  congr 1
  funext t2
  congr 1
  funext t3
  refine B0 (Ec (c := Bl Bu b.fWants) B2 (Cr rfl) rfl ?_)
  rfl
  skip
  exact Alc n hn ty a b H i1 i2 B1 B2 hl1 hq1 hl2 hq2
 have key := L8 (β := AV) Bu (Gy) (by decide) (fun x => .agg (Bu x)) (fun p k => Bx true 2 p H k) (fun x r k => Abr 2 _ _ H k (Gy x)) (fun x y k => Ra .neq [1, 0] x y k) Kd (fun x y k => Adk _ _ _ _ (Y1 x y) k) a.fWants b.fWants hq0 hl0 (fun m i => M6 (PR (n + 1) AV) (n + 1) (fun x H => A4 Ak E0.tp ty H x) m (.ptr i1 0) (.ptr i2 0) i H) (some bF) (some (sb (if J4 Td a.fNames b.fNames then (if J4 eqI a.fCodes b.fCodes then (Gr a b) else false) else false))) hL a.fWants b.fWants [] [] (n + 1) rfl rfl rfl (by omega)
 simp only [zax, zaX] at key
 refine key.trans ?_
 cases J4 Kd a.fWants b.fWants <;> rfl
theorem U4 (n : Nat) (hn : 1048576 < n) (ty : Nat) (a : PacketV) (b : PacketV) (hl0 : a.fWants.length ≤ 1048576) (hl1 : a.fNames.length ≤ 1048576) (hl2 : a.fCodes.length ≤ 1048576) : Cb E0 (n + 2) ty 89 [.agg (Ag a), .agg (Ag b)] = some (.sc (.bool (Dm a b))) := by
 rw [At, Anr, f89]
 try simp only [Kw, Pd, Hy, Gb, Km, Eu, Id, K7, Pe, D6, Fo, Pr.gT, Pr.gF, Pr.hT, Pr.hF, Pr.kT, Pr.kF, Gx, Jo, Hz, I5, Ob, Nj, Jg, Kl, Mo, Qk, Pc, Oa, Mn]
 refine AbS (Dg _) fun iB1 eB1 B1 => AbS (Dg _) fun iB2 eB2 B2 => ?_
 replace B1 := Cm B1 [⟨Ag b, true, true⟩]
 refine B0 (Ec (c := Bl Bu a.fWants) B1 (Cr rfl) rfl (N3 (B0 (Ec (c := Bl Bu b.fWants) B2 (Cr rfl) rfl (N3 (Dx (v := sb ((a.fWants.length : Int) != (b.fWants.length : Int))) (fun k => rfl) ?_))))))
 apply Cx (((a.fWants.length : Int) != (b.fWants.length : Int)) || ((a.fNames.length : Int) != (b.fNames.length : Int)))
 intro b3 q3
 refine Ac (((a.fWants.length : Int) != (b.fWants.length : Int))) (fun h3 => ?_) fun h3 => ?_
 exact J5 h3 (J5 h3 (J5 h3 (J5 h3 (J5 h3 (J5 h3 (J5 h3 (E3 h3 (mOT q3 h3) rfl)))))))
 exact I0 h3 (B0 (I0 h3 (Ec (c := Et a.fNames) B1 (Cr rfl) rfl (I0 h3 (N3 (I0 h3 (B0 (I0 h3 (Ec (c := Et b.fNames) B2 (Cr rfl) rfl (I0 h3 (N3 (I0 h3 (Dx (v := sb ((a.fNames.length : Int) != (b.fNames.length : Int))) (fun k => rfl) (E2 h3 (mOF q3 h3) rfl))))))))))))))
 intro b3 q3
 apply Cx (b3 || ((a.fCodes.length : Int) != (b.fCodes.length : Int)))
 intro b4 q4
 refine Ac (b3) (fun h4 => ?_) fun h4 => ?_
 exact J5 h4 (J5 h4 (J5 h4 (J5 h4 (J5 h4 (J5 h4 (J5 h4 (E3 h4 (mOT q4 h4) rfl)))))))
 exact I0 h4 (B0 (I0 h4 (Ec (c := Ey a.fCodes) B1 (Cr rfl) rfl (I0 h4 (N3 (I0 h4 (B0 (I0 h4 (Ec (c := Ey b.fCodes) B2 (Cr rfl) rfl (I0 h4 (N3 (I0 h4 (Dx (v := sb ((a.fCodes.length : Int) != (b.fCodes.length : Int))) (fun k => rfl) (E2 h4 (mOF q4 h4) rfl))))))))))))))
 intro b4 q4
 refine Ac (b4) (fun h5 => ?_) fun h5 => ?_
 exact Q7 h5 (T7 (by subst_vars; simp only [Dm, Mk, Hd]; by_cases e0 : a.fWants.length = b.fWants.length <;> by_cases e1 : a.fNames.length = b.fNames.length <;> by_cases e2 : a.fCodes.length = b.fCodes.length <;> simp_all))
 refine T6 h5 ?_
 have l0 : a.fWants.length = b.fWants.length := by (subst_vars; simp at *; omega)
 have l1 : a.fNames.length = b.fNames.length := by (subst_vars; simp at *; omega)
 have l2 : a.fCodes.length = b.fCodes.length := by (subst_vars; simp at *; omega)
 refine (Alb n hn ty a b _ _ _ B1 B2 hl0 l0 hl1 l1 hl2 l2).trans ?_
 simp only [Dm, Mk, Hd, l0, l1, l2, if_true]
 cases J4 Kd a.fWants b.fWants <;> cases J4 Td a.fNames b.fNames <;> cases J4 eqI a.fCodes b.fCodes <;> simp
theorem Uz (n : Nat) (hn : 1048576 < n) (ty : Nat) (a : PacketV) (b : PacketV) (hl0 : a.fWants.length ≤ 1048576) (hl1 : a.fNames.length ≤ 1048576) (hl2 : a.fCodes.length ≤ 1048576) : Cb E0 (n + 2) ty 104 [.agg (Ag a), .agg (Ag b)] = some (.sc (.bool (Dm a b))) := by
 rw [At, Ajw, f104]
 try simp only [Kw, Pd, Hy, Gb, Km, Eu, Id, K7, Pe, D6, Fo, Pr.gT, Pr.gF, Pr.hT, Pr.hF, Pr.kT, Pr.kF, Gx, Jo, Hz, I5, Ob, Nj, Jg, Kl, Mo, Qk, Pc, Oa, Mn]
 refine AbS (Dg _) fun iB1 eB1 B1 => AbS (Dg _) fun iB2 eB2 B2 => ?_
 replace B1 := Cm B1 [⟨Ag b, true, true⟩]
 refine B0 (Ec (c := si a.fType) B1 (Cr rfl) rfl (B0 (Ec (c := si b.fType) B2 (Cr rfl) rfl (Dx (v := sb (a.fType == b.fType)) (fun k => rfl) ?_))))
 apply Cx ((a.fType == b.fType) && (a.fDup == b.fDup))
 intro b3 q3
 refine Ac ((a.fType == b.fType)) (fun h3 => ?_) fun h3 => ?_
 exact Bs h3 (B0 (Bs h3 (Ec (c := sb a.fDup) B1 (Cr rfl) rfl (Bs h3 (B0 (Bs h3 (Ec (c := sb b.fDup) B2 (Cr rfl) rfl (Bs h3 (O5 (v := sb (a.fDup == b.fDup)) (fun k => rfl) (E3 h3 (Nu q3 h3) rfl))))))))))
 exact Br h3 (Br h3 (Br h3 (Br h3 (Br h3 (E2 h3 (Nt q3 h3) rfl)))))
 intro b3 q3
 apply Cx (b3 && (a.fQos == b.fQos))
 intro b4 q4
 refine Ac (b3) (fun h4 => ?_) fun h4 => ?_
 exact Bs h4 (B0 (Bs h4 (Ec (c := si a.fQos) B1 (Cr rfl) rfl (Bs h4 (B0 (Bs h4 (Ec (c := si b.fQos) B2 (Cr rfl) rfl (Bs h4 (Dx (v := sb (a.fQos == b.fQos)) (fun k => rfl) (E3 h4 (Nu q4 h4) rfl))))))))))
 exact Br h4 (Br h4 (Br h4 (Br h4 (Br h4 (E2 h4 (Nt q4 h4) rfl)))))
 intro b4 q4
 apply Cx (b4 && (a.fRetain == b.fRetain))
 intro b5 q5
 refine Ac (b4) (fun h5 => ?_) fun h5 => ?_
 exact Bs h5 (B0 (Bs h5 (Ec (c := sb a.fRetain) B1 (Cr rfl) rfl (Bs h5 (B0 (Bs h5 (Ec (c := sb b.fRetain) B2 (Cr rfl) rfl (Bs h5 (O5 (v := sb (a.fRetain == b.fRetain)) (fun k => rfl) (E3 h5 (Nu q5 h5) rfl))))))))))
 exact Br h5 (Br h5 (Br h5 (Br h5 (Br h5 (E2 h5 (Nt q5 h5) rfl)))))
 intro b5 q5
 apply Cx (b5 && (a.fId == b.fId))
 intro b6 q6
 refine Ac (b5) (fun h6 => ?_) fun h6 => ?_
 exact Bs h6 (B0 (Bs h6 (Ec (c := si a.fId) B1 (Cr rfl) rfl (Bs h6 (B0 (Bs h6 (Ec (c := si b.fId) B2 (Cr rfl) rfl (Bs h6 (Dx (v := sb (a.fId == b.fId)) (fun k => rfl) (E3 h6 (Nu q6 h6) rfl))))))))))
 exact Br h6 (Br h6 (Br h6 (Br h6 (Br h6 (E2 h6 (Nt q6 h6) rfl)))))
 intro b6 q6
 apply Cx (b6 && (a.fTopic.toList == b.fTopic.toList))
 intro b7 q7
 refine Ac (b6) (fun h7 => ?_) fun h7 => ?_
 exact Bs h7 (B0 (Bs h7 (Ec (c := ss a.fTopic) B1 (Cr rfl) rfl (Bs h7 (B0 (Bs h7 (Ec (c := ss b.fTopic) B2 (Cr rfl) rfl (Bs h7 (Dx (v := sb (a.fTopic.toList == b.fTopic.toList)) (fun k => rfl) (E3 h7 (Nu q7 h7) rfl))))))))))
 exact Br h7 (Br h7 (Br h7 (Br h7 (Br h7 (E2 h7 (Nt q7 h7) rfl)))))
 intro b7 q7
 apply Cx (b7 && (a.fBody.toList == b.fBody.toList))
 intro b8 q8
 refine Ac (b7) (fun h8 => ?_) fun h8 => ?_
 exact Bs h8 (B0 (Bs h8 (Ec (c := Ae a.fBody) B1 (Cr rfl) rfl (Bs h8 (B0 (Bs h8 (Ec (c := Ae b.fBody) B2 (Cr rfl) rfl (Bs h8 (Ma rfl (Co (J9 _ _ _) (Co (J9 _ _ _) G7)) (Kn (n + 0) _ a.fBody b.fBody) (E3 h8 (Nu q8 h8) rfl))))))))))
 exact Br h8 (Br h8 (Br h8 (Br h8 (Br h8 (E2 h8 (Nt q8 h8) rfl)))))
 intro b8 q8
 refine B0 (Ec (c := ss a.fClient) B1 (Cr rfl) rfl (B0 (Ec (c := ss b.fClient) B2 (Cr rfl) rfl (Dx (v := sb (a.fClient.toList == b.fClient.toList)) (fun k => rfl) ?_))))
 apply Cx ((a.fClient.toList == b.fClient.toList) && (a.fLevel == b.fLevel))
 intro b9 q9
 refine Ac ((a.fClient.toList == b.fClient.toList)) (fun h9 => ?_) fun h9 => ?_
 exact Bs h9 (B0 (Bs h9 (Ec (c := si a.fLevel) B1 (Cr rfl) rfl (Bs h9 (B0 (Bs h9 (Ec (c := si b.fLevel) B2 (Cr rfl) rfl (Bs h9 (Dx (v := sb (a.fLevel == b.fLevel)) (fun k => rfl) (E3 h9 (Nu q9 h9) rfl))))))))))
 exact Br h9 (Br h9 (Br h9 (Br h9 (Br h9 (E2 h9 (Nt q9 h9) rfl)))))
 intro b9 q9
 apply Cx (b9 && (a.fClean == b.fClean))
 intro b10 q10
 refine Ac (b9) (fun h10 => ?_) fun h10 => ?_
 exact Bs h10 (B0 (Bs h10 (Ec (c := sb a.fClean) B1 (Cr rfl) rfl (Bs h10 (B0 (Bs h10 (Ec (c := sb b.fClean) B2 (Cr rfl) rfl (Bs h10 (O5 (v := sb (a.fClean == b.fClean)) (fun k => rfl) (E3 h10 (Nu q10 h10) rfl))))))))))
 exact Br h10 (Br h10 (Br h10 (Br h10 (Br h10 (E2 h10 (Nt q10 h10) rfl)))))
 intro b10 q10
 apply Cx (b10 && (a.fKeep == b.fKeep))
 intro b11 q11
 refine Ac (b10) (fun h11 => ?_) fun h11 => ?_
 exact Bs h11 (B0 (Bs h11 (Ec (c := si a.fKeep) B1 (Cr rfl) rfl (Bs h11 (B0 (Bs h11 (Ec (c := si b.fKeep) B2 (Cr rfl) rfl (Bs h11 (Dx (v := sb (a.fKeep == b.fKeep)) (fun k => rfl) (E3 h11 (Nu q11 h11) rfl))))))))))
 exact Br h11 (Br h11 (Br h11 (Br h11 (Br h11 (E2 h11 (Nt q11 h11) rfl)))))
 intro b11 q11
 apply Cx (b11 && (a.fHasUser == b.fHasUser))
 intro b12 q12
 refine Ac (b11) (fun h12 => ?_) fun h12 => ?_
 exact Bs h12 (B0 (Bs h12 (Ec (c := sb a.fHasUser) B1 (Cr rfl) rfl (Bs h12 (B0 (Bs h12 (Ec (c := sb b.fHasUser) B2 (Cr rfl) rfl (Bs h12 (O5 (v := sb (a.fHasUser == b.fHasUser)) (fun k => rfl) (E3 h12 (Nu q12 h12) rfl))))))))))
 exact Br h12 (Br h12 (Br h12 (Br h12 (Br h12 (E2 h12 (Nt q12 h12) rfl)))))
 intro b12 q12
 apply Cx (b12 && (a.fUser.toList == b.fUser.toList))
 intro b13 q13
 refine Ac (b12) (fun h13 => ?_) fun h13 => ?_
 exact Bs h13 (B0 (Bs h13 (Ec (c := ss a.fUser) B1 (Cr rfl) rfl (Bs h13 (B0 (Bs h13 (Ec (c := ss b.fUser) B2 (Cr rfl) rfl (Bs h13 (Dx (v := sb (a.fUser.toList == b.fUser.toList)) (fun k => rfl) (E3 h13 (Nu q13 h13) rfl))))))))))
 exact Br h13 (Br h13 (Br h13 (Br h13 (Br h13 (E2 h13 (Nt q13 h13) rfl)))))
 intro b13 q13
 apply Cx (b13 && (a.fHasPass == b.fHasPass))
 intro b14 q14
 refine Ac (b13) (fun h14 => ?_) fun h14 => ?_
 exact Bs h14 (B0 (Bs h14 (Ec (c := sb a.fHasPass) B1 (Cr rfl) rfl (Bs h14 (B0 (Bs h14 (Ec (c := sb b.fHasPass) B2 (Cr rfl) rfl (Bs h14 (O5 (v := sb (a.fHasPass == b.fHasPass)) (fun k => rfl) (E3 h14 (Nu q14 h14) rfl))))))))))
 exact Br h14 (Br h14 (Br h14 (Br h14 (Br h14 (E2 h14 (Nt q14 h14) rfl)))))
 intro b14 q14
 apply Cx (b14 && (a.fPass.toList == b.fPass.toList))
 intro b15 q15
 refine Ac (b14) (fun h15 => ?_) fun h15 => ?_
 exact Bs h15 (B0 (Bs h15 (Ec (c := Ae a.fPass) B1 (Cr rfl) rfl (Bs h15 (B0 (Bs h15 (Ec (c := Ae b.fPass) B2 (Cr rfl) rfl (Bs h15 (Ma rfl (Co (J9 _ _ _) (Co (J9 _ _ _) G7)) (Kn (n + 0) _ a.fPass b.fPass) (E3 h15 (Nu q15 h15) rfl))))))))))
 exact Br h15 (Br h15 (Br h15 (Br h15 (Br h15 (E2 h15 (Nt q15 h15) rfl)))))
 intro b15 q15
 refine B0 (Ec (c := sb a.fHasWill) B1 (Cr rfl) rfl (B0 (Ec (c := sb b.fHasWill) B2 (Cr rfl) rfl (O5 (v := sb (a.fHasWill == b.fHasWill)) (fun k => rfl) ?_))))
 apply Cx ((a.fHasWill == b.fHasWill) && (a.fWTopic.toList == b.fWTopic.toList))
 intro b16 q16
 refine Ac ((a.fHasWill == b.fHasWill)) (fun h16 => ?_) fun h16 => ?_
 exact Bs h16 (B0 (Bs h16 (Ec (c := ss a.fWTopic) B1 (Cr rfl) rfl (Bs h16 (B0 (Bs h16 (Ec (c := ss b.fWTopic) B2 (Cr rfl) rfl (Bs h16 (Dx (v := sb (a.fWTopic.toList == b.fWTopic.toList)) (fun k => rfl) (E3 h16 (Nu q16 h16) rfl))))))))))
 exact Br h16 (Br h16 (Br h16 (Br h16 (Br h16 (E2 h16 (Nt q16 h16) rfl)))))
 intro b16 q16
 apply Cx (b16 && (a.fWBody.toList == b.fWBody.toList))
 intro b17 q17
 refine Ac (b16) (fun h17 => ?_) fun h17 => ?_
 exact Bs h17 (B0 (Bs h17 (Ec (c := Ae a.fWBody) B1 (Cr rfl) rfl (Bs h17 (B0 (Bs h17 (Ec (c := Ae b.fWBody) B2 (Cr rfl) rfl (Bs h17 (Ma rfl (Co (J9 _ _ _) (Co (J9 _ _ _) G7)) (Kn (n + 0) _ a.fWBody b.fWBody) (E3 h17 (Nu q17 h17) rfl))))))))))
 exact Br h17 (Br h17 (Br h17 (Br h17 (Br h17 (E2 h17 (Nt q17 h17) rfl)))))
 intro b17 q17
 apply Cx (b17 && (a.fWQos == b.fWQos))
 intro b18 q18
 refine Ac (b17) (fun h18 => ?_) fun h18 => ?_
 exact Bs h18 (B0 (Bs h18 (Ec (c := si a.fWQos) B1 (Cr rfl) rfl (Bs h18 (B0 (Bs h18 (Ec (c := si b.fWQos) B2 (Cr rfl) rfl (Bs h18 (Dx (v := sb (a.fWQos == b.fWQos)) (fun k => rfl) (E3 h18 (Nu q18 h18) rfl))))))))))
 exact Br h18 (Br h18 (Br h18 (Br h18 (Br h18 (E2 h18 (Nt q18 h18) rfl)))))
 intro b18 q18
 apply Cx (b18 && (a.fWRetain == b.fWRetain))
 intro b19 q19
 refine Ac (b18) (fun h19 => ?_) fun h19 => ?_
 exact Bs h19 (B0 (Bs h19 (Ec (c := sb a.fWRetain) B1 (Cr rfl) rfl (Bs h19 (B0 (Bs h19 (Ec (c := sb b.fWRetain) B2 (Cr rfl) rfl (Bs h19 (O5 (v := sb (a.fWRetain == b.fWRetain)) (fun k => rfl) (E3 h19 (Nu q19 h19) rfl))))))))))
 exact Br h19 (Br h19 (Br h19 (Br h19 (Br h19 (E2 h19 (Nt q19 h19) rfl)))))
 intro b19 q19
 refine B0 (Ec (c := Bl Bu a.fWants) B1 (Cr rfl) rfl (B0 (Ec (c := Bl Bu b.fWants) B2 (Cr rfl) rfl (Ma rfl (Co (J9 _ _ _) (Co (J9 _ _ _) G7)) (Acp (n + 0) (by omega) _ a.fWants b.fWants (by omega)) ?_))))
 apply Cx ((Hd Kd a.fWants b.fWants) && (Hd Td a.fNames b.fNames))
 intro b20 q20
 refine Ac ((Hd Kd a.fWants b.fWants)) (fun h20 => ?_) fun h20 => ?_
 exact Bs h20 (B0 (Bs h20 (Ec (c := Et a.fNames) B1 (Cr rfl) rfl (Bs h20 (B0 (Bs h20 (Ec (c := Et b.fNames) B2 (Cr rfl) rfl (Bs h20 (Ma rfl (Co (J9 _ _ _) (Co (J9 _ _ _) G7)) (Aeq (n + 0) (by omega) _ a.fNames b.fNames (by omega)) (E3 h20 (Nu q20 h20) rfl))))))))))
 exact Br h20 (Br h20 (Br h20 (Br h20 (Br h20 (E2 h20 (Nt q20 h20) rfl)))))
 intro b20 q20
 apply Cx (b20 && (Hd eqI a.fCodes b.fCodes))
 intro b21 q21
 refine Ac (b20) (fun h21 => ?_) fun h21 => ?_
 exact Bs h21 (B0 (Bs h21 (Ec (c := Ey a.fCodes) B1 (Cr rfl) rfl (Bs h21 (B0 (Bs h21 (Ec (c := Ey b.fCodes) B2 (Cr rfl) rfl (Bs h21 (Ma rfl (Co (J9 _ _ _) (Co (J9 _ _ _) G7)) (Aep (n + 0) (by omega) _ a.fCodes b.fCodes (by omega)) (E3 h21 (Nu q21 h21) rfl))))))))))
 exact Br h21 (Br h21 (Br h21 (Br h21 (Br h21 (E2 h21 (Nt q21 h21) rfl)))))
 intro b21 q21
 apply Cx (b8 && b15)
 intro b22 q22
 refine Ac (b8) (fun h22 => ?_) fun h22 => ?_
 exact Bs h22 (E3 h22 (Nu q22 h22) rfl)
 exact Br h22 (E2 h22 (Nt q22 h22) rfl)
 intro b22 q22
 apply Cx (b22 && b19)
 intro b23 q23
 refine Ac (b22) (fun h23 => ?_) fun h23 => ?_
 exact Bs h23 (E3 h23 (Nu q23 h23) rfl)
 exact Br h23 (E2 h23 (Nt q23 h23) rfl)
 intro b23 q23
 apply Cx (b23 && b21)
 intro b24 q24
 refine Ac (b23) (fun h24 => ?_) fun h24 => ?_
 exact Bs h24 (E3 h24 (Nu q24 h24) rfl)
 exact Br h24 (E2 h24 (Nt q24 h24) rfl)
 intro b24 q24
 apply Cx (b24 && (a.fCode == b.fCode))
 intro b25 q25
 refine Ac (b24) (fun h25 => ?_) fun h25 => ?_
 exact Bs h25 (B0 (Bs h25 (Ec (c := si a.fCode) B1 (Cr rfl) rfl (Bs h25 (B0 (Bs h25 (Ec (c := si b.fCode) B2 (Cr rfl) rfl (Bs h25 (Dx (v := sb (a.fCode == b.fCode)) (fun k => rfl) (E3 h25 (Nu q25 h25) rfl))))))))))
 exact Br h25 (Br h25 (Br h25 (Br h25 (Br h25 (E2 h25 (Nt q25 h25) rfl)))))
 intro b25 q25
 apply Cx (b25 && (a.fPresent == b.fPresent))
 intro b26 q26
 refine Ac (b25) (fun h26 => ?_) fun h26 => ?_
 exact Bs h26 (B0 (Bs h26 (Ec (c := sb a.fPresent) B1 (Cr rfl) rfl (Bs h26 (B0 (Bs h26 (Ec (c := sb b.fPresent) B2 (Cr rfl) rfl (Bs h26 (O5 (v := sb (a.fPresent == b.fPresent)) (fun k => rfl) (E3 h26 (Nu q26 h26) rfl))))))))))
 exact Br h26 (Br h26 (Br h26 (Br h26 (Br h26 (E2 h26 (Nt q26 h26) rfl)))))
 intro b26 q26
 exact T7 (by subst_vars; simp only [Dm, Mk, Gr]; ac_rfl)
end
set_option maxHeartbeats 32000000
section
open Go
def Cn (t : Int) : PacketV := ⟨t, false, 0, false, 0, ⟨#[]⟩, ⟨#[]⟩, ⟨#[]⟩, 0, false, 0, false, ⟨#[]⟩, ⟨#[]⟩, 0, false, false, ⟨#[]⟩, false, ⟨#[]⟩, 0, false, [], [], []⟩
def Xf (p q : PacketV) : PacketV := if p.fHasWill then { q with fHasWill := true, fWTopic := p.fWTopic, fWBody := p.fWBody, fWQos := p.fWQos, fWRetain := p.fWRetain } else q
def Xe (p q : PacketV) : PacketV := if p.fHasUser then (if p.fHasPass then { q with fHasUser := true, fUser := p.fUser, fHasPass := true, fPass := p.fPass } else { q with fHasUser := true, fUser := p.fUser }) else q
def Db (pc : Bool) (p : PacketV) : PacketV :=
 if p.fType = 1 then Xe p (Xf p { Cn p.fType with fClient := p.fClient, fLevel := p.fLevel, fClean := p.fClean, fKeep := p.fKeep })
 else if p.fType = 2 then { Cn p.fType with fCode := p.fCode, fPresent := p.fPresent && (!pc || decide (p.fCode = 0)) }
 else if p.fType = 3 then (if 0 < p.fQos then { Cn p.fType with fQos := p.fQos, fRetain := p.fRetain, fTopic := p.fTopic, fBody := p.fBody, fDup := p.fDup, fId := p.fId } else { Cn p.fType with fQos := p.fQos, fRetain := p.fRetain, fTopic := p.fTopic, fBody := p.fBody })
 else if p.fType = 4 ∨ p.fType = 5 ∨ p.fType = 6 ∨ p.fType = 7 ∨ p.fType = 11 then { Cn p.fType with fId := p.fId }
 else if p.fType = 8 then { Cn p.fType with fId := p.fId, fWants := p.fWants }
 else if p.fType = 9 then { Cn p.fType with fId := p.fId, fCodes := p.fCodes }
 else if p.fType = 10 then { Cn p.fType with fId := p.fId, fNames := p.fNames }
 else Cn p.fType
section
variable {β : Type} {H : Ab} {L L1 : List Ck} {G : Option β → Prop} {K : AV → Option β} {KH : KO β}
theorem Aob {P : Prop} [Decidable P] {x y : Option β} (h1 : P → Gd G x) (h2 : ¬ P → Gd G y) : Gd G (C8 (.sc (.bool (decide P))) x y) := g_c (fun h => h1 (of_decide_eq_true h)) (fun h => h2 (of_decide_eq_false h))
theorem Aoc {b : Bool} {x y : Option β} (h1 : b = true → Gd G x) (h2 : ¬ b = true → Gd G y) : Gd G (C8 (.sc (.bool b)) x y) := g_c h1 (fun h => h2 (by rw [h]; decide))
theorem Aoe {b : Bool} {m : (KO β) → Option β} (h1 : b = true → Gd G (Fg (.sc (.bool b)) true H m fun x H => KH x H)) (h2 : b = false → Gd G (Fg (.sc (.bool b)) true H m fun x H => KH x H)) : Gd G (Fg (.sc (.bool b)) true H m fun x H => KH x H) := by
 cases b
 exact h2 rfl
 exact h1 rfl
theorem Aod {b : Bool} {m : (KO β) → Option β} (hb : b = false) (h : Gd G (KH (.sc undef) H)) : Gd G (Fg (.sc (.bool b)) true H m fun x H => KH x H) := Am hb h
theorem Aog {i o : Nat} {cs : List AV} {a : Bool} {y : AV} {KS : Ab → Option β} (hs : Sep H L) (hp : Pk L (.blk i cs a) L1) (hy : A2 y = true) (hl : Nat.ble (o + 1) cs.length = true) (h : ∀ H', Sep H' (.blk i (cs.set o y) a :: L1) → Gd G (KS H')) : Gd G (Ej 1 (.ptr i o) y H fun H => KS H) := Cd hs hp (Ch hy) rfl (Cr hl) (by
 unfold Fh
 have := Cr hl
 rw [List.set_eq_take_append_cons_drop, if_pos (by omega)]
 simp) h
theorem nmE {i1 i2 i3 : Nat} {cs ds es : List AV} {q : PacketV} (hk : ∀ raw H', (∀ L', VwL L' 7 raw (Ag q)) → Sep H' L → Gd G (KH (.agg raw) H')) (hs : Sep H (.blk i3 cs true :: .blk i2 ds true :: .blk i1 es true :: L)) (h3 : cs.length = 25) (h2 : ds.length = 25) (hl : cs.all A2 = true) (hv : ∀ L', VwL L' 7 cs (Ag q)) : Gd G (Bx true 25 (.ptr i3 0) H fun t => Ej 25 (.ptr i2 0) t H fun H => Bx true 25 (.ptr i2 0) H fun r0 => KH r0 H) := by
 exact Av hs .here h3 (Cd (cs' := cs) hs (.there .here) (Aj hl) h3 (by omega) (by unfold Fh; rw [h3, ← h2]; simp) fun H' s' => Av s' .here h3 (hk _ _ hv s'.tail.tail.tail))
end
def nmZ (t : Int) : List AV := [.sc (.int .i64 t), .sc (.bool false), .sc (.int .i64 0), .sc (.bool false), .sc (.int .i64 0), .sc (.string ⟨#[]⟩), .nl, .sc (.string ⟨#[]⟩), .sc (.int .i64 0), .sc (.bool false), .sc (.int .i64 0), .sc (.bool false), .sc (.string ⟨#[]⟩), .nl, .sc (.int .i64 0), .sc (.bool false), .sc (.bool false), .sc (.string ⟨#[]⟩), .sc (.bool false), .nl, .sc (.int .i64 0), .sc (.bool false), .nl, .nl, .nl]
theorem AcF (n : Nat) (hn : 1048576 < n) (p : PacketV) {β : Type} {G : Option β → Prop} {KH : KO β} {H : Ab} {L : List Ck} (s0 : Sep H (L)) (hk : ∀ raw H', (∀ L', VwL L' 7 raw (Ag (Db false p))) → Sep H' L → Gd G (KH (.agg raw) H')) : Gd G (Dy E0 (n + 1) β 105 [.agg (Ag p)] H fun x H => KH x H) := by
 rw [Ajx, f105]
 simp only [Fa, E9, D4]
 refine Ka s0 (Ez (Dg _)) fun i1 H s2 => Gv s2 fun i3 H s4 => Q9 (Bd (c := si p.fType) s4 Cl rfl (Aw (cs := nmZ p.fType) rfl (Gv s4 fun i5 H s6 => Cd (cs' := nmZ p.fType) s6 (.here) (Aj rfl) rfl (Cr rfl) rfl fun H s7 => ?_)))
 simp only [nmZ] at s7
 repeat' first
  | with_reducible refine C6 rfl ?_
  | (with_reducible show Gd _ (Bx false _ _ _ _); refine Bd ‹_› (by first | exact .here | exact .there .here | exact .there (.there .here)) rfl ?_)
  | (with_reducible show Gd _ (Ej 1 _ _ _ _); refine Aog ‹_› (by first | exact .here | exact .there .here | exact .there (.there .here)) rfl rfl fun _ sx => ?_; simp only [List.set_cons_succ, zbP, za0] at sx)
  | with_reducible refine AhY ?_
  | (with_reducible show Gd _ (Oz _ _ _ _); refine Ad9 ‹_› (by first | exact .here | exact .there .here | exact .there (.there .here)) (zAp (.here)) ?_)
  | with_reducible refine Ce ?_
  | with_reducible refine D5 ?_
  | with_reducible first | refine Ao ‹_› ?_ | refine Aod ‹_› ?_ | refine Aoe (fun _ => ?_) fun _ => ?_
  | with_reducible first | refine D7 ‹_› ?_ | refine D3 ‹_› ?_
  | with_reducible refine Au rfl ?_
  | with_reducible refine A6 rfl ?_
  | (with_reducible show Gd _ (C8 (.sc (.bool (decide _))) _ _); first | refine Au (decide_eq_true (by omega)) ?_ | refine A6 (decide_eq_false (by omega)) ?_ | refine Aob (fun _ => ?_) fun _ => ?_)
  | with_reducible refine Aoc (fun _ => ?_) fun _ => ?_
  | (refine nmE hk ‹_› rfl rfl rfl fun L' => ?_)
 all_goals
  unfold Db Xf Xe Cn
  repeat' first | (exfalso; omega) | contradiction | split
 all_goals first | rw [(by assumption : p.fHasWill = true)] | rw [zaZ.2 (by assumption : ¬ p.fHasWill = true)] | rw [(by assumption : p.fHasWill = false)] | skip
 all_goals first | rw [(by assumption : p.fHasUser = true)] | rw [zaZ.2 (by assumption : ¬ p.fHasUser = true)] | rw [(by assumption : p.fHasUser = false)] | skip
 all_goals first | rw [(by assumption : p.fHasPass = true)] | rw [zaZ.2 (by assumption : ¬ p.fHasPass = true)] | rw [(by assumption : p.fHasPass = false)] | skip
 all_goals try simp only [zaw, zau, zaU, za7, za6, za2, za4]
 all_goals (repeat first | exact .nil | refine .cons .sc ?_ | refine .cons .ro ?_ | refine .cons .nl ?_)
theorem AcW (n : Nat) (hn : 1048576 < n) (p : PacketV) {β : Type} {G : Option β → Prop} {KH : KO β} {H : Ab} {L : List Ck} (s0 : Sep H (L)) (hk : ∀ raw H', (∀ L', VwL L' 7 raw (Ag (Db true p))) → Sep H' L → Gd G (KH (.agg raw) H')) : Gd G (Dy E0 (n + 1) β 90 [.agg (Ag p)] H fun x H => KH x H) := by
 rw [Ans, f90]
 simp only [Fa, E9, D4]
 refine Ka s0 (Ez (Dg _)) fun i1 H s2 => Gv s2 fun i3 H s4 => Q9 (Bd (c := si p.fType) s4 Cl rfl (Aw (cs := nmZ p.fType) rfl (Gv s4 fun i5 H s6 => Cd (cs' := nmZ p.fType) s6 (.here) (Aj rfl) rfl (Cr rfl) rfl fun H s7 => ?_)))
 simp only [nmZ] at s7
 repeat' first
  | with_reducible refine C6 rfl ?_
  | (with_reducible show Gd _ (Bx false _ _ _ _); refine Bd ‹_› (by first | exact .here | exact .there .here | exact .there (.there .here)) rfl ?_)
  | (with_reducible show Gd _ (Ej 1 _ _ _ _); refine Aog ‹_› (by first | exact .here | exact .there .here | exact .there (.there .here)) rfl rfl fun _ sx => ?_; simp only [List.set_cons_succ, zbP, za0] at sx)
  | with_reducible refine AhY ?_
  | (with_reducible show Gd _ (Oz _ _ _ _); refine Ad9 ‹_› (by first | exact .here | exact .there .here | exact .there (.there .here)) (zAp (.here)) ?_)
  | with_reducible refine Ce ?_
  | with_reducible refine D5 ?_
  | with_reducible first | refine Ao ‹_› ?_ | refine Aod ‹_› ?_ | refine Aoe (fun _ => ?_) fun _ => ?_
  | with_reducible first | refine D7 ‹_› ?_ | refine D3 ‹_› ?_
  | with_reducible refine Au rfl ?_
  | with_reducible refine A6 rfl ?_
  | (with_reducible show Gd _ (C8 (.sc (.bool (decide _))) _ _); first | refine Au (decide_eq_true (by omega)) ?_ | refine A6 (decide_eq_false (by omega)) ?_ | refine Aob (fun _ => ?_) fun _ => ?_)
  | with_reducible refine Aoc (fun _ => ?_) fun _ => ?_
  | (refine nmE hk ‹_› rfl rfl rfl fun L' => ?_)
 all_goals
  unfold Db Xf Xe Cn
  repeat' first | (exfalso; omega) | contradiction | split
 all_goals first | rw [(by assumption : p.fHasWill = true)] | rw [zaZ.2 (by assumption : ¬ p.fHasWill = true)] | rw [(by assumption : p.fHasWill = false)] | skip
 all_goals first | rw [(by assumption : p.fHasUser = true)] | rw [zaZ.2 (by assumption : ¬ p.fHasUser = true)] | rw [(by assumption : p.fHasUser = false)] | skip
 all_goals first | rw [(by assumption : p.fHasPass = true)] | rw [zaZ.2 (by assumption : ¬ p.fHasPass = true)] | rw [(by assumption : p.fHasPass = false)] | skip
 all_goals first | rw [(by assumption : p.fPresent = true)] | rw [zaZ.2 (by assumption : ¬ p.fPresent = true)] | rw [(by assumption : p.fPresent = false)] | skip
 all_goals try simp only [zaw, zau, zaU, za7, za6, za2, za4]
 all_goals (repeat first | exact .nil | refine .cons .sc ?_ | refine .cons .ro ?_ | refine .cons .nl ?_)
end
section
open Go
def C4 (w : WantV) : Bool := Cp w.fFilter && Eg w.fQos 0 2
def Cw (c : Int) : Bool := Eg c 0 2 || decide (c = 128)
def Ge (p : PacketV) : Bool := Eg (((p.fWants.length : Nat) : Int) + ((p.fNames.length : Nat) : Int) + ((p.fCodes.length : Nat) : Int)) 1 4
def J3 (p : PacketV) : Bool := p.fCodes.all Cw && Ge p
def Jb (p : PacketV) : Bool := p.fNames.all Cp && J3 p
def Ku (p : PacketV) : Bool := p.fWants.all C4 && Jb p
def Jz (p : PacketV) : Bool := (Eg p.fLevel 0 255 && (Bv p.fClient && (Eg p.fKeep 0 65535 && ((!p.fHasWill || (Ht p.fWTopic && (decide (((p.fWBody.size : Nat) : Int) ≤ 40) && Eg p.fWQos 0 2))) && (Bv p.fUser && decide (((p.fPass.size : Nat) : Int) ≤ 60))))))
def Fw (p : PacketV) : Bool :=
 if p.fType = 1 then Jz p
 else if p.fType = 2 then Eg p.fCode 0 5 && (!p.fPresent || decide (p.fCode = 0))
 else if p.fType = 3 then Eg p.fQos 0 2 && (Ht p.fTopic && (decide (((p.fBody.size : Nat) : Int) ≤ 40) && (decide (p.fQos = 0) || Eg p.fId 1 65535)))
 else if p.fType = 4 ∨ p.fType = 5 ∨ p.fType = 6 ∨ p.fType = 7 ∨ p.fType = 11 then Eg p.fId 1 65535
 else if p.fType = 8 ∨ p.fType = 9 ∨ p.fType = 10 then Eg p.fId 1 65535 && Ku p
 else true
def A7 (p : PacketV) : Bool := Eg p.fType 1 14 && (Dm p (Db false p) && Fw p)
structure H5 (p : PacketV) : Prop where
 t1 : p.fTopic.size ≤ 1048576
 t2 : p.fClient.size ≤ 1048576
 t3 : p.fWTopic.size ≤ 1048576
 t4 : p.fUser.size ≤ 1048576
 l1 : p.fWants.length ≤ 1048576
 l2 : p.fNames.length ≤ 1048576
 l3 : p.fCodes.length ≤ 1048576
 w1 : ∀ y ∈ p.fWants, y.fFilter.size ≤ 1048576
 w2 : ∀ y ∈ p.fNames, y.size ≤ 1048576
theorem Xi {s : ByteArray} (h : s.size ≤ 1048576) : okS s := by unfold okS; omega
section
variable {β : Type} {n : Nat} {H : Ab} {L L1 : List Ck} {G : Option β → Prop} {K : AV → Option β} {KH : KO β}
theorem Hb {ty : Nat} {f : FuncId} {args vs : List AV} {e : Bool} (hs : Sep H L) (hh : Ek f = false) (hv : VwL L 8 args vs) (ht : Cb E0 n ty f vs = some (.sc (.bool e))) (h1 : e = true → Gd G (KH (.sc (.bool true)) H)) (h2 : e = false → Gd G (KH (.sc (.bool false)) H)) : Gd G ((PR n β).call ty (.fn f [] []) args H fun x H => KH x H) := Bm hs hh hv ht (by
 cases e
 exact h2 rfl
 exact h1 rfl)
theorem Aml {ty f : Nat} {g : Nat → List AV → Option AV} {args vs : List AV} {e : Bool} (hg : E0.ext f = some g) (hv : args.mapM (C5 H 8) = some vs) (ht : g ty vs = some (.sc (.bool e))) (h1 : e = true → Gd G (KH (.sc (.bool true)) H)) (h2 : e = false → Gd G (KH (.sc (.bool false)) H)) : Gd G ((PR n β).call ty (.fn f [] []) args H fun x H => KH x H) := Aao hg hv ht (by
 cases e
 exact h2 rfl
 exact h1 rfl)
theorem Aeb {b : Bool} {m : (KO β) → Option β} (hb : b = false) (h : Gd G (KH (.sc undef) H)) : Gd G (Fg (.sc (.bool b)) true H m fun x H => KH x H) := Am hb h
theorem Aec {b : Bool} {m : (KO β) → Option β} (hb : b = true) (h : Gd G (KH (.sc undef) H)) : Gd G (Fg (.sc (.bool b)) false H m fun x H => KH x H) := Am hb h
theorem AfT {b : Bool} (hb : b = true) (h : Gd G (K (.sc (.bool false)))) : Gd G (pUn .not (.sc (.bool b)) fun t => K t) := by subst hb; exact Cv h
theorem AfS {b : Bool} (hb : b = false) (h : Gd G (K (.sc (.bool true)))) : Gd G (pUn .not (.sc (.bool b)) fun t => K t) := by subst hb; exact Cv h
theorem Aib {a b : Bool} {X : Option AV} (e : a = b) (h : Gd (· = some (.sc (.bool b))) X) : Gd (· = some (.sc (.bool a))) X := by rw [e]; exact h
theorem AcB {a b : Bool} (e : a = b) : Gd (· = some (.sc (.bool a))) (some (AV.sc (.bool b))) := by rw [e]; rfl
theorem Amk {P : Prop} [Decidable P] {F : Bool → Prop} (h1 : P → F true) (h2 : ¬ P → F false) : F (decide P) := by
 by_cases h : P
 rw [decide_eq_true h]; exact h1 h
 rw [decide_eq_false h]; exact h2 h
theorem Yx {a b : Int} (h1 : a = b → Gd G (K (.sc (.bool true)))) (h2 : ¬ a = b → Gd G (K (.sc (.bool false)))) : Gd G (Bz .eql (.sc (.int .i64 a)) (.sc (.int .i64 b)) fun t => K t) := Ce (Amk (F := fun b => Gd G (K (.sc (.bool b)))) h1 h2)
theorem AfR {a b : Int} (h1 : a ≤ b → Gd G (K (.sc (.bool true)))) (h2 : ¬ a ≤ b → Gd G (K (.sc (.bool false)))) : Gd G (Bz .leq (.sc (.int .i64 a)) (.sc (.int .i64 b)) fun t => K t) := AdC (Amk (F := fun b => Gd G (K (.sc (.bool b)))) h1 h2)
theorem Aof {a b : Int} (h1 : ¬ a ≤ b → Gd G (K (.sc (.bool true)))) (h2 : a ≤ b → Gd G (K (.sc (.bool false)))) : Gd G (Bz .gtr (.sc (.int .i64 a)) (.sc (.int .i64 b)) fun t => K t) := D5 (Amk (F := fun b => Gd G (K (.sc (.bool b)))) (fun h => h1 (by omega)) (fun h => h2 (by omega)))
theorem Amp (h : Gd G (K (.sc (.bool false)))) : Gd G (pUn .not (.sc (.bool true)) fun t => K t) := Cv h
theorem Amo (h : Gd G (K (.sc (.bool true)))) : Gd G (pUn .not (.sc (.bool false)) fun t => K t) := Cv h
theorem Amn {b : Bool} (h1 : b = true → Gd G (K (.sc (.bool false)))) (h2 : b = false → Gd G (K (.sc (.bool true)))) : Gd G (pUn .not (.sc (.bool b)) fun t => K t) := Cv (by
 cases b
 exact h2 rfl
 exact h1 rfl)
theorem Aoa {b : Bool} {x y : Option β} (h1 : b = true → Gd G x) (h2 : b = false → Gd G y) : Gd G (C8 (.sc (.bool b)) x y) := g_c h1 h2
theorem Amm {b t : Bool} {m : (KO β) → Option β} (h1 : b = true → Gd G (Fg (.sc (.bool true)) t H m fun x H => KH x H)) (h2 : b = false → Gd G (Fg (.sc (.bool false)) t H m fun x H => KH x H)) : Gd G (Fg (.sc (.bool b)) t H m fun x H => KH x H) := by
 cases b
 exact h2 rfl
 exact h1 rfl
end
theorem An9 (n : Nat) (i : Int) : Cb E0 (n + 2) 4 109 [.sc (.int .i64 i)] = some (.sc (.bool (Eg i 1 65535))) := by
 rw [At, Aj1, f109]
 refine B8 (G := (· = some (sb (Eg i 1 65535)))) ?_
 try simp only [Fa, E9]
 have s0 : Sep [] [] := B4
 refine Bm (v := (.bool (Eg i 1 65535))) s0 rfl (vS3 .nil) (Lq n _ i 1 65535) (Al rfl ?_)
 first | rfl | (simp_all; done)
theorem Ve (n : Nat) (i : Int) : Cb E0 (n + 2) 4 107 [.sc (.int .i64 i)] = some (.sc (.bool (Eg i 0 2))) := by
 rw [At, Ajz, f107]
 refine B8 (G := (· = some (sb (Eg i 0 2)))) ?_
 try simp only [Fa, E9]
 have s0 : Sep [] [] := B4
 refine Bm (v := (.bool (Eg i 0 2))) s0 rfl (vS3 .nil) (Lq n _ i 0 2) (Al rfl ?_)
 first | rfl | (simp_all; done)
theorem Ain (n : Nat) (i : Int) : Cb E0 (n + 2) 4 118 [.sc (.int .i64 i)] = some (.sc (.bool (Eg i 0 65535))) := by
 rw [At, Aj8, f118]
 refine B8 (G := (· = some (sb (Eg i 0 65535)))) ?_
 try simp only [Fa, E9]
 have s0 : Sep [] [] := B4
 refine Bm (v := (.bool (Eg i 0 65535))) s0 rfl (vS3 .nil) (Lq n _ i 0 65535) (Al rfl ?_)
 first | rfl | (simp_all; done)
theorem Aci (n : Nat) (hn : 1048576 < n) (p : PacketV) (hp : H5 p) : Cb E0 (n + 6) 4 106 [.agg (Ag p)] = some (.sc (.bool (Jz p))) := by
 rw [At, Ajy, f106]
 refine B8 (G := (· = some (sb (Jz p)))) ?_
 simp only [Fa, E9, D4]
 have hl1 := hp.l1
 have hl2 := hp.l2
 have hl3 := hp.l3
 refine Ka (B4 : Sep [] []) (Ez (Dg _)) fun i1 H s1 => ?_
 repeat' first
  | with_reducible first | refine Ao rfl ?_ | refine Aeb rfl ?_ | refine Aec rfl ?_ | refine Hw ?_ | refine Ao ‹_› ?_ | refine Aeb ‹_› ?_ | refine Aec ‹_› ?_ | refine Amm (fun _ => ?_) fun _ => ?_
  | with_reducible refine C6 rfl ?_
  | ((with_reducible show Gd _ (Bx false _ _ _ _)); refine Bd ‹_› .here rfl ?_)
  | with_reducible first | refine Amp ?_ | refine Amo ?_ | refine AfT ‹_› ?_ | refine AfS ‹_› ?_ | refine Amn (fun _ => ?_) fun _ => ?_
  | with_reducible refine AfR (fun _ => ?_) fun _ => ?_
  | with_reducible first | refine D7 rfl ?_ | refine D3 rfl ?_ | refine D7 ‹_› ?_ | refine D3 ‹_› ?_
  | ((with_reducible show Gd _ (Ik _ _)); refine Dd ?_)
  | ((with_reducible show Gd _ (Pr.call _ _ (.fn 98 [] []) _ _ _)); refine Hb ‹_› rfl (vS3 .nil) (Lq (n + 4) _ _ _ _) (fun _ => ?_) fun _ => ?_)
  | ((with_reducible show Gd _ (Pr.call _ _ (.fn 118 [] []) _ _ _)); refine Hb ‹_› rfl (.cons .sc .nil) (Ain (n + 3) _) (fun _ => ?_) fun _ => ?_)
  | ((with_reducible show Gd _ (Pr.call _ _ (.fn 107 [] []) _ _ _)); refine Hb ‹_› rfl (.cons .sc .nil) (Ve (n + 3) _) (fun _ => ?_) fun _ => ?_)
  | ((with_reducible show Gd _ (Pr.call _ _ (.fn 108 [] []) _ _ _)); refine Hb ‹_› rfl (.cons .sc .nil) (W1 n (by omega) _ _ hp.t3) (fun _ => ?_) fun _ => ?_)
  | ((with_reducible show Gd _ (Pr.call _ _ (.fn 135 [] []) _ _ _)); refine Aml rfl rfl (Qs _ _ (Xi (by first | exact hp.t2 | exact hp.t4))) (fun _ => ?_) fun _ => ?_)
  | with_reducible refine AcB ?_
  | (refine Al rfl ?_; refine congrArg (fun b => some (AV.sc (.bool b))) (Eq.symm ?_))
 all_goals first | (simp only [Jz, *, if_true, if_false, decide_true, decide_false, true_or, or_true, false_or, or_false, reduceIte, zaa, F3]; done) | (simp only [Jz, *, if_true, if_false, decide_true, decide_false, true_or, or_true, false_or, or_false, reduceIte, zaa, F3]; omega) | (simp [Jz, *]; done)
theorem P3 (n : Nat) (hn : 1048576 < n) (p : PacketV) (hp : H5 p)   : ∀ (t pre : List Int) (m : Nat) (i : Int) (i1 : Nat) (H : Ab), p.fCodes = pre ++ t → i = ((pre.length : Nat) : Int) → t.length < m → Sep H [.blk i1 (Ag p) true] → Gd (· = some (.sc (.bool (t.all Cw && Ge p)))) (Oe (PR (n + 6) AV) (n + 6) (fun x H => A4 Ak E0.tp 4 H x) m (.ptr i1 0) (Ey p.fCodes) (.sc (.int .i64 ((p.fCodes.length : Nat) : Int))) (.sc (.int .i64 i)) H)
 | [], pre, m + 1, i, i1, H, he, hi, hm, s0 => by
  obtain rfl : pre = p.fCodes := by simpa using he.symm
  have hl1 := hp.l1
  have hl2 := hp.l2
  have hl3 := hp.l3
  have hlen := hp.l3
  rw [Oe]
  try simp only [Fa, E9]
  refine Dq (A6 (by simp [hi]) (Py (Bd (c := Bl Bu p.fWants) s0 (.here) rfl (Dd (Pz (Bd (c := Et p.fNames) s0 (.here) rfl (Dd (Bq (by omega) (by omega) (Q6 (Bd (c := Ey p.fCodes) s0 (.here) rfl (Dd (Bq (by omega) (by omega) (Bm (v := (.bool (Eg ((((p.fWants.length : Nat) : Int) + ((p.fNames.length : Nat) : Int)) + ((p.fCodes.length : Nat) : Int)) 1 4))) s0 rfl (vS3 .nil) (Lq (n + 5) _ ((((p.fWants.length : Nat) : Int) + ((p.fNames.length : Nat) : Int)) + ((p.fCodes.length : Nat) : Int)) 1 4) (Al rfl ?_))))))))))))))
  have e : ([].all Cw && Ge p) = (Eg ((((p.fWants.length : Nat) : Int) + ((p.fNames.length : Nat) : Int)) + ((p.fCodes.length : Nat) : Int)) 1 4) := by
   simp only [zaz, zbl, C4, Cw, Ge, F3]
  ·rw [e]
   first | done | rfl
 | y :: t, pre, m + 1, i, i1, H, he, hi, hm, s0 => by
  have hlt : pre.length < p.fCodes.length := by rw [he]; simp
  have hl1 := hp.l1
  have hl2 := hp.l2
  have hl3 := hp.l3
  have hlen := hp.l3
  rw [Oe]
  try simp only [Fa, E9]
  refine Dq (Au (by simp [hi]; omega) (Nr hi he (Fq (c := .sc (.int .i64 y)) rfl (Bm (v := (.bool (Eg y 0 2))) s0 rfl (.cons .sc .nil) (Ve (n + 4) y) (Cv (Ac ((Eg y 0 2)) (fun h201 => ?_) fun h201 => ?_))))))
  refine Am (nF h201) (Am (nF h201) (D3 (nF h201) (A6 rfl (Bq (by omega) (by omega) ?_))))
  have e202 : ((y :: t).all Cw && Ge p) = (t.all Cw && Ge p) := by
   simp only [zaz, C4, Cw, h201, za2, za6, za7, zb4, zaU, zbN, za4, zau, zaw]
  rw [e202]
  exact P3 n hn p hp   t (pre ++ [y]) m _ i1 _ (by rw [he]; simp) (by rw [hi]; simp) (by simpa using hm) (by simpa only [zaF, zat, zaO] using (s0.sel (.cons (.here) .nil)))
  refine Ao (nT h201) (Ao (nT h201) (My (D7 (nT h201) (Ac ((decide (y = 128))) (fun h203 => ?_) fun h203 => ?_))))
  refine A6 (nF h203) (Bq (by omega) (by omega) ?_)
  have e204 : ((y :: t).all Cw && Ge p) = (t.all Cw && Ge p) := by
   simp only [zaz, C4, Cw, h201, h203, za2, za6, za7, zb4, zaU, zbN, za4, zau, zaw]
  rw [e204]
  exact P3 n hn p hp   t (pre ++ [y]) m _ i1 _ (by rw [he]; simp) (by rw [hi]; simp) (by simpa using hm) (by simpa only [zaF, zat, zaO] using (s0.sel (.cons (.here) .nil)))
  refine Au (nT h203) (Al rfl ?_)
  have e : ((y :: t).all Cw && Ge p) = false := by
   simp only [zaz, zbl, C4, Cw, Ge, h201, h203, F3]
  ·rw [e]
   first | done | rfl
theorem Um (n : Nat) (hn : 1048576 < n) (p : PacketV) (hp : H5 p)   : ∀ (t pre : List ByteArray) (m : Nat) (i : Int) (i1 : Nat) (H : Ab), p.fNames = pre ++ t → i = ((pre.length : Nat) : Int) → t.length < m → Sep H [.blk i1 (Ag p) true] → Gd (· = some (.sc (.bool (t.all Cp && J3 p)))) (Lb (PR (n + 6) AV) (n + 6) (fun x H => A4 Ak E0.tp 4 H x) m (.ptr i1 0) (Et p.fNames) (.sc (.int .i64 ((p.fNames.length : Nat) : Int))) (.sc (.int .i64 i)) H)
 | [], pre, m + 1, i, i1, H, he, hi, hm, s0 => by
  obtain rfl : pre = p.fNames := by simpa using he.symm
  have hl1 := hp.l1
  have hl2 := hp.l2
  have hl3 := hp.l3
  have hlen := hp.l2
  rw [Lb]
  try simp only [Fa, E9]
  refine Dq (A6 (by simp [hi]) (Q6 (Bd (c := Ey p.fCodes) s0 (.here) rfl (Dd ?_))))
  rw [zbl, za2]
  have hv : J3 p = (p.fCodes.all Cw && Ge p) := rfl
  rw [hv]
  exact P3 n hn p hp   p.fCodes [] _ 0 i1 _ rfl rfl (by omega) s0
 | y :: t, pre, m + 1, i, i1, H, he, hi, hm, s0 => by
  have hlt : pre.length < p.fNames.length := by rw [he]; simp
  have hl1 := hp.l1
  have hl2 := hp.l2
  have hl3 := hp.l3
  have hlen := hp.l2
  rw [Lb]
  try simp only [Fa, E9]
  refine Dq (Au (by simp [hi]; omega) (Q4 hi he (Fq (c := .sc (.string y)) rfl (Bm (v := (.bool (Cp y))) s0 rfl (.cons .sc .nil) (Uh n (by omega) y (hp.w2 y (by rw [he]; simp)) (Xi (hp.w2 y (by rw [he]; simp)))) (Cv (Ac ((Cp y)) (fun h201 => ?_) fun h201 => ?_))))))
  refine A6 (nF h201) (Bq (by omega) (by omega) ?_)
  have e202 : ((y :: t).all Cp && J3 p) = (t.all Cp && J3 p) := by
   simp only [zaz, C4, Cw, h201, za2, za6, za7, zb4, zaU, zbN, za4, zau, zaw]
  rw [e202]
  exact Um n hn p hp   t (pre ++ [y]) m _ i1 _ (by rw [he]; simp) (by rw [hi]; simp) (by simpa using hm) (by simpa only [zaF, zat, zaO] using (s0.sel (.cons (.here) .nil)))
  refine Au (nT h201) (Al rfl ?_)
  have e : ((y :: t).all Cp && J3 p) = false := by
   simp only [zaz, zbl, C4, Cw, Ge, h201, F3]
  ·rw [e]
   first | done | rfl
theorem Ul (n : Nat) (hn : 1048576 < n) (p : PacketV) (hp : H5 p)   : ∀ (t pre : List WantV) (m : Nat) (i : Int) (i1 : Nat) (H : Ab), p.fWants = pre ++ t → i = ((pre.length : Nat) : Int) → t.length < m → Sep H [.blk i1 (Ag p) true] → Gd (· = some (.sc (.bool (t.all C4 && Jb p)))) (La (PR (n + 6) AV) (n + 6) (fun x H => A4 Ak E0.tp 4 H x) m (.ptr i1 0) (Bl Bu p.fWants) (.sc (.int .i64 ((p.fWants.length : Nat) : Int))) (.sc (.int .i64 i)) H)
 | [], pre, m + 1, i, i1, H, he, hi, hm, s0 => by
  obtain rfl : pre = p.fWants := by simpa using he.symm
  have hl1 := hp.l1
  have hl2 := hp.l2
  have hl3 := hp.l3
  have hlen := hp.l1
  rw [La]
  try simp only [Fa, E9]
  refine Dq (A6 (by simp [hi]) (Pz (Bd (c := Et p.fNames) s0 (.here) rfl (Dd ?_))))
  rw [zbl, za2]
  have hv : Jb p = (p.fNames.all Cp && J3 p) := rfl
  rw [hv]
  exact Um n hn p hp   p.fNames [] _ 0 i1 _ rfl rfl (by omega) s0
 | y :: t, pre, m + 1, i, i1, H, he, hi, hm, s0 => by
  have hlt : pre.length < p.fWants.length := by rw [he]; simp
  have hl1 := hp.l1
  have hl2 := hp.l2
  have hl3 := hp.l3
  have hlen := hp.l1
  rw [La]
  try simp only [Fa, E9]
  refine Dq (Au (by simp [hi]; omega) (Pv hi Gy (by decide) he (AlW (Gy _) (Gv s0 fun i201 H s202 => Cd (cs' := Bu y) s202 (.here) (Ez (Wu _)) rfl (Cr rfl) rfl fun H s203 => Q9 (Bd (c := .sc (.string y.fFilter)) s203 (.here) rfl (Bm (v := (.bool (Cp y.fFilter))) s203 rfl (.cons .sc .nil) (Uh n (by omega) y.fFilter (hp.w1 y (by rw [he]; simp)) (Xi (hp.w1 y (by rw [he]; simp)))) (Cv (Ac ((Cp y.fFilter)) (fun h204 => ?_) fun h204 => ?_))))))))
  refine Ao (nF h204) (gf1 (Ao (nF h204) (Bd (c := si y.fQos) s203 (.here) rfl (Ao (nF h204) (Bm (v := (.bool (Eg y.fQos 0 2))) s203 rfl (.cons .sc .nil) (Ve (n + 4) y.fQos) (Ao (nF h204) (Cv (D3 (nF h204) (Ac ((Eg y.fQos 0 2)) (fun h205 => ?_) fun h205 => ?_)))))))))
  refine A6 (nF h205) (Bq (by omega) (by omega) ?_)
  have e206 : ((y :: t).all C4 && Jb p) = (t.all C4 && Jb p) := by
   simp only [zaz, C4, Cw, h204, h205, za2, za6, za7, zb4, zaU, zbN, za4, zau, zaw]
  rw [e206]
  exact Ul n hn p hp   t (pre ++ [y]) m _ i1 _ (by rw [he]; simp) (by rw [hi]; simp) (by simpa using hm) (by simpa only [zaF, zat, zaO] using (s203.sel (.cons Cl .nil)))
  refine Au (nT h205) (Al rfl ?_)
  have e : ((y :: t).all C4 && Jb p) = false := by
   simp only [zaz, zbl, C4, Cw, Ge, h204, h205, F3]
  ·rw [e]
   first | done | rfl
  refine Am (nT h204) (Am (nT h204) (Am (nT h204) (Am (nT h204) (D7 (nT h204) (Au rfl (Al rfl ?_))))))
  have e : ((y :: t).all C4 && Jb p) = false := by
   simp only [zaz, zbl, C4, Cw, Ge, h204, F3]
  ·rw [e]
   first | done | rfl
theorem Aiv (n : Nat) (hn : 1048576 < n) (p : PacketV) (hp : H5 p) : Cb E0 (n + 7) 4 110 [.agg (Ag p)] = some (.sc (.bool (Ku p))) := by
 rw [At, Aj2, f110]
 refine B8 (G := (· = some (sb (Ku p)))) ?_
 have hl1 := hp.l1
 have hl2 := hp.l2
 have hl3 := hp.l3
 try simp only [Fa, E9]
 have s0 : Sep [] [] := B4
 refine Ka s0 (Ez (Dg _)) fun i1 H s2 => Py (Bd (c := Bl Bu p.fWants) s2 (.here) rfl (Dd ?_))
 have hv : Ku p = (p.fWants.all C4 && Jb p) := rfl
 rw [hv]
 exact Ul n hn p hp   p.fWants [] _ 0 i1 _ rfl rfl (by omega) s2
theorem Tj (n : Nat) (hn : 1048576 < n) (p : PacketV) (hp : H5 p) : Cb E0 (n + 10) 4 70 [.agg (Ag p)] = some (.sc (.bool (A7 p))) := by
 rw [At, Anf, f70]
 refine B8 (G := (· = some (sb (A7 p)))) ?_
 simp only [Fa, E9, D4]
 have hl1 := hp.l1
 have hl2 := hp.l2
 have hl3 := hp.l3
 refine Ka (B4 : Sep [] []) (Ez (Dg _)) fun i1 H s1 => ?_
 repeat' first
  | with_reducible first | refine Ao rfl ?_ | refine Aeb rfl ?_ | refine Aec rfl ?_ | refine Hw ?_ | refine Ao ‹_› ?_ | refine Aeb ‹_› ?_ | refine Aec ‹_› ?_ | refine Amm (fun _ => ?_) fun _ => ?_
  | with_reducible refine C6 rfl ?_
  | ((with_reducible show Gd _ (Bx false _ _ _ _)); refine Bd ‹_› .here rfl ?_)
  | ((with_reducible show Gd _ (Bx true _ _ _ _)); refine Av ‹_› .here rfl ?_)
  | with_reducible first | refine Amp ?_ | refine Amo ?_ | refine AfT ‹_› ?_ | refine AfS ‹_› ?_ | refine Amn (fun _ => ?_) fun _ => ?_
  | ((with_reducible show Gd _ (Bz .eql _ _ _)); first | refine Yx (fun _ => ?_) (fun h => (h (by omega)).elim) | refine Yx (fun h => absurd h (by omega)) (fun _ => ?_) | refine Yx (fun _ => ?_) fun _ => ?_)
  | with_reducible refine AfR (fun _ => ?_) fun _ => ?_
  | with_reducible first | refine D7 rfl ?_ | refine D3 rfl ?_ | refine D7 ‹_› ?_ | refine D3 ‹_› ?_
  | with_reducible first | refine Au rfl ?_ | refine A6 rfl ?_ | refine Au ‹_› ?_ | refine A6 ‹_› ?_ | refine Aoa (fun _ => ?_) fun _ => ?_
  | ((with_reducible show Gd _ (Ik _ _)); refine Dd ?_)
  | ((with_reducible show Gd _ (Pr.call _ _ (.fn 98 [] []) _ _ _)); refine Hb ‹_› rfl (vS3 .nil) (Lq (n + 8) _ _ _ _) (fun _ => ?_) fun _ => ?_)
  | ((with_reducible show Gd _ (Pr.call _ _ (.fn 105 [] []) _ _ _)); refine Kz rfl rfl ?_; refine AcF (n + 8) (by omega) p ‹_› fun R _ hR _ => ?_)
  | ((with_reducible show Gd _ (Pr.call _ _ (.fn 104 [] []) _ _ _)); refine Hb ‹_› rfl (.aggF (Dg _) (.agg (hR _) .nil)) (Uz (n + 7) (by omega) _ p (Db false p) hp.l1 hp.l2 hp.l3) (fun _ => ?_) fun _ => ?_)
  | ((with_reducible show Gd _ (Pr.call _ _ (.fn 106 [] []) _ _ _)); refine Hb ‹_› rfl (.aggF (Dg _) .nil) (Aci (n + 3) (by omega) p hp) (fun _ => ?_) fun _ => ?_)
  | ((with_reducible show Gd _ (Pr.call _ _ (.fn 110 [] []) _ _ _)); refine Hb ‹_› rfl (.aggF (Dg _) .nil) (Aiv (n + 2) (by omega) p hp) (fun _ => ?_) fun _ => ?_)
  | ((with_reducible show Gd _ (Pr.call _ _ (.fn 107 [] []) _ _ _)); refine Hb ‹_› rfl (.cons .sc .nil) (Ve (n + 7) _) (fun _ => ?_) fun _ => ?_)
  | ((with_reducible show Gd _ (Pr.call _ _ (.fn 109 [] []) _ _ _)); refine Hb ‹_› rfl (.cons .sc .nil) (An9 (n + 7) _) (fun _ => ?_) fun _ => ?_)
  | ((with_reducible show Gd _ (Pr.call _ _ (.fn 108 [] []) _ _ _)); refine Hb ‹_› rfl (.cons .sc .nil) (W1 (n + 4) (by omega) _ _ hp.t1) (fun _ => ?_) fun _ => ?_)
  | refine Gd.bothE ?_ ?_
  | with_reducible refine AcB ?_
  | (refine Al rfl ?_; refine congrArg (fun b => some (AV.sc (.bool b))) (Eq.symm ?_))
 all_goals unfold A7 Fw
 all_goals first | rw [(by assumption : Eg p.fType 1 14 = true)] | rw [(by assumption : Eg p.fType 1 14 = false)]
 all_goals first | rw [(by assumption : Dm p (Db false p) = true)] | rw [(by assumption : Dm p (Db false p) = false)] | skip
 all_goals first | (simp only [if_true, if_false, decide_true, decide_false, true_or, or_true, false_or, or_false, reduceIte, zaa, F3]; done) | (simp only [*, if_true, if_false, decide_true, decide_false, true_or, or_true, false_or, or_false, reduceIte, zaa, F3]; done) | (simp [*]; done) | (simp only [*, if_true, if_false, decide_true, decide_false, true_or, or_true, false_or, or_false, reduceIte, zaa, F3]; grind)
def Nf (p : PacketV) : Bool :=
 if p.fType = 1 then (if p.fHasWill = true ∧ ((Ht p.fWTopic && (decide (((p.fWBody.size : Nat) : Int) ≤ 40) && Eg p.fWQos 0 2)) = false) then false else (Eg p.fLevel 0 255 && (Bv p.fClient && (Eg p.fKeep 0 65535 && (Bv p.fUser && decide (((p.fPass.size : Nat) : Int) ≤ 60))))))
 else if p.fType = 2 then Eg p.fCode 0 5
 else if p.fType = 3 then (Eg p.fQos 0 2 && ((decide (p.fQos = 0) || Eg p.fId 1 65535) && (Ht p.fTopic && decide (((p.fBody.size : Nat) : Int) ≤ 40))))
 else if p.fType = 12 ∨ p.fType = 13 ∨ p.fType = 14 then true
 else if p.fType = 8 then (p.fWants.all C4 && (Eg p.fId 1 65535 && Eg ((p.fWants.length : Nat) : Int) 1 4))
 else if p.fType = 9 then (p.fCodes.all Cw && (Eg p.fId 1 65535 && Eg ((p.fCodes.length : Nat) : Int) 1 4))
 else if p.fType = 10 then (p.fNames.all Cp && (Eg p.fId 1 65535 && Eg ((p.fNames.length : Nat) : Int) 1 4))
 else Eg p.fId 1 65535
def Mj (p : PacketV) : Bool := Eg p.fType 1 14 && (Dm p (Db true p) && Nf p)
theorem S4 (n : Nat) (hn : 1048576 < n) (p : PacketV) (hp : H5 p)   : ∀ (t pre : List WantV) (m : Nat) (i : Int) (i1 : Nat) (H : Ab), p.fWants = pre ++ t → i = ((pre.length : Nat) : Int) → t.length < m → Sep H [.blk i1 (Ag p) true] → Gd (· = some (.sc (.bool (t.all C4 && (Eg p.fId 1 65535 && Eg ((p.fWants.length : Nat) : Int) 1 4))))) (Oi (PR (n + 9) AV) (n + 9) (fun x H => A4 Ak E0.tp 4 H x) m (.ptr i1 0) (.sc (.bool (Eg p.fId 1 65535))) (.sc (.int .i64 i)) H)
 | [], pre, m + 1, i, i1, H, he, hi, hm, s0 => by
  obtain rfl : pre = p.fWants := by simpa using he.symm
  have hl1 := hp.l1
  have hl2 := hp.l2
  have hl3 := hp.l3
  have hlen := hp.l1
  rw [Oi]
  try simp only [Fa, E9]
  refine Py (Bd (c := Bl Bu p.fWants) s0 (.here) rfl (Dd (Dq (A6 (by simp [hi]) ?_))))
  apply Qp ((Eg p.fId 1 65535) && (Eg ((p.fWants.length : Nat) : Int) 1 4))
  intro b201 q201
  refine Ac ((Eg p.fId 1 65535)) (fun h201 => ?_) fun h201 => ?_
  exact Ao h201 (Py (Ao h201 (Bd (c := Bl Bu p.fWants) s0 (.here) rfl (Ao h201 (Dd (Ao h201 (Bm (v := (.bool (Eg ((p.fWants.length : Nat) : Int) 1 4))) s0 rfl (vS3 .nil) (Sm (n + 8) _ ((p.fWants.length : Nat) : Int) 1 4) (Zc h201 (Nu q201 h201) Ky))))))))
  exact Am h201 (Am h201 (Am h201 (Am h201 (Zb h201 (Nt q201 h201) Ky))))
  intro b201 q201
  refine Al rfl ?_
  have e : ([].all C4 && (Eg p.fId 1 65535 && Eg ((p.fWants.length : Nat) : Int) 1 4)) = b201 := by
   simp only [zaz, zbl, C4, Cw]; grind
  ·rw [e]
   first | done | rfl
 | y :: t, pre, m + 1, i, i1, H, he, hi, hm, s0 => by
  have hlt : pre.length < p.fWants.length := by rw [he]; simp
  have hl1 := hp.l1
  have hl2 := hp.l2
  have hl3 := hp.l3
  have hlen := hp.l1
  rw [Oi]
  try simp only [Fa, E9]
  refine Py (Bd (c := Bl Bu p.fWants) s0 (.here) rfl (Dd (Dq (Au (by simp [hi]; omega) (Py (Bd (c := Bl Bu p.fWants) s0 (.here) rfl (Pv hi Gy (by decide) he (Vb (Fq (c := .sc (.string y.fFilter)) rfl (Bm (v := (.bool (Cp y.fFilter))) s0 rfl (.cons .sc .nil) (Us (n + 3) (by omega) y.fFilter (hp.w1 y (by rw [he]; simp)) (Xi (hp.w1 y (by rw [he]; simp)))) (Cv ?_)))))))))))
  apply Qp ((!(Cp y.fFilter)) || (!(Eg y.fQos 0 2)))
  intro b201 q201
  refine Ac ((Cp y.fFilter)) (fun h201 => ?_) fun h201 => ?_
  exact Ao (nF h201) (Py (Ao (nF h201) (Bd (c := Bl Bu p.fWants) s0 (.here) rfl (Ao (nF h201) (Ao (nF h201) (Pv hi Gy (by decide) he (Ao (nF h201) (Vb (Ao (nF h201) (Fq (c := si y.fQos) rfl (Ao (nF h201) (Bm (v := (.bool (Eg y.fQos 0 2))) s0 rfl (vS3 .nil) (Sm (n + 8) _ y.fQos 0 2) (Ao (nF h201) (Cv (Zb (nF h201) (mOF q201 (nF h201)) Ky)))))))))))))))
  exact Am (nT h201) (Am (nT h201) (Am (nT h201) (Am (nT h201) (Am (nT h201) (Am (nT h201) (Am (nT h201) (Am (nT h201) (Zc (nT h201) (mOT q201 (nT h201)) Ky))))))))
  intro b201 q201
  refine Ac (b201) (fun h202 => ?_) fun h202 => ?_
  refine Au h202 (Al rfl ?_)
  have e : ((y :: t).all C4 && (Eg p.fId 1 65535 && Eg ((p.fWants.length : Nat) : Int) 1 4)) = false := by
   simp only [zaz, zbl, C4, Cw]; grind
  ·rw [e]
   first | done | rfl
  refine A6 h202 (Bq (by omega) (by omega) ?_)
  have e203 : ((y :: t).all C4 && (Eg p.fId 1 65535 && Eg ((p.fWants.length : Nat) : Int) 1 4)) = (t.all C4 && (Eg p.fId 1 65535 && Eg ((p.fWants.length : Nat) : Int) 1 4)) := by
   first | (simp only [zaz, C4, Cw, h202, za2, za6, za7, zb4, zaU, zbN, za4, zau, zaw]; done) | (simp only [zaz, C4, Cw]; grind)
  rw [e203]
  exact S4 n hn p hp   t (pre ++ [y]) m _ i1 _ (by rw [he]; simp) (by rw [hi]; simp) (by simpa using hm) (by simpa only [zaF, zat, zaO] using (s0.sel (.cons (.here) .nil)))
theorem S5 (n : Nat) (hn : 1048576 < n) (p : PacketV) (hp : H5 p)   : ∀ (t pre : List Int) (m : Nat) (i : Int) (i1 : Nat) (H : Ab), p.fCodes = pre ++ t → i = ((pre.length : Nat) : Int) → t.length < m → Sep H [.blk i1 (Ag p) true] → Gd (· = some (.sc (.bool (t.all Cw && (Eg p.fId 1 65535 && Eg ((p.fCodes.length : Nat) : Int) 1 4))))) (Oj (PR (n + 9) AV) (n + 9) (fun x H => A4 Ak E0.tp 4 H x) m (.ptr i1 0) (.sc (.bool (Eg p.fId 1 65535))) (.sc (.int .i64 i)) H)
 | [], pre, m + 1, i, i1, H, he, hi, hm, s0 => by
  obtain rfl : pre = p.fCodes := by simpa using he.symm
  have hl1 := hp.l1
  have hl2 := hp.l2
  have hl3 := hp.l3
  have hlen := hp.l3
  rw [Oj]
  try simp only [Fa, E9]
  refine Q6 (Bd (c := Ey p.fCodes) s0 (.here) rfl (Dd (Dq (A6 (by simp [hi]) ?_))))
  apply Qp ((Eg p.fId 1 65535) && (Eg ((p.fCodes.length : Nat) : Int) 1 4))
  intro b201 q201
  refine Ac ((Eg p.fId 1 65535)) (fun h201 => ?_) fun h201 => ?_
  exact Ao h201 (Q6 (Ao h201 (Bd (c := Ey p.fCodes) s0 (.here) rfl (Ao h201 (Dd (Ao h201 (Bm (v := (.bool (Eg ((p.fCodes.length : Nat) : Int) 1 4))) s0 rfl (vS3 .nil) (Sm (n + 8) _ ((p.fCodes.length : Nat) : Int) 1 4) (Zc h201 (Nu q201 h201) Ky))))))))
  exact Am h201 (Am h201 (Am h201 (Am h201 (Zb h201 (Nt q201 h201) Ky))))
  intro b201 q201
  refine Al rfl ?_
  have e : ([].all Cw && (Eg p.fId 1 65535 && Eg ((p.fCodes.length : Nat) : Int) 1 4)) = b201 := by
   simp only [zaz, zbl, C4, Cw]; grind
  ·rw [e]
   first | done | rfl
 | y :: t, pre, m + 1, i, i1, H, he, hi, hm, s0 => by
  have hlt : pre.length < p.fCodes.length := by rw [he]; simp
  have hl1 := hp.l1
  have hl2 := hp.l2
  have hl3 := hp.l3
  have hlen := hp.l3
  rw [Oj]
  try simp only [Fa, E9]
  refine Q6 (Bd (c := Ey p.fCodes) s0 (.here) rfl (Dd (Dq (Au (by simp [hi]; omega) (Q6 (Bd (c := Ey p.fCodes) s0 (.here) rfl (Nr hi he (Fq (c := .sc (.int .i64 y)) rfl (Bm (v := (.bool (Eg y 0 2))) s0 rfl (vS3 .nil) (Sm (n + 8) _ y 0 2) (Cv ?_))))))))))
  apply Qp ((!(Eg y 0 2)) && (!(decide (y = 128))))
  intro b201 q201
  refine Ac ((Eg y 0 2)) (fun h201 => ?_) fun h201 => ?_
  exact Am (nF h201) (Am (nF h201) (Am (nF h201) (Am (nF h201) (Am (nF h201) (Am (nF h201) (Zb (nF h201) (Nt q201 (nF h201)) Ky))))))
  exact Ao (nT h201) (Q6 (Ao (nT h201) (Bd (c := Ey p.fCodes) s0 (.here) rfl (Ao (nT h201) (Ao (nT h201) (Nr hi he (Ao (nT h201) (Fq (c := si y) rfl (Ao (nT h201) (My (Zc (nT h201) (Nu q201 (nT h201)) Ky)))))))))))
  intro b201 q201
  refine Ac (b201) (fun h202 => ?_) fun h202 => ?_
  refine Au h202 (Al rfl ?_)
  have e : ((y :: t).all Cw && (Eg p.fId 1 65535 && Eg ((p.fCodes.length : Nat) : Int) 1 4)) = false := by
   simp only [zaz, zbl, C4, Cw]; grind
  ·rw [e]
   first | done | rfl
  refine A6 h202 (Bq (by omega) (by omega) ?_)
  have e203 : ((y :: t).all Cw && (Eg p.fId 1 65535 && Eg ((p.fCodes.length : Nat) : Int) 1 4)) = (t.all Cw && (Eg p.fId 1 65535 && Eg ((p.fCodes.length : Nat) : Int) 1 4)) := by
   first | (simp only [zaz, C4, Cw, h202, za2, za6, za7, zb4, zaU, zbN, za4, zau, zaw]; done) | (simp only [zaz, C4, Cw]; grind)
  rw [e203]
  exact S5 n hn p hp   t (pre ++ [y]) m _ i1 _ (by rw [he]; simp) (by rw [hi]; simp) (by simpa using hm) (by simpa only [zaF, zat, zaO] using (s0.sel (.cons (.here) .nil)))
theorem S6 (n : Nat) (hn : 1048576 < n) (p : PacketV) (hp : H5 p)   : ∀ (t pre : List ByteArray) (m : Nat) (i : Int) (i1 : Nat) (H : Ab), p.fNames = pre ++ t → i = ((pre.length : Nat) : Int) → t.length < m → Sep H [.blk i1 (Ag p) true] → Gd (· = some (.sc (.bool (t.all Cp && (Eg p.fId 1 65535 && Eg ((p.fNames.length : Nat) : Int) 1 4))))) (Ok (PR (n + 9) AV) (n + 9) (fun x H => A4 Ak E0.tp 4 H x) m (.ptr i1 0) (.sc (.bool (Eg p.fId 1 65535))) (.sc (.int .i64 i)) H)
 | [], pre, m + 1, i, i1, H, he, hi, hm, s0 => by
  obtain rfl : pre = p.fNames := by simpa using he.symm
  have hl1 := hp.l1
  have hl2 := hp.l2
  have hl3 := hp.l3
  have hlen := hp.l2
  rw [Ok]
  try simp only [Fa, E9]
  refine Pz (Bd (c := Et p.fNames) s0 (.here) rfl (Dd (Dq (A6 (by simp [hi]) ?_))))
  apply Qp ((Eg p.fId 1 65535) && (Eg ((p.fNames.length : Nat) : Int) 1 4))
  intro b201 q201
  refine Ac ((Eg p.fId 1 65535)) (fun h201 => ?_) fun h201 => ?_
  exact Ao h201 (Pz (Ao h201 (Bd (c := Et p.fNames) s0 (.here) rfl (Ao h201 (Dd (Ao h201 (Bm (v := (.bool (Eg ((p.fNames.length : Nat) : Int) 1 4))) s0 rfl (vS3 .nil) (Sm (n + 8) _ ((p.fNames.length : Nat) : Int) 1 4) (Zc h201 (Nu q201 h201) Ky))))))))
  exact Am h201 (Am h201 (Am h201 (Am h201 (Zb h201 (Nt q201 h201) Ky))))
  intro b201 q201
  refine Al rfl ?_
  have e : ([].all Cp && (Eg p.fId 1 65535 && Eg ((p.fNames.length : Nat) : Int) 1 4)) = b201 := by
   simp only [zaz, zbl, C4, Cw]; grind
  ·rw [e]
   first | done | rfl
 | y :: t, pre, m + 1, i, i1, H, he, hi, hm, s0 => by
  have hlt : pre.length < p.fNames.length := by rw [he]; simp
  have hl1 := hp.l1
  have hl2 := hp.l2
  have hl3 := hp.l3
  have hlen := hp.l2
  rw [Ok]
  try simp only [Fa, E9]
  refine Pz (Bd (c := Et p.fNames) s0 (.here) rfl (Dd (Dq (Au (by simp [hi]; omega) (Pz (Bd (c := Et p.fNames) s0 (.here) rfl (Q4 hi he (Fq (c := .sc (.string y)) rfl (Bm (v := (.bool (Cp y))) s0 rfl (.cons .sc .nil) (Us (n + 3) (by omega) y (hp.w2 y (by rw [he]; simp)) (Xi (hp.w2 y (by rw [he]; simp)))) (Cv (Ac ((Cp y)) (fun h201 => ?_) fun h201 => ?_)))))))))))
  refine A6 (nF h201) (Bq (by omega) (by omega) ?_)
  have e202 : ((y :: t).all Cp && (Eg p.fId 1 65535 && Eg ((p.fNames.length : Nat) : Int) 1 4)) = (t.all Cp && (Eg p.fId 1 65535 && Eg ((p.fNames.length : Nat) : Int) 1 4)) := by
   first | (simp only [zaz, C4, Cw, h201, za2, za6, za7, zb4, zaU, zbN, za4, zau, zaw]; done) | (simp only [zaz, C4, Cw]; grind)
  rw [e202]
  exact S6 n hn p hp   t (pre ++ [y]) m _ i1 _ (by rw [he]; simp) (by rw [hi]; simp) (by simpa using hm) (by simpa only [zaF, zat, zaO] using (s0.sel (.cons (.here) .nil)))
  refine Au (nT h201) (Al rfl ?_)
  have e : ((y :: t).all Cp && (Eg p.fId 1 65535 && Eg ((p.fNames.length : Nat) : Int) 1 4)) = false := by
   simp only [zaz, zbl, C4, Cw, h201, F3]
  ·rw [e]
   first | done | rfl
theorem AfF (n : Nat) (hn : 1048576 < n) (p : PacketV) (hp : H5 p) : Cb E0 (n + 10) 4 64 [.agg (Ag p)] = some (.sc (.bool (Mj p))) := by
 rw [At, AmZ, f64]
 refine B8 (G := (· = some (sb (Mj p)))) ?_
 simp only [Fa, E9, D4]
 have hl1 := hp.l1
 have hl2 := hp.l2
 have hl3 := hp.l3
 refine Ka (B4 : Sep [] []) (Ez (Dg _)) fun i1 H s1 => ?_
 repeat' first
  | with_reducible first | refine Ao rfl ?_ | refine Aeb rfl ?_ | refine Aec rfl ?_ | refine Hw ?_ | refine Ao ‹_› ?_ | refine Aeb ‹_› ?_ | refine Aec ‹_› ?_ | refine Amm (fun _ => ?_) fun _ => ?_
  | with_reducible refine C6 rfl ?_
  | ((with_reducible show Gd _ (Bx false _ _ _ _)); refine Bd ‹_› .here rfl ?_)
  | ((with_reducible show Gd _ (Bx true _ _ _ _)); refine Av ‹_› .here rfl ?_)
  | with_reducible first | refine Amp ?_ | refine Amo ?_ | refine AfT ‹_› ?_ | refine AfS ‹_› ?_ | refine Amn (fun _ => ?_) fun _ => ?_
  | ((with_reducible show Gd _ (Bz .eql _ _ _)); first | refine Yx (fun _ => ?_) (fun h => (h (by omega)).elim) | refine Yx (fun h => absurd h (by omega)) (fun _ => ?_) | refine Yx (fun _ => ?_) fun _ => ?_)
  | with_reducible refine AfR (fun _ => ?_) fun _ => ?_
  | with_reducible refine Aof (fun _ => ?_) fun _ => ?_
  | with_reducible first | refine D7 rfl ?_ | refine D3 rfl ?_ | refine D7 ‹_› ?_ | refine D3 ‹_› ?_
  | with_reducible first | refine Au rfl ?_ | refine A6 rfl ?_ | refine Au ‹_› ?_ | refine A6 ‹_› ?_ | refine Aoa (fun _ => ?_) fun _ => ?_
  | ((with_reducible show Gd _ (Ik _ _)); refine Dd ?_)
  | ((with_reducible show Gd _ (Pr.call _ _ (.fn 81 [] []) [.sc (.int .i64 p.fId), _, _] _ _)); refine Bm (v := .bool (Eg p.fId 1 65535)) ‹_› rfl (vS3 .nil) (Sm (n + 8) _ p.fId 1 65535) ?_)
  | ((with_reducible show Gd _ (Oi _ _ _ _ _ _ _ _)); refine Aib ?_ (S4 n hn p hp p.fWants [] _ 0 _ _ rfl rfl (by omega) ‹_›))
  | ((with_reducible show Gd _ (Oj _ _ _ _ _ _ _ _)); refine Aib ?_ (S5 n hn p hp p.fCodes [] _ 0 _ _ rfl rfl (by omega) ‹_›))
  | ((with_reducible show Gd _ (Ok _ _ _ _ _ _ _ _)); refine Aib ?_ (S6 n hn p hp p.fNames [] _ 0 _ _ rfl rfl (by omega) ‹_›))
  | ((with_reducible show Gd _ (Pr.call _ _ (.fn 81 [] []) _ _ _)); refine Hb ‹_› rfl (vS3 .nil) (Sm (n + 8) _ _ _ _) (fun _ => ?_) fun _ => ?_)
  | ((with_reducible show Gd _ (Pr.call _ _ (.fn 90 [] []) _ _ _)); refine Kz rfl rfl ?_; refine AcW (n + 8) (by omega) p ‹_› fun R _ hR _ => ?_)
  | ((with_reducible show Gd _ (Pr.call _ _ (.fn 89 [] []) _ _ _)); refine Hb ‹_› rfl (.aggF (Dg _) (.agg (hR _) .nil)) (U4 (n + 7) (by omega) _ p (Db true p) hp.l1 hp.l2 hp.l3) (fun _ => ?_) fun _ => ?_)
  | ((with_reducible show Gd _ (Pr.call _ _ (.fn 91 [] []) _ _ _)); refine Hb ‹_› rfl (.cons .sc .nil) (AcX (n + 4) (by omega) _ _ (by first | exact hp.t1 | exact hp.t3)) (fun _ => ?_) fun _ => ?_)
  | ((with_reducible show Gd _ (Pr.call _ _ (.fn 80 [] []) _ _ _)); refine Hb ‹_› rfl (.cons .sc .nil) (N0 (n + 5) (by omega) _ _) (fun _ => ?_) fun _ => ?_)
  | refine Gd.bothE ?_ ?_
  | with_reducible refine AcB ?_
  | (refine Al rfl ?_; refine congrArg (fun b => some (AV.sc (.bool b))) (Eq.symm ?_))
 all_goals unfold Mj Nf
 all_goals first | rw [(by assumption : Eg p.fType 1 14 = true)] | rw [(by assumption : Eg p.fType 1 14 = false)]
 all_goals first | rw [(by assumption : Dm p (Db true p) = true)] | rw [(by assumption : Dm p (Db true p) = false)] | skip
 all_goals first | (simp only [if_true, if_false, decide_true, decide_false, true_or, or_true, false_or, or_false, reduceIte, zaa, F3]; done) | (simp only [*, if_true, if_false, decide_true, decide_false, true_or, or_true, false_or, or_false, reduceIte, zaa, F3]; done) | (simp [*]; done) | (simp only [*, if_true, if_false, decide_true, decide_false, true_or, or_true, false_or, or_false, reduceIte, zaa, F3]; grind)
theorem Kc {α : Type} {e : α → α → Bool} {a : List α} (h : Hd e a [] = true) : a = [] := by
 cases a with
 | nil => rfl
 | cons x l => simp [Hd] at h
theorem AnK (p : PacketV) : Mj p = A7 p := by
 unfold Mj A7
 cases hi : Eg p.fType 1 14
 rfl
 simp only [za2]
 have hi2 : 1 ≤ p.fType ∧ p.fType ≤ 14 := by simpa [Eg] using hi
 by_cases h2 : p.fType = 2
 have e1 : Db true p = { Cn p.fType with fCode := p.fCode, fPresent := p.fPresent && decide (p.fCode = 0) } := by unfold Db; simp [h2]
 have e2 : Db false p = { Cn p.fType with fCode := p.fCode, fPresent := p.fPresent } := by unfold Db; simp [h2]
 have k1 : Nf p = Eg p.fCode 0 5 := by unfold Nf; simp [h2]
 have k2 : Fw p = (Eg p.fCode 0 5 && (!p.fPresent || decide (p.fCode = 0))) := by unfold Fw; simp [h2]
 rw [e1, e2, k1, k2]
 cases hp : p.fPresent
 simp
 by_cases hc : p.fCode = 0
 simp [hc]
 have : Dm p { Cn p.fType with fCode := p.fCode, fPresent := true && decide (p.fCode = 0) } = false := by
  unfold Dm Gr
  simp [hp, hc]
 rw [this]
 simp [hc]
 have hn : Db true p = Db false p := by unfold Db; simp [h2]
 rw [hn]
 cases hs : Dm p (Db false p)
 rfl
 simp only [za2]
 have hl : Mk p (Db false p) = true := by
  unfold Dm at hs
  rw [zag] at hs
  exact hs.1
 unfold Mk at hl
 simp only [zag] at hl
 obtain ⟨⟨l1, l2⟩, l3⟩ := hl
 by_cases h1 : p.fType = 1
 unfold Nf Fw Jz
 simp only [h1, if_true]
 generalize decide (((p.fWBody.size : Nat) : Int) ≤ 40) = b1
 generalize decide (((p.fPass.size : Nat) : Int) ≤ 60) = b2
 cases p.fHasWill <;> cases Ht p.fWTopic <;> cases Eg p.fLevel 0 255 <;> cases Bv p.fClient <;> cases Eg p.fKeep 0 65535 <;> cases Bv p.fUser <;> cases Eg p.fWQos 0 2 <;> cases b1 <;> cases b2 <;> rfl
 by_cases h3 : p.fType = 3
 unfold Nf Fw
 simp only [h3, if_true, show ¬ (3 : Int) = 1 by decide, show ¬ (3 : Int) = 2 by decide, if_false]
 generalize decide (p.fQos = 0) = b1
 generalize decide (((p.fBody.size : Nat) : Int) ≤ 40) = b2
 cases Eg p.fQos 0 2 <;> cases Ht p.fTopic <;> cases Eg p.fId 1 65535 <;> cases b1 <;> cases b2 <;> rfl
 by_cases h8 : p.fType = 8
 have f2 : (Db false p).fNames = [] := by unfold Db; simp [h8, Cn]
 have f3 : (Db false p).fCodes = [] := by unfold Db; simp [h8, Cn]
 rw [f2] at l2
 rw [f3] at l3
 unfold Nf Fw Ku Jb J3 Ge
 rw [Kc l2, Kc l3]
 simp only [h8, if_true, if_false]
 cases p.fWants.all C4 <;> cases Eg p.fId 1 65535 <;> simp
 by_cases h9 : p.fType = 9
 have f1 : (Db false p).fWants = [] := by unfold Db; simp [h9, Cn]
 have f2 : (Db false p).fNames = [] := by unfold Db; simp [h9, Cn]
 rw [f1] at l1
 rw [f2] at l2
 unfold Nf Fw Ku Jb J3 Ge
 rw [Kc l1, Kc l2]
 simp only [h9, if_true, if_false]
 cases p.fCodes.all Cw <;> cases Eg p.fId 1 65535 <;> simp
 by_cases h10 : p.fType = 10
 have f1 : (Db false p).fWants = [] := by unfold Db; simp [h10, Cn]
 have f3 : (Db false p).fCodes = [] := by unfold Db; simp [h10, Cn]
 rw [f1] at l1
 rw [f3] at l3
 unfold Nf Fw Ku Jb J3 Ge
 rw [Kc l1, Kc l3]
 simp only [h10, if_true, if_false]
 cases p.fNames.all Cp <;> cases Eg p.fId 1 65535 <;> simp
 unfold Nf Fw
 by_cases h12 : p.fType = 12 ∨ p.fType = 13 ∨ p.fType = 14
 rw [if_neg h1, if_neg h2, if_neg h3, if_pos h12, if_neg h1, if_neg h2, if_neg h3, if_neg (by omega), if_neg (by omega)]
 rw [if_neg h1, if_neg h2, if_neg h3, if_neg h12, if_neg h8, if_neg h9, if_neg h10, if_neg h1, if_neg h2, if_neg h3, if_pos (by omega)]
theorem T0 (n : Nat) (hn : 1048576 < n) (p : PacketV) (hp : H5 p) : Cb E0 (n + 10) 4 64 [.agg (Ag p)] = some (.sc (.bool (A7 p))) := by
 rw [← AnK]
 exact AfF n hn p hp
end
section
open Go
section
variable {β : Type} {n : Nat} {H : Ab} {L L' L1 L2 : List Ck} {G : Option β → Prop} {K : AV → Option β} {KH : KO β}
theorem Mq (n : Int) : bits .and .i64 n 255 = n % 256 := by
 have h255 : (BitVec.ofInt 64 255).toNat = 2 ^ 8 - 1 := by decide
 have key : (BitVec.ofInt 64 n &&& BitVec.ofInt 64 255).toNat = (n % ((2 ^ 64 : Nat) : Int)).toNat % 2 ^ 8 := by
  rw [BitVec.toNat_and, BitVec.toNat_ofInt, h255, Nat.and_two_pow_sub_one_eq_mod]
 show IntKind.i64.wrap ((BitVec.ofInt 64 n &&& BitVec.ofInt 64 255).toNat : Nat) = n % 256
 rw [key, IntKind.wrap_i64]
 omega
theorem N7 (n : Int) (h0 : 0 ≤ n) (h1 : n < 2 ^ 63) : IntKind.i64.wrap n = n := by rw [IntKind.wrap_i64]; omega
theorem Vg (i : Nat) (x y : Int) (hx0 : 0 ≤ x) (hx : x % 2 ^ i = 0) (hx1 : x < 9223372036854775808) (hy0 : 0 ≤ y) (hy : y < 2 ^ i) (hy1 : y < 9223372036854775808) : bits .or .i64 x y = x + y := bits_join .i64 63 (by decide) N7 i x y hx0 hx (by omega) hy0 hy (by omega)
theorem AnI (i : Nat) (x y : Int) (hx0 : 0 ≤ x) (hx : x % 2 ^ i = 0) (hx1 : x < 9223372036854775808) (hy0 : 0 ≤ y) (hy : y < 2 ^ i) (hy1 : y < 9223372036854775808) : bits .or .i64 y x = y + x := by
 have h := Vg i x y hx0 hx hx1 hy0 hy hy1
 obtain ⟨a, rfl⟩ := zbw hx0
 obtain ⟨b, rfl⟩ := zbw hy0
 rw [(bits_nat .i64 63 (by decide) N7 a b (by omega) (by omega)).2] at h
 rw [(bits_nat .i64 63 (by decide) N7 b a (by omega) (by omega)).2, Nat.or_comm, h, zbU]
theorem AfA {x y : Int} (hx0 : 0 ≤ x) (hx1 : x < 9223372036854775808) (hy0 : 0 ≤ y) (hy1 : y < 9223372036854775808) : 0 ≤ bits .or .i64 x y ∧ bits .or .i64 x y < 9223372036854775808 := by
 obtain ⟨a, rfl⟩ := zbw hx0
 obtain ⟨b, rfl⟩ := zbw hy0
 rw [(bits_nat .i64 63 (by decide) N7 a b (by omega) (by omega)).2]
 have := Nat.or_lt_two_pow (x := a) (y := b) (n := 63) (by omega) (by omega)
 omega
theorem Pg {x : Int} (h0 : 0 ≤ x) (h1 : x < 256) : bits .and .i64 x 127 = x % 128 := bits_mask .i64 63 (by decide) N7 7 (by decide) x h0 (by omega)
theorem Ug {kb : IntKind} {a b : Int} (c : Int) (hc : (2 : Int) ^ b.toNat = c) (h0 : 0 ≤ b ∧ b ≤ 64) (h : Gd G (K (.sc (.int .i64 (a / c))))) : Gd G (Bz .shr (.sc (.int .i64 a)) (.sc (.int kb b)) fun t => K t) := by
 refine Dp ?_ h
 subst hc
 show (shI .shr .i64 a b).bind _ = _
 unfold shI
 rw [if_pos (show 0 ≤ b ∧ b ≤ ((IntKind.i64.bits : Nat) : Int) from h0)]
 rfl
theorem AhZ {kb : IntKind} {a b : Int} (c : Int) (hc : (2 : Int) ^ b.toNat = c) (h0 : 0 ≤ b ∧ b ≤ 64) (h1 : -9223372036854775808 ≤ a * c) (h2 : a * c ≤ 9223372036854775807) (h : Gd G (K (.sc (.int .i64 (a * c))))) : Gd G (Bz .shl (.sc (.int .i64 a)) (.sc (.int kb b)) fun t => K t) := by
 refine Dp ?_ h
 subst hc
 show (shI .shl .i64 a b).bind _ = _
 unfold shI
 rw [if_pos (show 0 ≤ b ∧ b ≤ ((IntKind.i64.bits : Nat) : Int) from h0)]
 show K (.sc (.int .i64 (IntKind.i64.wrap (a * 2 ^ b.toNat)))) = _
 rw [Ic _ h1 h2]
theorem Gn {a b c : Int} (hc : bits .and .i64 a b = c) (h : Gd G (K (.sc (.int .i64 c)))) : Gd G (Bz .and (.sc (.int .i64 a)) (.sc (.int .i64 b)) fun t => K t) := by
 subst hc
 exact h
theorem An6 {a b c : Int} (hc : bits .or .i64 a b = c) (h : Gd G (K (.sc (.int .i64 c)))) : Gd G (Bz .or (.sc (.int .i64 a)) (.sc (.int .i64 b)) fun t => K t) := by
 subst hc
 exact h
theorem Pw {a b : Int} (h0 : 0 ≤ a) (h1 : a ≤ 9223372036854775807) (hb : 0 < b) (h : Gd G (K (.sc (.int .i64 (a / b))))) : Gd G (Bz .quo (.sc (.int .i64 a)) (.sc (.int .i64 b)) fun t => K t) := by
 refine Dp ?_ h
 have e : AfV .quo .i64 a b = some (.int .i64 (a / b)) := by
  show (if b = 0 then none else some (Value.int .i64 (IntKind.i64.wrap (a.tdiv b)))) = _
  rw [if_neg (by omega), Int.tdiv_eq_ediv_of_nonneg h0]
  have h2 := Int.ediv_nonneg h0 (Int.le_of_lt hb)
  have h3 := Int.ediv_le_self b h0
  rw [Ic _ (by omega) (by omega)]
 show (AfV .quo .i64 a b).bind _ = _
 rw [e]
 rfl
theorem K4 {a : Int} (h0 : 0 ≤ a) (h1 : a < 256) (h : Gd G (K (.sc (.int .i64 a)))) : Gd G (Xs .i64 (.sc (.int .u8 a)) fun t => K t) := Fp (Ic _ (by omega) (by omega)) h
theorem Aap {m : Nat} {cells r : List AV} {i : Int} (h0 : 0 ≤ i ∧ i < (m : Nat)) (h1 : i.toNat * 1 < cells.length) (hr : cells.drop (i.toNat * 1) = r) (h : Gd G (K (.rp r))) : Gd G (Dj 1 (.ro m cells) (.sc (.int .i64 i)) fun t => K t) := by
 refine Dp ?_ h
 subst hr
 show (if 0 ≤ i ∧ i < (m : Nat) then (if i.toNat * 1 < cells.length then K (.rp (cells.drop (i.toNat * 1))) else none) else none) = _
 rw [if_pos h0, if_pos h1]
theorem Oq {α : Sort _} {γ : Type} {G : Option γ → Prop} {x : α} {f : α → Option γ} (P : α → Prop) (hx : P x) (h : ∀ j, P j → Gd G (f j)) : Gd G (D4 x f) := h x hx
theorem Pu {ty : Nat} {f : FuncId} {args : List AV} (hh : E0.hm f = true) (he : E0.ext f = none) (h : Gd G (Dy E0 n β f args H fun x H => KH x H)) : Gd G ((PR n β).call ty (.fn f [] []) args H fun x H => KH x H) := Kz hh he (by rw [zam]; exact h)
theorem Y0 (s : ByteArray) {a b : Nat} (hab : a ≤ b) (hb : b ≤ s.size) : Ae (s.extract a b) = .ro (b - a) (((Ba s).drop a).take (b - a)) := by
 have e1 : (s.extract a b).size = b - a := by rw [zap]; omega
 show AV.ro (s.extract a b).size (Ba (s.extract a b)) = _
 rw [e1]
 congr 1
 unfold Ba
 rw [ByteArray.data_extract, Array.toList_extract, List.extract_eq_take_drop, List.map_take, List.map_drop]
theorem F7 {s : ByteArray} {lo hi : Option AV} (a b : Int) (hlo : K2 lo 0 = some a) (hhi : K2 hi (s.size : Nat) = some b) (h0 : 0 ≤ a) (hab : a ≤ b) (hb : b ≤ (s.size : Nat)) (h : Gd G (K (Ae (s.extract a.toNat b.toNat)))) : Gd G (Mf 1 (Ae s) lo hi fun t => K t) := by
 refine Dp ?_ h
 rw [Y0 s (by omega) (by omega)]
 have e : (b - a).toNat = b.toNat - a.toNat := by omega
 have hl : Jn (Ae s) = some s.size := rfl
 unfold Mf
 rw [hl, zad, hlo, zad, hhi, zad, if_pos ⟨h0, hab, hb⟩]
 show K (.ro (b - a).toNat (((Ba s).drop (a.toNat * 1)).take ((b - a).toNat * 1))) = _
 rw [zby, zby, e]
theorem Ub : ∀ (l : List UInt8), (l.map fun b => AV.sc (.int .u8 b.toNat)).mapM Kx = some l
 | [] => rfl
 | b :: l => by
  have e : Kx (su b.toNat) = some b := by
   show some (UInt8.ofNat ((b.toNat : Nat) : Int).toNat) = _
   rw [zbg, UInt8.ofNat_toNat]
  rw [zat, zaI, e, Ub l]
  rfl
theorem Ys (s : ByteArray) : Dn H 1 (Ae s) = some (Ba s) := by
 show (if (Ba s).length = s.size * 1 then some (Ba s) else none) = _
 rw [if_pos (by rw [Es]; omega)]
theorem Ab8 {x : AV} {ty : Nat} {s : ByteArray} (hs : Sep H L) (hty : ∃ i j, Ak ty = some i ∧ Ak i.elem = some j ∧ j.size = 1 ∧ j.cty = [5]) (hp : Pk L (.own x ty (Ae s)) L1) : Dn H 1 x = some (Ba s) ∧ Jn x = some s.size := by
 obtain ⟨I, hI, hn⟩ := hs
 obtain ⟨raw, J, R, X, q1, q2, q3, q4, q5, q6, q7⟩ := AbM (cb := Ba s) hty hp (Iy s) I hI
 have := (Xn q5 (Iy s)).1
 subst this
 exact ⟨q2, q1⟩
theorem Ajr (s : ByteArray) : (⟨s.data.toList.toArray⟩ : ByteArray) = s := by
 cases s
 rfl
theorem M8 {x : AV} {ty : Nat} {s : ByteArray} (hs : Sep H L) (hty : ∃ i j, Ak ty = some i ∧ Ak i.elem = some j ∧ j.size = 1 ∧ j.cty = [5]) (hp : Pk L (.own x ty (Ae s)) L1) (h : Gd G (K (.sc (.string s)))) : Gd G (O8 x H fun t => K t) := by
 refine Dp ?_ h
 have e : (Ba s).mapM Kx = some s.data.toList := Ub _
 unfold O8
 rw [(Ab8 hs hty hp).1, zad, e, zad, Ajr]
theorem An5 {s : ByteArray} (hs : Sep H L) (hb : s.size ≤ 140737488355328) (h : ∀ i H', Sep H' (.blk i (Ba s) false :: L) → Gd G (KH (.sl i 0 s.size 1) H')) : Gd G (Xt (.sc (.string s)) H fun x H => KH x H) := by
 refine Dp (b := G5 s.size 1 (Ba s) false H fun x H => KH x H) ?_ (Bt hs h)
 show (if s.size ≤ 140737488355328 then _ else _) = _
 rw [if_pos hb]
theorem AiZ {d : Nat} : ∀ {l : List AV}, l.all M9 = true → VwL L (d + 1) l l
 | [], _ => .nil
 | x :: l, h => by
  rw [zaz, zag] at h
  cases x with
  | sc v => exact .cons .sc (AiZ h.2)
  | _ => simp [M9] at h
theorem vwB {d : Nat} {s : ByteArray} : VwL L (d + 1) (Ba s) (Ba s) := AiZ (Iy s)
theorem AoV {s : ByteArray} : (Ba s).length = s.size * 1 := by rw [Es, zby]
theorem Aei (s t : ByteArray) : Ae (s ++ t) = .ro (s.size + t.size) (Ba s ++ Ba t) := by
 show AV.ro (s ++ t).size (Ba (s ++ t)) = _
 rw [zah]
 congr 1
 unfold Ba
 rw [zbs, Array.toList_append, zaF]
theorem Ki {ty : Nat} {x y : AV} {s t : ByteArray} (hs : Sep H L) (hty : ∃ i j, Ak ty = some i ∧ Ak i.elem = some j ∧ j.size = 1 ∧ j.cty = [5]) (hx : Pk L (.own x ty (Ae s)) L1) (hy : Src H L1 1 [5] y t.size (Ba t) L2) (hb : s.size + t.size ≤ 140737488355328)
  (h : ∀ x' H', A2 x' = true → Sep H' (.own x' ty (Ae (s ++ t)) :: L2) → Gd G (KH x' H')) : Gd G (Lk 1 1 x y H fun x H => KH x H) := by
 rw [Aei] at h
 exact Abj hs hty hx hy (Sq (by rw [AdJ (w := 1) rfl, Es, zby]) (Iy t)) (by omega) h
theorem O2 {s : ByteArray} : Src H L 1 [5] (Ae s) s.size (Ba s) L := AiP rfl AoV (Iy s)
theorem Aky {ty : Nat} {x : AV} {s t : ByteArray} (hs : Sep H L) (hty : ∃ i j, Ak ty = some i ∧ Ak i.elem = some j ∧ j.size = 1 ∧ j.cty = [5]) (hx : Pk L (.own x ty (Ae s)) L1) (hb : s.size + t.size ≤ 140737488355328)
  (h : ∀ x' H', A2 x' = true → Sep H' (.own x' ty (Ae (s ++ t)) :: L1) → Gd G (KH x' H')) : Gd G (Xp 1 x (ss t) H fun x H => KH x H) := by
 refine Dp (b := Lk 1 1 x (Ae t) H fun x H => KH x H) ?_ (Ki hs hty hx O2 hb h)
 have e1 : Jn (Ae t) = some t.size := rfl
 have e2 : asS (ss t) = some t := rfl
 unfold Xp Lk
 rw [e1, e2, Ys]
 simp only [zad, Z9, if_true]
theorem U9 {ty : Nat} {x : AV} {s : ByteArray} {i : Nat} {z w : Int} {a : Bool} (hs : Sep H L) (hx : Pk L (.own x ty (Ae s)) L1) (hp : Pk L1 (.blk i [.sc (.int .u8 z), .sc (.int .u8 w)] a) L2) (hty : ∃ i j, Ak ty = some i ∧ Ak i.elem = some j ∧ j.size = 1 ∧ j.cty = [5]) (hb : (0 ≤ z ∧ z < 256) ∧ (0 ≤ w ∧ w < 256) ∧ s.size + 2 ≤ 140737488355328)
  (h : ∀ x' H', A2 x' = true → Sep H' (.own x' ty (Ae (Ay (Ay s z) w)) :: L2) → Gd G (KH x' H')) : Gd G (Lk 1 1 x (.sl i 0 2 1) H fun x H => KH x H) := by
 have e1 : (zak 2 [5]).flatten = [5, 5] := rfl
 have e3 : Ba (Ay s z) = Ba s ++ [su z] := by
  have := H6 s z hb.1.1 hb.1.2
  exact (AV.ro.inj this).2
 rw [H6 _ w hb.2.1.1 hb.2.1.2, Aq, e3, zaf] at h
 exact Abj (m := 2) (cb := [.sc (.int .u8 z), .sc (.int .u8 w)]) hs hty hx (Vi hp rfl rfl (by rw [e1]; exact .sc (.sc .nil)) (by rw [e1]; exact ⟨trivial, trivial, trivial⟩)) (by rw [e1]; exact ⟨trivial, trivial, trivial⟩) (by omega) fun x' H' lx hs' => h x' H' lx hs'
theorem Sep.closeB2 {i : Nat} {z w : Int} (hs : Sep H L) (hp : Pk L (.blk i [.sc (.int .u8 z), .sc (.int .u8 w)] true) L1) (hz : (0 ≤ z ∧ z < 256) ∧ 0 ≤ w ∧ w < 256) : Sep H (.own (.sl i 0 2 1) 22 (Ae (Ay (Ay ⟨#[]⟩ z) w)) :: L1) := by
 have e3 : Ba (Ay ⟨#[]⟩ z) = Ba ⟨#[]⟩ ++ [su z] := (AV.ro.inj (H6 ⟨#[]⟩ z hz.1.1 hz.1.2)).2
 rw [H6 _ w hz.2.1 hz.2.2, Aq, e3]
 exact Sep.closeR (pre := []) (post := []) (cells := [su z, su w]) (sz := 1) (m := 2) ⟨_, _, rfl, rfl, rfl, rfl⟩ (hs.pick hp) rfl rfl
end
theorem AkO {β : Type} {r : Option β} {m : Nat} {cells : List AV} {A K : Option β} (hA : A = r) (h : m ≤ 1048576 → K = r) : (Ik (.ro m cells) fun t => Bz .gtr t (.sc (.int .i64 1048576)) fun t' => C8 t' A K) = r := by
 change Gd (· = r) _
 refine Dd (D5 ?_)
 by_cases hm : (1048576 : Int) < m
 refine Au (decide_eq_true hm) hA
 refine A6 (decide_eq_false hm) (h (by omega))
end
section
open Go
abbrev bs0 : ByteArray := ⟨#[]⟩
def Ai (b : ByteArray) (n : Int) : ByteArray := Ay (Ay b (n / 256 % 256 % 256)) (n % 256 % 256)
def Cq (b x : ByteArray) : ByteArray := if decide (60 < ((x.size : Nat) : Int)) then b else Ai b ((x.size : Nat) : Int) ++ x
def Ah (b s : ByteArray) : ByteArray := if Bv s then Ai b ((s.size : Nat) : Int) ++ s else b
def K5 : Nat → ByteArray → Int → ByteArray
  | 0, b, n => b
  | f + 1, b, n => if 127 < n then K5 f (Ay b ((n % 128 + 128) % 256)) (n / 128) else Ay b (n % 256)
def C0 (b : ByteArray) (n : Int) : ByteArray := if Eg n 0 268435455 then K5 4 b n else b
def A0 (b : Bool) (n : Int) : Int := if b then n else 0
def Dv (p : PacketV) : Int := A0 p.fClean 2 + A0 p.fHasWill 4 + 8 * p.fWQos + A0 p.fWRetain 32 + A0 p.fHasPass 64 + A0 p.fHasUser 128
def Ci (p : PacketV) : Int :=
  if p.fType = 3 then 16 * p.fType + A0 p.fDup 8 + 2 * p.fQos + A0 p.fRetain 1
  else if p.fType = 6 ∨ p.fType = 8 ∨ p.fType = 10 then 16 * p.fType + 2
  else 16 * p.fType
def mqtt : ByteArray := ⟨#[77, 81, 84, 84]⟩
def Gt (p : PacketV) : ByteArray := Ah (Ai (Ay (Ay (Ah bs0 mqtt) (p.fLevel % 256)) (Dv p % 256)) p.fKeep) p.fClient
def Eo (p : PacketV) (b : ByteArray) : ByteArray := if p.fHasWill then Cq (Ah b p.fWTopic) p.fWBody else b
def Dk (p : PacketV) (b : ByteArray) : ByteArray := if p.fHasUser then Ah b p.fUser else b
def Ct (p : PacketV) (b : ByteArray) : ByteArray := if p.fHasPass then Cq b p.fPass else b
def Ep (p : PacketV) : ByteArray := Ct p (Dk p (Eo p (Gt p)))
def Bc (b : ByteArray) (l : List WantV) : ByteArray := l.foldl (fun b w => Ay (Ah b w.fFilter) (w.fQos % 256)) b
def Da (b : ByteArray) (l : List Int) : ByteArray := l.foldl (fun b c => Ay b (c % 256)) b
def E5 (b : ByteArray) (l : List ByteArray) : ByteArray := l.foldl Ah b
def Hs (p : PacketV) (b : ByteArray) : ByteArray := E5 (Da (Bc b p.fWants) p.fCodes) p.fNames
def Gf (p : PacketV) : ByteArray := (if 0 < p.fQos then Ai (Ah bs0 p.fTopic) p.fId else Ah bs0 p.fTopic) ++ p.fBody
def B7 (p : PacketV) : ByteArray :=
  if p.fType = 1 then Ep p
  else if p.fType = 2 then Ay (Ay bs0 (A0 p.fPresent 1 % 256)) (p.fCode % 256)
  else if p.fType = 3 then Gf p
  else if p.fType = 12 ∨ p.fType = 13 ∨ p.fType = 14 then bs0
  else Hs p (Ai bs0 p.fId)
def Is (p : PacketV) : ByteArray := C0 (Ay bs0 (Ci p % 256)) (((B7 p).size : Nat) : Int) ++ B7 p
def Fx (p : PacketV) : ByteArray := if A7 p then Is p else bs0
theorem An (b : ByteArray) (n : Int) : (Ai b n).size = b.size + 2 := by simp only [Ai, Aq]
theorem Io (b x : ByteArray) : (Cq b x).size ≤ b.size + 62 := by
  unfold Cq
  split
  · omega
  · rename_i h
    rw [zah, An]
    simp only [decide_eq_true_eq] at h
    omega
theorem Fi {s : ByteArray} (h : Bv s = true) : s.size ≤ 60 := by
  unfold Bv at h
  rw [zag] at h
  exact of_decide_eq_true h.1
theorem Cc (b s : ByteArray) : (Ah b s).size ≤ b.size + 62 := by
  unfold Ah
  split
  · rename_i h
    have := Fi h
    rw [zah, An]
    omega
  · omega
theorem Ei : ∀ (l : List WantV) (b : ByteArray), (Bc b l).size ≤ b.size + 63 * l.length
  | [], b => zao _
  | w :: l, b => by
    have h1 := Ei l (Ay (Ah b w.fFilter) (w.fQos % 256))
    have h2 := Cc b w.fFilter
    rw [Aq] at h1
    simp only [zan]
    exact zaA h1 (by omega)
theorem Eh : ∀ (l : List Int) (b : ByteArray), (Da b l).size ≤ b.size + l.length
  | [], b => zao _
  | c :: l, b => by
    have h1 := Eh l (Ay b (c % 256))
    rw [Aq] at h1
    simp only [zan]
    exact zaA h1 (by omega)
theorem L4 : ∀ (l : List ByteArray) (b : ByteArray), (E5 b l).size ≤ b.size + 62 * l.length
  | [], b => zao _
  | s :: l, b => by
    have h1 := L4 l (Ah b s)
    have h2 := Cc b s
    simp only [zan]
    exact zaA h1 (by omega)
theorem Abt : ∀ (f : Nat) (b : ByteArray) (n : Int), (K5 f b n).size ≤ b.size + f
  | 0, b, n => zao _
  | f + 1, b, n => by
    unfold K5
    split
    · have := Abt f (Ay b ((n % 128 + 128) % 256)) (n / 128)
      rw [Aq] at this
      omega
    · rw [Aq]
      omega
theorem Yg (b : ByteArray) (n : Int) : (C0 b n).size ≤ b.size + 4 := by
  unfold C0
  split
  · exact Abt 4 b n
  · omega
def Bg (B : ByteArray) (a : Int) : Int × Int × Bool := if a < 0 ∨ ((B.size : Nat) : Int) - 2 < a then (0, 0, false) else (Ax B a * 256 + Ax B (a + 1), a + 2, true)
def A8 (B : ByteArray) (a : Int) : ByteArray × Int × Bool :=
  if (Bg B a).2.2 = false ∨ 60 < (Bg B a).1 ∨ ((B.size : Nat) : Int) - (Bg B a).2.1 < (Bg B a).1 then (bs0, 0, false)
  else (B.extract (Bg B a).2.1.toNat ((Bg B a).2.1 + (Bg B a).1).toNat, (Bg B a).2.1 + (Bg B a).1, true)
def Bn (B : ByteArray) (a : Int) : ByteArray × Int × Bool := if (A8 B a).2.2 && Bv (A8 B a).1 then A8 B a else (bs0, 0, false)
theorem F2 {B : ByteArray} {a w x : Int} {o : Bool} (h : Bg B a = (w, x, o)) : 0 ≤ w ∧ w < 65536 ∧ 0 ≤ x ∧ x ≤ ((B.size : Nat) : Int) ∧ (o = true → x = a + 2 ∧ 0 ≤ a) := by
  unfold Bg at h
  have h1 := Dw B a
  have h2 := Dw B (a + 1)
  split at h <;> cases h <;> refine ⟨by omega, by omega, by omega, by omega, fun _ => ?_⟩
  · rename_i h; cases h
  · omega
theorem Fe {B v : ByteArray} {a x : Int} {o : Bool} (h : A8 B a = (v, x, o)) : v.size ≤ 60 ∧ 0 ≤ x ∧ x ≤ ((B.size : Nat) : Int) ∧ (o = true → a + 2 ≤ x ∧ 0 ≤ a) := by
  unfold A8 at h
  obtain ⟨w, y, q, e⟩ : ∃ w y q, Bg B a = (w, y, q) := ⟨_, _, _, rfl⟩
  have hb := F2 e
  rw [e] at h
  split at h
  · cases h
    exact ⟨by decide, by omega, by omega, fun h => by cases h⟩
  · rename_i hn
    simp only [not_or, Int.not_lt] at hn
    cases h
    have h5 := hb.2.2.2.2 (by simpa using hn.1)
    refine ⟨?_, by show 0 ≤ y + w; omega, by show y + w ≤ _; omega, fun _ => ⟨by show a + 2 ≤ y + w; omega, h5.2⟩⟩
    rw [zap]
    show min (y + w).toNat B.size - y.toNat ≤ 60
    omega
theorem Gq {B v : ByteArray} {a x : Int} {o : Bool} (h : Bn B a = (v, x, o)) : v.size ≤ 60 ∧ 0 ≤ x ∧ x ≤ ((B.size : Nat) : Int) ∧ (o = true → a + 2 ≤ x ∧ 0 ≤ a) := by
  unfold Bn at h
  split at h
  · exact Fe h
  · cases h
    exact ⟨by decide, by omega, by omega, fun h => by cases h⟩
abbrev Sc := Int × Bool
def Lo (B : ByteArray) (s : Sc) : Int × Sc := if s.2 || decide (((B.size : Nat) : Int) ≤ s.1) then (0, s.1, true) else (Ax B s.1, s.1 + 1, s.2)
def Hl (B : ByteArray) (s : Sc) : Int × Sc := if s.2 || !(Bg B s.1).2.2 then (0, s.1, true) else ((Bg B s.1).1, (Bg B s.1).2.1, s.2)
def Ef (B : ByteArray) (s : Sc) : ByteArray × Sc := if s.2 || !(A8 B s.1).2.2 then (bs0, s.1, true) else ((A8 B s.1).1, (A8 B s.1).2.1, s.2)
theorem Q5 {B : ByteArray} {a b v : Int} {p q : Bool} (h : Lo B (a, p) = (v, b, q)) (h0 : 0 ≤ a) (h1 : a ≤ ((B.size : Nat) : Int)) : (0 ≤ v ∧ v < 256) ∧ 0 ≤ b ∧ b ≤ ((B.size : Nat) : Int) := by
  unfold Lo at h
  have := Dw B a
  split at h
  · cases h
    exact ⟨by omega, h0, h1⟩
  · rename_i hn
    simp only [zaK, not_or, decide_eq_true_eq, Int.not_le] at hn
    cases h
    exact ⟨this, by omega, by omega⟩
theorem T4 {B : ByteArray} {a b v : Int} {p q : Bool} (h : Hl B (a, p) = (v, b, q)) (h0 : 0 ≤ a) (h1 : a ≤ ((B.size : Nat) : Int)) : (0 ≤ v ∧ v < 65536) ∧ 0 ≤ b ∧ b ≤ ((B.size : Nat) : Int) := by
  unfold Hl at h
  obtain ⟨w, y, o, e⟩ : ∃ w y o, Bg B a = (w, y, o) := ⟨_, _, _, rfl⟩
  have hb := F2 e
  rw [show (a, p).1 = a from rfl, e] at h
  split at h <;> cases h
  · omega
  · show (0 ≤ w ∧ w < 65536) ∧ 0 ≤ y ∧ y ≤ _
    omega
theorem Fb {B v : ByteArray} {a b : Int} {p q : Bool} (h : Ef B (a, p) = (v, b, q)) (h0 : 0 ≤ a) (h1 : a ≤ ((B.size : Nat) : Int)) : v.size ≤ 60 ∧ 0 ≤ b ∧ b ≤ ((B.size : Nat) : Int) := by
  unfold Ef at h
  obtain ⟨w, y, o, e⟩ : ∃ w y o, A8 B a = (w, y, o) := ⟨_, _, _, rfl⟩
  have hb := Fe e
  rw [show (a, p).1 = a from rfl, e] at h
  split at h <;> cases h
  · exact ⟨by decide, h0, h1⟩
  · exact ⟨hb.1, hb.2.1, hb.2.2.1⟩
def De (B : ByteArray) (a : Int) : Nat → Int → Int → Int × Int × Int
  | 0, _, _ => (0, 0, 2)
  | f + 1, i, n =>
    if ((B.size : Nat) : Int) ≤ a + i then (0, 0, 1)
    else if Ax B (a + i) < 128 then (if 0 < i ∧ Ax B (a + i) = 0 then (0, 0, 2) else (bits .or .i64 n (bits .and .i64 (Ax B (a + i)) 127 * 2 ^ (7 * i).toNat), a + i + 1, 0))
    else De B a f (i + 1) (bits .or .i64 n (bits .and .i64 (Ax B (a + i)) 127 * 2 ^ (7 * i).toNat))
def B6 (B : ByteArray) (a : Int) : Int × Int × Int := if a < 0 ∨ ((B.size : Nat) : Int) < a then (0, 0, 2) else De B a 4 0 0
def Gl (f m : Int) : Bool := !decide (bits .and .i64 f m = 0)
def Fd (B : ByteArray) : PacketV :=
  let r0 := Ef B (0, false)
  let r1 := Lo B r0.2
  let r2 := Lo B r1.2
  let r3 := Hl B r2.2
  let r4 := Ef B r3.2
  let q5 := if Gl r2.1 4 then Ef B r4.2 else (bs0, r4.2)
  let q6 := if Gl r2.1 4 then Ef B q5.2 else (bs0, q5.2)
  let q7 := if Gl r2.1 128 then Ef B q6.2 else (bs0, q6.2)
  let q8 := if Gl r2.1 64 then Ef B q7.2 else (bs0, q7.2)
  { Cn 1 with fLevel := r1.1, fKeep := r3.1, fClient := r4.1, fClean := Gl r2.1 2, fHasWill := Gl r2.1 4, fHasPass := Gl r2.1 64, fHasUser := Gl r2.1 128, fWQos := if Gl r2.1 4 then bits .and .i64 (r2.1 / 8) 3 else 0, fWRetain := if Gl r2.1 4 then Gl r2.1 32 else false, fWTopic := q5.1, fWBody := q6.1, fUser := q7.1, fPass := q8.1 }
def B3 (t : Int) (B : ByteArray) : Nat → Sc → List WantV → List Int → List ByteArray → List WantV × List Int × List ByteArray
  | 0, _, ws, cs, ns => (ws, cs, ns)
  | f + 1, s, ws, cs, ns =>
    if (!s.2 && decide (s.1 < ((B.size : Nat) : Int))) && decide (((ws.length : Nat) : Int) + ((cs.length : Nat) : Int) + ((ns.length : Nat) : Int) ≤ 4) then
      (if t = 8 then B3 t B f (Lo B (Ef B s).2).2 (ws ++ [⟨(Ef B s).1, (Lo B (Ef B s).2).1⟩]) cs ns
      else if t = 9 then B3 t B f (Lo B s).2 ws (cs ++ [(Lo B s).1]) ns
      else if t = 10 then B3 t B f (Ef B s).2 ws cs (ns ++ [(Ef B s).1])
      else B3 t B f (s.1, true) ws cs ns)
    else (ws, cs, ns)
def Dc (first : Int) (B : ByteArray) : PacketV :=
  let t := first / 16
  if t = 1 then Fd B
  else if t = 2 then { Cn t with fPresent := decide ((Lo B (0, false)).1 = 1), fCode := (Lo B (Lo B (0, false)).2).1 }
  else if t = 3 then
    (let r := Ef B (0, false)
     let w := if 0 < bits .and .i64 (first / 2) 3 then Hl B r.2 else (0, r.2)
     { Cn t with fDup := Gl first 8, fQos := bits .and .i64 (first / 2) 3, fRetain := Gl first 1, fTopic := r.1, fId := w.1, fBody := if w.2.2 then bs0 else B.extract w.2.1.toNat B.size })
  else if t = 12 ∨ t = 13 ∨ t = 14 then Cn t
  else { Cn t with fId := (Hl B (0, false)).1, fWants := (B3 t B 8 (Hl B (0, false)).2 [] [] []).1, fCodes := (B3 t B 8 (Hl B (0, false)).2 [] [] []).2.1, fNames := (B3 t B 8 (Hl B (0, false)).2 [] [] []).2.2 }
def Du (first : Int) : Bool :=
  if first / 16 = 3 then (!decide (bits .and .i64 (first % 16 / 2) 3 = 3) && (decide (0 < bits .and .i64 (first % 16 / 2) 3) || decide (bits .and .i64 (first % 16) 8 = 0)))
  else if first / 16 = 6 ∨ first / 16 = 8 ∨ first / 16 = 10 then decide (first % 16 = 2)
  else Eg (first / 16) 1 14 && decide (first % 16 = 0)
def E6 (first : Int) : Bool :=
  if first / 16 = 0 ∨ first / 16 = 15 then false
  else if first / 16 = 3 then (decide (first % 16 / 2 % 4 < 3) && (decide (0 < first % 16 / 2 % 4) || decide (first % 16 < 8)))
  else if first / 16 = 6 ∨ first / 16 = 8 ∨ first / 16 = 10 then decide (first % 16 = 2)
  else decide (first % 16 = 0)
theorem Afw : ∀ X : Fin 256, E6 ((X.val : Nat) : Int) = Du ((X.val : Nat) : Int) := by decide +kernel
theorem AhS {f : Int} (h0 : 0 ≤ f) (h1 : f < 256) : E6 f = Du f := by
  obtain ⟨k, rfl⟩ := zbw h0
  exact Afw ⟨k, by omega⟩
theorem X8 {x i : Int} (hx : 0 ≤ x ∧ x ≤ 127) (hi : 0 ≤ i ∧ i ≤ 3) : 0 ≤ x * 2 ^ (7 * i).toNat ∧ x * 2 ^ (7 * i).toNat ≤ 268435456 := by
  have : i = 0 ∨ i = 1 ∨ i = 2 ∨ i = 3 := by omega
  rcases this with rfl | rfl | rfl | rfl <;> simp <;> omega
theorem Abv (B : ByteArray) (a : Int) (ha : 0 ≤ a) : ∀ (f : Nat) (i z : Int), 0 ≤ i → i + f = 4 → (0 ≤ z ∧ z < 9223372036854775808) → (De B a f i z).2.2 = 0 → (0 ≤ (De B a f i z).1 ∧ (De B a f i z).1 < 9223372036854775808) ∧ a ≤ (De B a f i z).2.1 ∧ (De B a f i z).2.1 ≤ ((B.size : Nat) : Int)
  | 0, i, z, _, _, _, h => by simp [De] at h
  | f + 1, i, z, h0, h1, hz, h => by
    rw [De] at h ⊢
    have hb := Dw B (a + i)
    have hs := X8 (x := bits .and .i64 (Ax B (a + i)) 127) (i := i) (by rw [Pg hb.1 hb.2]; omega) (by omega)
    have ho := AfA (x := z) (y := bits .and .i64 (Ax B (a + i)) 127 * 2 ^ (7 * i).toNat) hz.1 hz.2 hs.1 (by omega)
    split at h
    · simp at h
    rename_i h2
    rw [if_neg h2]
    split at h
    · rename_i h3
      rw [if_pos h3]
      split at h
      · simp at h
      rename_i h4
      rw [if_neg h4]
      exact ⟨ho, by show a ≤ a + i + 1; omega, by show a + i + 1 ≤ _; omega⟩
    · rename_i h3
      rw [if_neg h3]
      exact Abv B a ha f (i + 1) _ (by omega) (by omega) ho h
theorem Mi {B : ByteArray} {a : Int} (h : (B6 B a).2.2 = 0) : (0 ≤ (B6 B a).1 ∧ (B6 B a).1 < 9223372036854775808) ∧ a ≤ (B6 B a).2.1 ∧ (B6 B a).2.1 ≤ ((B.size : Nat) : Int) := by
  unfold B6 at h ⊢
  split at h
  · simp at h
  rename_i h2
  rw [if_neg h2]
  exact Abv B a (by omega) 4 0 0 (by omega) (by omega) (by omega) h
def Hn (p : PacketV) (q5 q6 q7 q8 : ByteArray × Int × Bool) : PacketV :=
  if !q5.2.2 || !q6.2.2 then Cn 0 else if !q7.2.2 then Cn 0 else if !q8.2.2 then Cn 0 else { p with fWTopic := q5.1, fWBody := q6.1, fUser := q7.1, fPass := q8.1 }
def D0 (c : Bool) (x : Int → ByteArray × Int × Bool) (a : Int) : ByteArray × Int × Bool := if c then x a else (bs0, a, true)
def Ho (B : ByteArray) (f : Int) (p : PacketV) (a : Int) : PacketV :=
  Hn p (D0 (decide (0 < bits .and .i64 f 4)) (Bn B) a)
    (D0 (decide (0 < bits .and .i64 f 4)) (A8 B) (D0 (decide (0 < bits .and .i64 f 4)) (Bn B) a).2.1)
    (D0 (decide (0 < bits .and .i64 f 128)) (Bn B) (D0 (decide (0 < bits .and .i64 f 4)) (A8 B) (D0 (decide (0 < bits .and .i64 f 4)) (Bn B) a).2.1).2.1)
    (D0 (decide (0 < bits .and .i64 f 64)) (A8 B) (D0 (decide (0 < bits .and .i64 f 128)) (Bn B) (D0 (decide (0 < bits .and .i64 f 4)) (A8 B) (D0 (decide (0 < bits .and .i64 f 4)) (Bn B) a).2.1).2.1).2.1)
def F6 (B : ByteArray) (f l k : Int) (c : ByteArray) : PacketV := { Cn 1 with fLevel := l, fClean := decide (0 < bits .and .i64 f 2), fHasWill := decide (0 < bits .and .i64 f 4), fWQos := bits .and .i64 (f / 8) 3, fWRetain := decide (0 < bits .and .i64 f 32), fHasPass := decide (0 < bits .and .i64 f 64), fHasUser := decide (0 < bits .and .i64 f 128), fKeep := k, fClient := c }
def Hp (B : ByteArray) (a : Int) (r3 : Int × Int × Bool) (r4 : ByteArray × Int × Bool) : PacketV :=
  if !r3.2.2 || !r4.2.2 then Cn 0 else Ho B (Ax B (a + 1)) (F6 B (Ax B (a + 1)) (Ax B a) r3.1 r4.1) r4.2.1
def H0 (B : ByteArray) (r0 : ByteArray × Int × Bool) : PacketV :=
  if !r0.2.2 || (!(r0.1.toList == mqtt.toList) || decide (((B.size : Nat) : Int) - 2 < r0.2.1)) then Cn 0 else Hp B r0.2.1 (Bg B (r0.2.1 + 2)) (Bn B (Bg B (r0.2.1 + 2)).2.1)
def Ar (B : ByteArray) : PacketV := H0 B (Bn B 0)
def Lp (first : Int) : Int := bits .and .i64 (first / 2) 3
def Gc (B : ByteArray) : Nat → Int → List Int → List Int
  | 0, _, cs => cs
  | f + 1, a, cs => if a < ((B.size : Nat) : Int) then Gc B f (a + 1) (cs ++ [Ax B a]) else cs
def Cs (t : Int) (B : ByteArray) : Nat → Int → List WantV → List ByteArray → Option (List WantV × List ByteArray)
  | 0, _, ws, ns => some (ws, ns)
  | f + 1, a, ws, ns =>
    if decide (a < ((B.size : Nat) : Int)) && (decide (t = 8) || decide (t = 10)) then
      (if (Bn B a).2.2 then
        (if t = 10 then Cs t B f (Bn B a).2.1 ws (ns ++ [(Bn B a).1])
        else if (Bn B a).2.1 = ((B.size : Nat) : Int) then none
        else Cs t B f ((Bn B a).2.1 + 1) (ws ++ [⟨(Bn B a).1, Ax B (Bn B a).2.1⟩]) ns)
      else none)
    else some (ws, ns)
def Ml (t id : Int) (cs : List Int) : Option (List WantV × List ByteArray) → PacketV
  | none => Cn 0
  | some r => { Cn t with fId := id, fCodes := cs, fWants := r.1, fNames := r.2 }
def H3 (first : Int) (B : ByteArray) (c : ByteArray) (w : Int × Int × Bool) : PacketV :=
  if !w.2.2 then Cn 0 else { Cn (first / 16) with fDup := decide (0 < bits .and .i64 first 8), fQos := Lp first, fRetain := decide (0 < bits .and .i64 first 1), fTopic := c, fId := w.1, fBody := B.extract w.2.1.toNat B.size }
def Fm (t : Int) (B : ByteArray) (w : Int × Int × Bool) : PacketV :=
  if !w.2.2 then Cn 0 else Ml t w.1 (if t = 9 then Gc B (B.size + 1) w.2.1 [] else []) (Cs t B (B.size + 1) w.2.1 [] [])
def C9 (first : Int) (B : ByteArray) : PacketV :=
  if first / 16 = 1 then Ar B
  else if first / 16 = 2 ∧ ((B.size : Nat) : Int) = 2 then { Cn (first / 16) with fPresent := Ax B 0 == 1, fCode := Ax B 1 }
  else if first / 16 = 3 then (if !(Bn B 0).2.2 then Cn 0 else H3 first B (Bn B 0).1 (if 0 < Lp first then Bg B (Bn B 0).2.1 else (0, (Bn B 0).2.1, true)))
  else Fm (first / 16) B (if first / 16 < 12 then Bg B 0 else (0, 0, true))
end
section
open Go
theorem Ph {a b : ByteArray} (h : (a.toList == b.toList) = true) : a = b := eqB.1 h
theorem Adj {α : Type} {e : α → α → Bool} (he : ∀ x y, e x y = true → x = y) : ∀ (a b : List α), a.length = b.length → J4 e a b = true → a = b
 | [], [], _, _ => rfl
 | x :: a, y :: b, h, h2 => by
  rw [J4] at h2
  split at h2
  case isFalse => cases h2
  rw [he x y (by assumption), Adj he a b (by simpa using h) h2]
 | [], _ :: _, h, _ => by simp at h
 | _ :: _, [], h, _ => by simp at h
theorem Tc {α : Type} {e : α → α → Bool} (he : ∀ x y, e x y = true → x = y) {a b : List α} (h : Hd e a b = true) : a = b := by
 unfold Hd at h
 split at h
 exact Adj he a b (by assumption) h
 cases h
theorem Alk {a b : PacketV} (h : Dm a b = true) : a = b := by
 unfold Dm Mk Gr at h
 simp only [zag] at h
 obtain ⟨⟨⟨k1, k2⟩, k3⟩, h⟩ := h
 obtain ⟨⟨⟨⟨⟨⟨⟨⟨⟨⟨⟨⟨⟨⟨⟨⟨⟨⟨⟨⟨⟨h1, h2⟩, h3⟩, h4⟩, h5⟩, h6⟩, h7⟩, h8⟩, h9⟩, h10⟩, h11⟩, h12⟩, h13⟩, h14⟩, h15⟩, h16⟩, h17⟩, h18⟩, h19⟩, h20⟩, h21⟩, h22⟩ := h
 have w1 := Tc (fun x y e => by
  unfold Kd at e
  rw [zag] at e
  cases x
  cases y
  simp only [WantV.mk.injEq]
  exact ⟨Ph e.1, by simpa using e.2⟩) k1
 have w2 := Tc (fun x y e => Ph e) k2
 have w3 := Tc (fun x y e => by simpa [eqI] using e) k3
 cases a
 cases b
 simp only [PacketV.mk.injEq]
 exact ⟨by simpa using h1, by simpa using h2, by simpa using h3, by simpa using h4, by simpa using h5, Ph h6, Ph h7, Ph h8, by simpa using h9, by simpa using h10, by simpa using h11, by simpa using h12, Ph h13, Ph h14, by simpa using h15, by simpa using h16, by simpa using h17, Ph h18, by simpa using h19, Ph h20, by simpa using h21, by simpa using h22, w1, w2, w3⟩
theorem Fk {p : PacketV} (h : A7 p = true) : (1 ≤ p.fType ∧ p.fType ≤ 14) ∧ p = Db false p ∧ Fw p = true := by
 unfold A7 at h
 simp only [zag] at h
 refine ⟨by simpa [Eg] using h.1, Alk h.2.1, h.2.2⟩
structure PkF (p : PacketV) : Prop where
 ty : 1 ≤ p.fType ∧ p.fType ≤ 14
 q : 0 ≤ p.fQos ∧ p.fQos ≤ 2
 wq : 0 ≤ p.fWQos ∧ p.fWQos ≤ 2
 i : 0 ≤ p.fId ∧ p.fId ≤ 65535
theorem G0 {x a b : Int} : Eg x a b = true ↔ a ≤ x ∧ x ≤ b := by simp [Eg]
theorem Kr {p : PacketV} (h : A7 p = true) : (p.fType ≠ 3 → p.fQos = 0) ∧ (p.fType ≠ 1 → p.fWQos = 0) ∧ (p.fHasWill = false → p.fWQos = 0) ∧ (p.fQos = 0 → p.fType = 3 → p.fId = 0) ∧ (p.fType = 1 ∨ p.fType = 2 ∨ 12 ≤ p.fType → p.fId = 0) ∧ (p.fType ≠ 8 → p.fWants = []) ∧ (p.fType ≠ 9 → p.fCodes = []) ∧ (p.fType ≠ 10 → p.fNames = []) := by
 obtain ⟨ht, hn, hk⟩ := Fk h
 have q1 := congrArg PacketV.fQos hn
 have q2 := congrArg PacketV.fWQos hn
 have q3 := congrArg PacketV.fId hn
 have q4 := congrArg PacketV.fWants hn
 have q5 := congrArg PacketV.fCodes hn
 have q6 := congrArg PacketV.fNames hn
 clear hn hk h
 unfold Db Xe Xf at q1 q2 q3 q4 q5 q6
 refine ⟨fun e => ?_, fun e => ?_, fun e => ?_, fun e e2 => ?_, fun e => ?_, fun e => ?_, fun e => ?_, fun e => ?_⟩
 ·rw [q1]; (repeat' split) <;> (rfl)
 ·rw [q2]; (repeat' split) <;> first | rfl | (exfalso; omega)
 ·rw [q2, e]; (repeat' split) <;> first | rfl | contradiction
 ·rw [q3]; (repeat' split) <;> first | rfl | (exfalso; omega)
 ·rw [q3]; (repeat' split) <;> first | rfl | (exfalso; omega)
 ·rw [q4]; (repeat' split) <;> (rfl)
 ·rw [q5]; (repeat' split) <;> (rfl)
 ·rw [q6]; (repeat' split) <;> (rfl)
theorem Il {p : PacketV} (h : A7 p = true) : PkF p := by
 obtain ⟨ht, hn, hk⟩ := Fk h
 obtain ⟨k1, k2, k3, k4, k5, _⟩ := Kr h
 unfold Fw at hk
 refine ⟨ht, ?_, ?_, ?_⟩
 by_cases h3 : p.fType = 3
 rw [if_neg (by omega), if_neg (by omega), if_pos h3] at hk
 simp only [zag, G0] at hk
 exact hk.1
 rw [k1 h3]
 decide
 by_cases h1 : p.fType = 1
 rw [if_pos h1] at hk
 unfold Jz at hk
 cases hw : p.fHasWill
 rw [k3 hw]
 decide
 simp only [hw, zag, G0, zau, za7] at hk
 exact hk.2.2.2.1.2.2
 rw [k2 h1]
 decide
 by_cases h5 : p.fType = 1 ∨ p.fType = 2 ∨ 12 ≤ p.fType
 rw [k5 h5]
 decide
 by_cases h3 : p.fType = 3
 by_cases hq : p.fQos = 0
 rw [k4 hq h3]
 decide
 rw [if_neg (by omega), if_neg (by omega), if_pos h3] at hk
 simp only [zag, G0, zaK, decide_eq_true_eq] at hk
 omega
 rw [if_neg (by omega), if_neg (by omega), if_neg h3] at hk
 by_cases h4 : p.fType = 4 ∨ p.fType = 5 ∨ p.fType = 6 ∨ p.fType = 7 ∨ p.fType = 11
 rw [if_pos h4, G0] at hk
 omega
 rw [if_neg h4, if_pos (by omega)] at hk
 simp only [zag, G0] at hk
 omega
end
section
open Go
theorem O4 (B : ByteArray) (a : Int) : (A8 B a).1.size ≤ 60 := by
 obtain ⟨v, x, o, e⟩ : ∃ v x o, A8 B a = (v, x, o) := ⟨_, _, _, rfl⟩
 rw [e]
 exact (Fe e).1
theorem Uy (B : ByteArray) (a : Int) : (Bn B a).1.size ≤ 60 := by
 unfold Bn
 split
 exact O4 B a
 decide
theorem Yf (B : ByteArray) (s : Sc) : (Ef B s).1.size ≤ 60 := by
 unfold Ef
 split
 exact zay _
 exact O4 B s.1
structure PkB (k : Nat) (p : PacketV) : Prop where
 t1 : p.fTopic.size ≤ 60
 t2 : p.fClient.size ≤ 60
 t3 : p.fWTopic.size ≤ 60
 t4 : p.fUser.size ≤ 60
 b1 : p.fWBody.size ≤ 60
 b2 : p.fPass.size ≤ 60
 b3 : p.fBody.size ≤ k
 l1 : p.fWants.length ≤ k
 l2 : p.fNames.length ≤ k
 l3 : p.fCodes.length ≤ k
 w1 : ∀ y ∈ p.fWants, y.fFilter.size ≤ 60
 w2 : ∀ y ∈ p.fNames, y.size ≤ 60
theorem PkB.hyp {k : Nat} {p : PacketV} (h : PkB k p) (hk : k ≤ 1048576) : H5 p := by
 obtain ⟨t1, t2, t3, t4, b1, b2, b3, l1, l2, l3, w1, w2⟩ := h
 exact ⟨by omega, by omega, by omega, by omega, by omega, by omega, by omega, fun y hy => zaA (w1 y hy) (by decide), fun y hy => zaA (w2 y hy) (by decide)⟩
theorem Nb (k : Nat) (t : Int) : PkB k (Cn t) := ⟨zay _, zay _, zay _, zay _, zay _, zay _, zay _, zay _, zay _, zay _, fun y hy => (nomatch hy), fun y hy => (nomatch hy)⟩
theorem Aas {c : Prop} [Decidable c] {x y : ByteArray × Sc} (hx : x.1.size ≤ 60) (hy : y.1.size ≤ 60) : (if c then x else y).1.size ≤ 60 := by
 split
 exact hx
 exact hy
theorem Nx (t : Int) (B : ByteArray) : ∀ (f : Nat) (s : Sc) (ws : List WantV) (cs : List Int) (ns : List ByteArray), ws.length + cs.length + ns.length ≤ 5 → (∀ y ∈ ws, y.fFilter.size ≤ 60) → (∀ y ∈ ns, y.size ≤ 60) → ((B3 t B f s ws cs ns).1.length ≤ 5 ∧ (B3 t B f s ws cs ns).2.1.length ≤ 5 ∧ (B3 t B f s ws cs ns).2.2.length ≤ 5) ∧ (∀ y ∈ (B3 t B f s ws cs ns).1, y.fFilter.size ≤ 60) ∧ ∀ y ∈ (B3 t B f s ws cs ns).2.2, y.size ≤ 60
 | 0, s, ws, cs, ns, hl, h1, h2 => ⟨⟨by show ws.length ≤ 5; omega, by show cs.length ≤ 5; omega, by show ns.length ≤ 5; omega⟩, h1, h2⟩
 | f + 1, s, ws, cs, ns, hl, h1, h2 => by
  rw [B3]
  split
  rename_i hc
  simp only [zag, decide_eq_true_eq] at hc
  have hb := Yf B s
  split
  refine Nx t B f _ _ _ _ (by simp only [zae, zas]; omega) (fun y hy => ?_) h2
  rcases zaQ.1 hy with hy | hy
  exact h1 y hy
  rw [zbu.1 hy]
  exact hb
  split
  exact Nx t B f _ _ _ _ (by simp only [zae, zas]; omega) h1 h2
  split
  refine Nx t B f _ _ _ _ (by simp only [zae, zas]; omega) h1 (fun y hy => ?_)
  rcases zaQ.1 hy with hy | hy
  exact h2 y hy
  rw [zbu.1 hy]
  exact hb
  exact Nx t B f _ _ _ _ hl h1 h2
  exact ⟨⟨by show ws.length ≤ 5; omega, by show cs.length ≤ 5; omega, by show ns.length ≤ 5; omega⟩, h1, h2⟩
theorem Amd (first : Int) (B : ByteArray) {k : Nat} (hk : B.size ≤ k) : PkB (k + 5) (Dc first B) := by
 have h0 : (0 : Nat) ≤ 60 := zay _
 have hb := Yf B
 unfold Dc
 dsimp only
 split
 unfold Fd
 dsimp only
 exact ⟨h0, hb _, Aas (hb _) h0, Aas (hb _) h0, Aas (hb _) h0, Aas (hb _) h0, zay _, zay _, zay _, zay _, fun y hy => (nomatch hy), fun y hy => (nomatch hy)⟩
 split
 exact ⟨h0, h0, h0, h0, h0, h0, zay _, zay _, zay _, zay _, fun y hy => (nomatch hy), fun y hy => (nomatch hy)⟩
 split
 have hB : ∀ (x : Bool) (i : Nat), (if x = true then bs0 else B.extract i B.size).size ≤ k + 5 := fun x i => by
  split
  exact zay _
  rw [zap]
  omega
 exact ⟨hb _, h0, h0, h0, h0, h0, hB _ _, zay _, zay _, zay _, fun y hy => (nomatch hy), fun y hy => (nomatch hy)⟩
 split
 exact Nb _ _
 have h := Nx (first / 16) B 8 (Hl B (0, false)).2 [] [] [] (by decide) (fun y hy => nomatch hy) (fun y hy => nomatch hy)
 exact ⟨h0, h0, h0, h0, h0, h0, zay _, by show (B3 _ _ _ _ _ _ _).1.length ≤ _; omega, by show (B3 _ _ _ _ _ _ _).2.2.length ≤ _; omega, by show (B3 _ _ _ _ _ _ _).2.1.length ≤ _; omega, h.2.1, h.2.2⟩
theorem Zv (B : ByteArray) : ∀ (f : Nat) (a : Int) (cs : List Int), (Gc B f a cs).length ≤ cs.length + f
 | 0, a, cs => zao _
 | f + 1, a, cs => by
  rw [Gc]
  split
  have := Zv B f (a + 1) (cs ++ [Ax B a])
  simp only [zae, zas] at this
  omega
  omega
theorem Tw (t : Int) (B : ByteArray) : ∀ (f : Nat) (a : Int) (ws : List WantV) (ns : List ByteArray) (r : List WantV × List ByteArray), (∀ y ∈ ws, y.fFilter.size ≤ 60) → (∀ y ∈ ns, y.size ≤ 60) → Cs t B f a ws ns = some r → (r.1.length + r.2.length ≤ ws.length + ns.length + f) ∧ (∀ y ∈ r.1, y.fFilter.size ≤ 60) ∧ ∀ y ∈ r.2, y.size ≤ 60
 | 0, a, ws, ns, r, h1, h2, h => by
  cases h
  exact ⟨zao _, h1, h2⟩
 | f + 1, a, ws, ns, r, h1, h2, h => by
  have hb := Uy B a
  rw [Cs] at h
  split at h
  split at h
  split at h
  have := Tw t B f _ _ _ r h1 (fun y hy => by
   rcases zaQ.1 hy with hy | hy
   exact h2 y hy
   rw [zbu.1 hy]
   exact hb) h
  simp only [zae, zas] at this
  exact ⟨by omega, this.2⟩
  split at h
  cases h
  have := Tw t B f _ _ _ r (fun y hy => by
   rcases zaQ.1 hy with hy | hy
   exact h1 y hy
   rw [zbu.1 hy]
   exact hb) h2 h
  simp only [zae, zas] at this
  exact ⟨by omega, this.2⟩
  cases h
  cases h
  exact ⟨by show ws.length + ns.length ≤ _; omega, h1, h2⟩
theorem An3 (t id : Int) (cs : List Int) (k : Nat) (hc : cs.length ≤ k) (o : Option (List WantV × List ByteArray)) (ho : ∀ r, o = some r → (r.1.length + r.2.length ≤ k) ∧ (∀ y ∈ r.1, y.fFilter.size ≤ 60) ∧ ∀ y ∈ r.2, y.size ≤ 60) : PkB k (Ml t id cs o) := by
 have h0 : (0 : Nat) ≤ 60 := zay _
 cases o with
 | none => exact Nb _ _
 | some r =>
  obtain ⟨h1, h2, h3⟩ := ho r rfl
  exact ⟨h0, h0, h0, h0, h0, h0, zay _, by show r.1.length ≤ k; omega, by show r.2.length ≤ k; omega, hc, h2, h3⟩
theorem Ql {c : Bool} {x : Int → ByteArray × Int × Bool} (hx : ∀ a, (x a).1.size ≤ 60) (a : Int) : (D0 c x a).1.size ≤ 60 := by
 unfold D0
 split
 exact hx a
 exact zay _
theorem Ajp {k : Nat} {p : PacketV} {q5 q6 q7 q8 : ByteArray × Int × Bool} (h : PkB k p) (h5 : q5.1.size ≤ 60) (h6 : q6.1.size ≤ 60) (h7 : q7.1.size ≤ 60) (h8 : q8.1.size ≤ 60) : PkB k (Hn p q5 q6 q7 q8) := by
 unfold Hn
 split
 exact Nb _ _
 split
 exact Nb _ _
 split
 exact Nb _ _
 exact ⟨h.t1, h.t2, h5, h7, h6, h8, h.b3, h.l1, h.l2, h.l3, h.w1, h.w2⟩
theorem Ajq (first : Int) (B c : ByteArray) (w : Int × Int × Bool) {k : Nat} (hc : c.size ≤ 60) (hk : B.size ≤ k) : PkB (k + 5) (H3 first B c w) := by
 have h0 : (0 : Nat) ≤ 60 := zay _
 unfold H3
 split
 exact Nb _ _
 refine ⟨hc, h0, h0, h0, h0, h0, ?_, zay _, zay _, zay _, fun y hy => (nomatch hy), fun y hy => (nomatch hy)⟩
 show (B.extract _ _).size ≤ _
 rw [zap]
 omega
theorem Age (t : Int) (B : ByteArray) (w : Int × Int × Bool) {k : Nat} (hk : B.size ≤ k) : PkB (k + 5) (Fm t B w) := by
 unfold Fm
 split
 exact Nb _ _
 refine An3 _ _ _ _ ?_ _ fun r hr => ?_
 split
 have := Zv B (B.size + 1) w.2.1 []
 simp only [zax] at this
 omega
 exact zay _
 have := Tw _ B (B.size + 1) _ [] [] r (fun y hy => nomatch hy) (fun y hy => nomatch hy) hr
 simp only [zax] at this
 exact ⟨by omega, this.2⟩
theorem Amg (first : Int) (B : ByteArray) {k : Nat} (hk : B.size ≤ k) : PkB (k + 5) (C9 first B) := by
 have h0 : (0 : Nat) ≤ 60 := zay _
 have hb := Uy B
 have hb2 := O4 B
 unfold C9
 split
 unfold Ar H0 Hp Ho
 split
 exact Nb _ _
 split
 exact Nb _ _
 exact Ajp ⟨h0, hb _, h0, h0, h0, h0, zay _, zay _, zay _, zay _, fun y hy => (nomatch hy), fun y hy => (nomatch hy)⟩ (Ql hb _) (Ql hb2 _) (Ql hb _) (Ql hb2 _)
 split
 exact ⟨h0, h0, h0, h0, h0, h0, zay _, zay _, zay _, zay _, fun y hy => (nomatch hy), fun y hy => (nomatch hy)⟩
 split
 split
 exact Nb _ _
 exact Ajq _ _ _ _ (hb _) hk
 exact Age _ _ _ hk
theorem Add {α : Type} {w : α → Nat} {k : Nat} : ∀ (l : List α), (∀ z ∈ l, w z ≤ k) → Pa w l ≤ l.length * (k + 1)
 | [], _ => zay _
 | x :: l, h => by
  have h1 := h x (za1 ..)
  have h2 := Add l fun z hz => h z (zav _ hz)
  show 1 + w x + Pa w l ≤ (l.length + 1) * (k + 1)
  rw [zbK]
  omega
theorem PkB.wt {k : Nat} {p : PacketV} (h : PkB k p) (hk : k ≤ 400) : Cf p ≤ 60000 := by
 obtain ⟨t1, t2, t3, t4, b1, b2, b3, l1, l2, l3, w1, w2⟩ := h
 have e1 := Add (w := It) (k := 60) p.fWants fun z hz => by
  have := w1 z hz
  unfold It
  omega
 have e2 := Add (w := zbx) (k := 60) p.fNames w2
 unfold Cf
 omega
end
section
open Go
abbrev bl (B : ByteArray) : List UInt8 := B.data.toList
def u8 (z : Int) : UInt8 := UInt8.ofNat z.toNat
theorem Ln {z : Int} (h0 : 0 ≤ z) (h1 : z < 256) : (((u8 z).toNat : Nat) : Int) = z := by
 unfold u8
 rw [UInt8.toNat_ofNat']
 omega
theorem I6 (b : ByteArray) (z : Int) : bl (Ay b z) = bl b ++ [u8 z] := by
 unfold bl Ay u8
 rw [zbL, Array.toList_push]
theorem Z6 (a b : ByteArray) : bl (a ++ b) = bl a ++ bl b := by
 unfold bl
 rw [zbs, Array.toList_append]
theorem G1 (B : ByteArray) : (bl B).length = B.size := by
 simp [bl]
theorem Acd {a b : ByteArray} (h : bl a = bl b) : a = b := zbO (zbk h)
theorem Z7 (B : ByteArray) (i j : Nat) : bl (B.extract i j) = ((bl B).drop i).take (j - i) := by
 unfold bl
 rw [ByteArray.data_extract, Array.toList_extract, List.extract_eq_take_drop]
def M3 (n : Int) : List UInt8 := [u8 (n / 256 % 256 % 256), u8 (n % 256 % 256)]
theorem R0 (b : ByteArray) (n : Int) : bl (Ai b n) = bl b ++ M3 n := by
 unfold Ai M3
 rw [I6, I6, zaf]
 rfl
def Gm (s : ByteArray) : List UInt8 := M3 ((s.size : Nat) : Int) ++ bl s
theorem Mr {s : ByteArray} (h : Bv s = true) (b : ByteArray) : bl (Ah b s) = bl b ++ Gm s := by
 unfold Ah Gm
 rw [if_pos h, Z6, R0, zaf]
theorem AaO {s : ByteArray} (h : s.size ≤ 60) (b : ByteArray) : bl (Cq b s) = bl b ++ Gm s := by
 unfold Cq Gm
 rw [if_neg (by simp; omega), Z6, R0, zaf]
def Sf (B : ByteArray) (a : Int) (l : List UInt8) : Prop := 0 ≤ a ∧ a ≤ ((B.size : Nat) : Int) ∧ (bl B).drop a.toNat = l
theorem Sf.len {B : ByteArray} {a : Int} {l : List UInt8} (h : Sf B a l) : a + l.length = ((B.size : Nat) : Int) := by
 obtain ⟨h0, h1, rfl⟩ := h
 rw [zbB, G1]
 omega
theorem Sf.head {B : ByteArray} {a : Int} {x : UInt8} {l : List UInt8} (h : Sf B a (x :: l)) : Ax B a = ((x.toNat : Nat) : Int) ∧ a < ((B.size : Nat) : Int) ∧ Sf B (a + 1) l := by
 have hl := h.len
 obtain ⟨h0, h1, h2⟩ := h
 simp only [zan] at hl
 refine ⟨?_, by omega, by omega, by omega, ?_⟩
 have e : (bl B)[a.toNat]? = some x := by
  have := congrArg (fun l => l[0]?) h2
  simpa using this
 unfold Ax
 rw [zb1, e]
 rfl
 rw [show (a + 1).toNat = a.toNat + 1 by omega, ← zbq, h2]
 rfl
theorem Sf.skip {B : ByteArray} {a : Int} {x l : List UInt8} (h : Sf B a (x ++ l)) : Sf B (a + x.length) l := by
 have hl := h.len
 obtain ⟨h0, h1, h2⟩ := h
 simp only [zae] at hl
 refine ⟨by omega, by omega, ?_⟩
 rw [show (a + (x.length : Int)).toNat = a.toNat + x.length by omega, ← zbq, h2, List.drop_left]
theorem X6 (B : ByteArray) {l : List UInt8} (h : bl B = l) : Sf B 0 l := ⟨by omega, by omega, by simpa using h⟩
theorem Sf.nil {B : ByteArray} {a : Int} (h : Sf B a []) : a = ((B.size : Nat) : Int) := by
 have := h.len
 simpa using this
theorem Rr {B : ByteArray} {a z : Int} {l : List UInt8} (h : Sf B a (u8 z :: l)) (h0 : 0 ≤ z) (h1 : z < 256) : Lo B (a, false) = (z, a + 1, false) ∧ Sf B (a + 1) l := by
 obtain ⟨e1, e2, e3⟩ := h.head
 refine ⟨?_, e3⟩
 unfold Lo
 rw [Ln h0 h1] at e1
 rw [if_neg (by simp; omega), e1]
theorem Q1 {B : ByteArray} {a n : Int} {l : List UInt8} (h : Sf B a (M3 n ++ l)) (h0 : 0 ≤ n) (h1 : n < 65536) : Bg B a = (n, a + 2, true) ∧ Sf B (a + 2) l := by
 have h' : Sf B a (u8 (n / 256 % 256 % 256) :: u8 (n % 256 % 256) :: l) := h
 obtain ⟨e1, e2, e3⟩ := h'.head
 obtain ⟨f1, f2, f3⟩ := e3.head
 rw [Ln (by omega) (by omega)] at e1 f1
 refine ⟨?_, by rw [show a + 2 = a + 1 + 1 by omega]; exact f3⟩
 unfold Bg
 rw [if_neg (by have := h.1; omega), e1, f1]
 congr 1
 omega
theorem Ks {B s : ByteArray} {a : Int} {l : List UInt8} (h : Sf B a (Gm s ++ l)) (hs : s.size ≤ 60) : A8 B a = (s, a + 2 + s.size, true) ∧ Sf B (a + 2 + s.size) l := by
 have h' : Sf B a (M3 ((s.size : Nat) : Int) ++ (bl s ++ l)) := by
  unfold Gm at h
  rwa [zaf] at h
 obtain ⟨e1, e2⟩ := Q1 h' (by omega) (by omega)
 have e3 := e2.skip
 rw [G1] at e3
 refine ⟨?_, e3⟩
 have hl := e3.len
 have h0 := h.1
 unfold A8
 rw [e1]
 show (if true = false ∨ 60 < ((s.size : Nat) : Int) ∨ ((B.size : Nat) : Int) - (a + 2) < ((s.size : Nat) : Int) then _ else _) = _
 rw [if_neg (by simp; omega)]
 congr 1
 apply Acd
 show bl (B.extract (a + 2).toNat (a + 2 + ((s.size : Nat) : Int)).toNat) = _
 rw [Z7, e2.2.2, show (a + 2 + ((s.size : Nat) : Int)).toNat - (a + 2).toNat = (bl s).length by rw [G1]; omega, List.take_left]
theorem O1 {B s : ByteArray} {a : Int} {l : List UInt8} (h : Sf B a (Gm s ++ l)) (hs : Bv s = true) : Bn B a = (s, a + 2 + s.size, true) ∧ Sf B (a + 2 + s.size) l := by
 obtain ⟨e1, e2⟩ := Ks h (Fi hs)
 refine ⟨?_, e2⟩
 unfold Bn
 rw [e1]
 show (if true && Bv s then _ else _) = _
 rw [hs]
 rfl
theorem X7 {B : ByteArray} {a n : Int} {l : List UInt8} (h : Sf B a (M3 n ++ l)) (h0 : 0 ≤ n) (h1 : n < 65536) : Hl B (a, false) = (n, a + 2, false) := by
 unfold Hl
 rw [show (a, false).1 = a from rfl, (Q1 h h0 h1).1]
 rfl
theorem Lw {B s : ByteArray} {a : Int} {l : List UInt8} (h : Sf B a (Gm s ++ l)) (hs : s.size ≤ 60) : Ef B (a, false) = (s, a + 2 + s.size, false) := by
 unfold Ef
 rw [show (a, false).1 = a from rfl, (Ks h hs).1]
 rfl
theorem AdY {B s : ByteArray} {a : Int} (h : Sf B a (bl s)) : B.extract a.toNat B.size = s := by
 apply Acd
 rw [Z7, h.2.2]
 have := h.len
 have := h.1
 rw [G1] at *
 rw [zbb (by rw [G1]; omega)]
theorem Rt {s : ByteArray} (h : Ht s = true) : Bv s = true := by
 unfold Ht at h
 simp only [zag] at h
 simp [h]
theorem Ue {s : ByteArray} (h : Cp s = true) : Bv s = true := by
 unfold Cp F1 at h
 simp only [zag] at h
 exact h.2.1
theorem Sa {p : PacketV} (h : A7 p = true) : (0 ≤ Ci p ∧ Ci p < 256) ∧ Ci p / 16 = p.fType := by
 obtain ⟨ht, hq, _, _⟩ := Il h
 have h1 : ∀ b, 0 ≤ A0 b 8 ∧ A0 b 8 ≤ 8 := fun b => by cases b <;> decide
 have h2 : ∀ b, 0 ≤ A0 b 1 ∧ A0 b 1 ≤ 1 := fun b => by cases b <;> decide
 have a := h1 p.fDup
 have b := h2 p.fRetain
 unfold Ci
 (repeat' split) <;> omega
theorem Afx : ∀ (c w r s u : Bool) (q : Fin 3), let f : Int := A0 c 2 + A0 w 4 + 8 * ((q.val : Nat) : Int) + A0 r 32 + A0 s 64 + A0 u 128; ((0 ≤ f ∧ f < 256) ∧ Gl f 2 = c ∧ Gl f 4 = w ∧ bits .and .i64 (f / 8) 3 = ((q.val : Nat) : Int) ∧ Gl f 32 = r ∧ Gl f 64 = s ∧ Gl f 128 = u) ∧ decide (0 < bits .and .i64 f 2) = c ∧ decide (0 < bits .and .i64 f 4) = w ∧ decide (0 < bits .and .i64 f 32) = r ∧ decide (0 < bits .and .i64 f 64) = s ∧ decide (0 < bits .and .i64 f 128) = u := by decide +kernel
theorem AoM {p : PacketV} (hq : 0 ≤ p.fWQos ∧ p.fWQos ≤ 2) : ((0 ≤ Dv p ∧ Dv p < 256) ∧ Gl (Dv p) 2 = p.fClean ∧ Gl (Dv p) 4 = p.fHasWill ∧ bits .and .i64 (Dv p / 8) 3 = p.fWQos ∧ Gl (Dv p) 32 = p.fWRetain ∧ Gl (Dv p) 64 = p.fHasPass ∧ Gl (Dv p) 128 = p.fHasUser) ∧ decide (0 < bits .and .i64 (Dv p) 2) = p.fClean ∧ decide (0 < bits .and .i64 (Dv p) 4) = p.fHasWill ∧ decide (0 < bits .and .i64 (Dv p) 32) = p.fWRetain ∧ decide (0 < bits .and .i64 (Dv p) 64) = p.fHasPass ∧ decide (0 < bits .and .i64 (Dv p) 128) = p.fHasUser := by
 have h := Afx p.fClean p.fHasWill p.fWRetain p.fHasPass p.fHasUser ⟨p.fWQos.toNat, by omega⟩
 have e : ((p.fWQos.toNat : Nat) : Int) = p.fWQos := by omega
 simp only [e] at h
 exact h
theorem Ale : ∀ (d r : Bool) (q : Fin 3), let f : Int := 48 + A0 d 8 + 2 * ((q.val : Nat) : Int) + A0 r 1; (Gl f 8 = d ∧ bits .and .i64 (f / 2) 3 = ((q.val : Nat) : Int) ∧ Gl f 1 = r) ∧ decide (0 < bits .and .i64 f 8) = d ∧ decide (0 < bits .and .i64 f 1) = r := by decide +kernel
def H9 (c : Bool) (l : List UInt8) : List UInt8 := if c then l else []
theorem Adl {p : PacketV} (hc : Bv p.fClient = true) (hw : p.fHasWill = true → Bv p.fWTopic = true ∧ p.fWBody.size ≤ 60) (hu : Bv p.fUser = true) (hp : p.fPass.size ≤ 60) :
  bl (Ep p) = Gm mqtt ++ (u8 (p.fLevel % 256) :: u8 (Dv p % 256) :: (M3 p.fKeep ++ (Gm p.fClient ++ (H9 p.fHasWill (Gm p.fWTopic ++ Gm p.fWBody) ++ (H9 p.fHasUser (Gm p.fUser) ++ H9 p.fHasPass (Gm p.fPass)))))) := by
 have h3 : ∀ b, bl (Ct p b) = bl b ++ H9 p.fHasPass (Gm p.fPass) := fun b => by
  unfold Ct H9
  split
  exact AaO hp b
  simp
 have h2 : ∀ b, bl (Dk p b) = bl b ++ H9 p.fHasUser (Gm p.fUser) := fun b => by
  unfold Dk H9
  split
  exact Mr hu b
  simp
 have h1 : ∀ b, bl (Eo p b) = bl b ++ H9 p.fHasWill (Gm p.fWTopic ++ Gm p.fWBody) := fun b => by
  unfold Eo H9
  split
  rename_i h
  rw [AaO (hw h).2, Mr (hw h).1, zaf]
  simp
 unfold Ep Gt
 rw [h3, h2, h1, Mr hc, R0, I6, I6, Mr (by decide +kernel)]
 simp only [zaf, zai, zaq]
 rfl
theorem Im {B : ByteArray} {a : Int} {c : Bool} {x l : List UInt8} (h : Sf B a (H9 c x ++ l)) : (c = true → Sf B a (x ++ l)) ∧ (c = false → Sf B a l) := by
 unfold H9 at h
 constructor <;> intro hc <;> simpa [hc] using h
end
section
open Go
theorem Rf {p : PacketV} (h : A7 p = true) (h1 : p.fType = 1) : (Bv p.fClient = true ∧ (p.fHasWill = true → Bv p.fWTopic = true ∧ p.fWBody.size ≤ 60) ∧ Bv p.fUser = true ∧ p.fPass.size ≤ 60) ∧ (0 ≤ p.fLevel ∧ p.fLevel ≤ 255) ∧ (0 ≤ p.fKeep ∧ p.fKeep ≤ 65535) := by
 obtain ⟨_, _, hk⟩ := Fk h
 unfold Fw at hk
 rw [if_pos h1] at hk
 unfold Jz at hk
 simp only [zag, G0, decide_eq_true_eq, zaK] at hk
 obtain ⟨k1, k2, k3, k4, k5, k6⟩ := hk
 refine ⟨⟨k2, fun hw => ?_, k5, by omega⟩, k1, k3⟩
 rcases k4 with k4 | k4
 rw [hw] at k4
 cases k4
 exact ⟨Rt k4.1, by omega⟩
theorem Aab {p : PacketV} (h : A7 p = true) (h1 : p.fType = 1) : p = { Cn 1 with fLevel := p.fLevel, fKeep := p.fKeep, fClient := p.fClient, fClean := p.fClean, fHasWill := p.fHasWill, fHasPass := p.fHasPass, fHasUser := p.fHasUser, fWQos := p.fWQos, fWRetain := p.fWRetain, fWTopic := p.fWTopic, fWBody := p.fWBody, fUser := p.fUser, fPass := p.fPass } ∧ (p.fHasWill = false → p.fWTopic = bs0 ∧ p.fWBody = bs0 ∧ p.fWRetain = false ∧ p.fWQos = 0) ∧ (p.fHasUser = false → p.fUser = bs0 ∧ p.fHasPass = false) ∧ (p.fHasPass = false → p.fPass = bs0) := by
 obtain ⟨_, hn, _⟩ := Fk h
 clear h
 unfold Db at hn
 rw [if_pos h1] at hn
 obtain ⟨a1, a2, a3, a4, a5, a6, a7, a8, a9, a10, a11, a12, a13, a14, a15, a16, a17, a18, a19, a20, a21, a22, a23, a24, a25⟩ := p
 dsimp only at hn h1 ⊢
 subst h1
 cases a12 <;> cases a17 <;> cases a19 <;> simp only [Xe, Xf, Cn, if_true, if_false, zaa, PacketV.mk.injEq, true_and, and_true, false_and, and_false, reduceCtorEq] at hn <;> simp [Cn, hn]
theorem Ai8 (c : Bool) (x y : List UInt8) : H9 c (x ++ y) = H9 c x ++ H9 c y := by cases c <;> rfl
theorem Qw {B s : ByteArray} {a : Int} {c : Bool} {l : List UInt8} (h : Sf B a (H9 c (Gm s) ++ l)) (hs : s.size ≤ 60) (hz : c = false → s = bs0) : ∃ a', (if c then Ef B (a, false) else (bs0, (a, false))) = (s, a', false) ∧ Sf B a' l := by
 cases c with
 | true => exact ⟨_, Lw ((Im h).1 rfl) hs, (Ks ((Im h).1 rfl) hs).2⟩
 | false => exact ⟨a, by rw [hz rfl]; rfl, (Im h).2 rfl⟩
theorem Xl {B s : ByteArray} {a : Int} {c : Bool} {l : List UInt8} (h : Sf B a (H9 c (Gm s) ++ l)) (hs : s.size ≤ 60) (hz : c = false → s = bs0) : ∃ a', D0 c (A8 B) a = (s, a', true) ∧ Sf B a' l := by
 cases c with
 | true => exact ⟨_, (Ks ((Im h).1 rfl) hs).1, (Ks ((Im h).1 rfl) hs).2⟩
 | false => exact ⟨a, by rw [hz rfl]; rfl, (Im h).2 rfl⟩
theorem Zq {B s : ByteArray} {a : Int} {c : Bool} {l : List UInt8} (h : Sf B a (H9 c (Gm s) ++ l)) (hs : c = true → Bv s = true) (hz : c = false → s = bs0) : ∃ a', D0 c (Bn B) a = (s, a', true) ∧ Sf B a' l := by
 cases c with
 | true => exact ⟨_, (O1 ((Im h).1 rfl) (hs rfl)).1, (O1 ((Im h).1 rfl) (hs rfl)).2⟩
 | false => exact ⟨a, by rw [hz rfl]; rfl, (Im h).2 rfl⟩
theorem Ai9 (c : Bool) (x : List UInt8) : H9 c x = H9 c x ++ [] := (zam _).symm
theorem Ach {p : PacketV} (h : A7 p = true) (h1 : p.fType = 1) : p.fWTopic.size ≤ 60 ∧ p.fWBody.size ≤ 60 ∧ p.fUser.size ≤ 60 ∧ p.fPass.size ≤ 60 := by
 obtain ⟨⟨c1, c2, c3, c4⟩, _⟩ := Rf h h1
 obtain ⟨_, hz, _⟩ := Aab h h1
 cases hw : p.fHasWill
 rw [(hz hw).1, (hz hw).2.1]
 exact ⟨by decide, by decide, Fi c3, c4⟩
 exact ⟨Fi (c2 hw).1, (c2 hw).2, Fi c3, c4⟩
theorem Alf {p : PacketV} (h : A7 p = true) (h1 : p.fType = 1) : Fd (Ep p) = p ∧ Ar (Ep p) = p := by
 obtain ⟨⟨c1, c2, c3, c4⟩, c5, c6⟩ := Rf h h1
 obtain ⟨z0, z1, z2, z3⟩ := Aab h h1
 obtain ⟨y1, y2, y3, y4⟩ := Ach h h1
 obtain ⟨⟨f0, f1, f2, f3, f4, f5, f6⟩, g1, g2, g4, g5, g6⟩ := AoM (Il h).wq
 have s0 := X6 (Ep p) (Adl c1 c2 c3 c4)
 have e0 := Lw s0 (by decide)
 have k0 := (O1 s0 (by decide +kernel)).1
 have s1 := (Ks s0 (by decide)).2
 generalize ha : (0 + 2 + ((mqtt.size : Nat) : Int)) = a at e0 k0 s1
 obtain ⟨e1, s2⟩ := Rr s1 (by omega) (by omega)
 obtain ⟨e2, s3⟩ := Rr s2 (by omega) (by omega)
 have hb1 := s1.head.1
 have hb2 := s2.head.1
 have hlt := s2.head.2.1
 rw [Ln (by omega) (by omega)] at hb1 hb2
 have e3 := X7 s3 c6.1 (by omega)
 obtain ⟨k3, s4⟩ := Q1 s3 c6.1 (by omega)
 have e4 := Lw s4 (Fi c1)
 obtain ⟨k4, s5⟩ := O1 s4 c1
 rw [Ai8, zaf] at s5
 rw [Ai9 p.fHasPass] at s5
 have fl : Dv p % 256 = Dv p := by omega
 have ll : p.fLevel % 256 = p.fLevel := by omega
 rw [fl] at e2 hb2
 rw [ll] at e1 hb1
 have hz1 : p.fHasUser = false → p.fUser = bs0 := fun e => (z2 e).1
 constructor
 obtain ⟨a5, e5, s6⟩ := Qw s5 y1 (fun e => (z1 e).1)
 obtain ⟨a6, e6, s7⟩ := Qw s6 y2 (fun e => (z1 e).2.1)
 obtain ⟨a7, e7, s8⟩ := Qw s7 y3 hz1
 obtain ⟨a8, e8, s9⟩ := Qw s8 y4 z3
 unfold Fd
 simp only [e0, e1, e2, e3, e4, f1, f2, f3, f4, f5, f6, e5, e6, e7, e8]
 have w1 : (if p.fHasWill = true then p.fWQos else 0) = p.fWQos := by
  split
  rfl
  rename_i hw
  exact ((z1 (by simpa using hw)).2.2.2).symm
 have w2 : (if p.fHasWill = true then p.fWRetain else false) = p.fWRetain := by
  split
  rfl
  rename_i hw
  exact ((z1 (by simpa using hw)).2.2.1).symm
 rw [w1, w2]
 exact z0.symm
 obtain ⟨a5, e5, s6⟩ := Zq s5 (fun e => (c2 e).1) (fun e => (z1 e).1)
 obtain ⟨a6, e6, s7⟩ := Xl s6 y2 (fun e => (z1 e).2.1)
 obtain ⟨a7, e7, s8⟩ := Zq s7 (fun _ => c3) hz1
 obtain ⟨a8, e8, s9⟩ := Xl s8 y4 z3
 unfold Ar
 rw [k0]
 unfold H0
 rw [if_neg (by simp; omega)]
 show Hp _ a (Bg _ (a + 2)) (Bn _ (Bg _ (a + 2)).2.1) = p
 rw [show a + 2 = a + 1 + 1 by omega, k3, k4]
 unfold Hp
 rw [if_neg (by simp), hb2, hb1]
 show Ho _ (Dv p) _ (a + 1 + 1 + 2 + 2 + ((p.fClient.size : Nat) : Int)) = p
 unfold Ho
 rw [g2, e5]
 dsimp only
 rw [e6]
 dsimp only
 rw [g6, e7]
 dsimp only
 rw [g5, e8]
 unfold Hn F6
 rw [if_neg (by simp), if_neg (by simp), if_neg (by simp)]
 simp only [g1, g2, g4, g5, g6, f3]
 exact z0.symm
end
section
open Go
theorem AnM {p : PacketV} (h : A7 p = true) (h2 : p.fType = 2) {B : ByteArray} (hB : B = Ay (Ay bs0 (A0 p.fPresent 1 % 256)) (p.fCode % 256)) : { Cn 2 with fPresent := decide ((Lo B (0, false)).1 = 1), fCode := (Lo B (Lo B (0, false)).2).1 } = p ∧ ((B.size : Nat) : Int) = 2 ∧ { Cn 2 with fPresent := Ax B 0 == 1, fCode := Ax B 1 } = p := by
 obtain ⟨_, hn, hk⟩ := Fk h
 unfold Fw at hk
 rw [if_neg (by omega), if_pos h2] at hk
 simp only [zag, G0] at hk
 have hb : 0 ≤ A0 p.fPresent 1 ∧ A0 p.fPresent 1 ≤ 1 ∧ (A0 p.fPresent 1 = 1 ↔ p.fPresent = true) := by
  unfold A0
  cases p.fPresent <;> simp
 have s0 := X6 B (l := u8 (A0 p.fPresent 1 % 256) :: u8 (p.fCode % 256) :: []) (by rw [hB, I6, I6]; rfl)
 have hs := s0.len
 obtain ⟨e1, s1⟩ := Rr s0 (by omega) (by omega)
 obtain ⟨e2, s2⟩ := Rr s1 (by omega) (by omega)
 have b1 := s0.head.1
 have b2 := s1.head.1
 rw [Ln (by omega) (by omega)] at b1 b2
 have eb : A0 p.fPresent 1 % 256 = A0 p.fPresent 1 := by omega
 have ec : p.fCode % 256 = p.fCode := by omega
 rw [eb] at e1 b1
 rw [ec] at e2 b2
 have hz : { Cn 2 with fCode := p.fCode, fPresent := p.fPresent } = p := by
  unfold Db at hn
  rw [if_neg (by omega), if_pos h2, h2] at hn
  simpa using hn.symm
 have hd : decide (A0 p.fPresent 1 = 1) = p.fPresent := by
  cases hq : p.fPresent <;> simp [A0]
 refine ⟨?_, by simpa using hs.symm, ?_⟩
 rw [e1]
 show { Cn 2 with fPresent := decide (A0 p.fPresent 1 = 1), fCode := (Lo B (0 + 1, false)).1 } = p
 rw [e2, hd]
 exact hz
 have b3 : Ax B 1 = p.fCode := b2
 have : (A0 p.fPresent 1 == 1) = p.fPresent := by
  cases hq : p.fPresent <;> simp [A0]
 rw [b1, b3, this]
 exact hz
theorem AfC {p : PacketV} (h : A7 p = true) (h3 : p.fType = 3) : (Gl (Ci p) 8 = p.fDup ∧ bits .and .i64 (Ci p / 2) 3 = p.fQos ∧ Gl (Ci p) 1 = p.fRetain) ∧ decide (0 < bits .and .i64 (Ci p) 8) = p.fDup ∧ decide (0 < bits .and .i64 (Ci p) 1) = p.fRetain := by
 obtain ⟨_, hq, _, _⟩ := Il h
 have k := Ale p.fDup p.fRetain ⟨p.fQos.toNat, by omega⟩
 have e : ((p.fQos.toNat : Nat) : Int) = p.fQos := by omega
 have e2 : Ci p = 48 + A0 p.fDup 8 + 2 * p.fQos + A0 p.fRetain 1 := by
  unfold Ci
  rw [if_pos h3, h3]
  omega
 simp only [e, ← e2] at k
 exact k
theorem AnN {p : PacketV} (h : A7 p = true) (h3 : p.fType = 3) : Dc (Ci p) (Gf p) = p ∧ C9 (Ci p) (Gf p) = p := by
 obtain ⟨_, hn, hk⟩ := Fk h
 obtain ⟨hf, hi⟩ := (Il h).q, (Il h).i
 unfold Fw at hk
 rw [if_neg (by omega), if_neg (by omega), if_pos h3] at hk
 simp only [zag, G0, decide_eq_true_eq, zaK] at hk
 obtain ⟨k1, k2, k3, k4⟩ := hk
 obtain ⟨⟨q1, q2, q3⟩, q4, q5⟩ := AfC h h3
 have ht := (Sa h).2
 have hT := Rt k2
 have s0 := X6 (Gf p) (l := Gm p.fTopic ++ (H9 (decide (0 < p.fQos)) (M3 p.fId) ++ bl p.fBody)) (by
  unfold Gf
  rw [Z6]
  split
  rename_i hq
  rw [R0, Mr hT]
  simp [H9, hq]
  rename_i hq
  rw [Mr hT]
  simp [H9, hq])
 have e0 := Lw s0 (Fi hT)
 obtain ⟨k0, s1⟩ := O1 s0 hT
 generalize ha : (0 + 2 + ((p.fTopic.size : Nat) : Int)) = a at e0 k0 s1
 have hz : p = { Cn 3 with fQos := p.fQos, fRetain := p.fRetain, fTopic := p.fTopic, fBody := p.fBody, fDup := p.fDup, fId := p.fId } ∧ (¬ 0 < p.fQos → p.fDup = false ∧ p.fId = 0) := by
  unfold Db at hn
  rw [if_neg (by omega), if_neg (by omega), if_pos h3, h3] at hn
  split at hn
  rename_i hq
  exact ⟨hn, fun e => absurd hq e⟩
  rename_i hq
  have d1 : p.fDup = false := congrArg PacketV.fDup hn
  have d2 : p.fId = 0 := congrArg PacketV.fId hn
  exact ⟨by rw [d1, d2]; exact hn, fun _ => ⟨d1, d2⟩⟩
 have e3 : Ci p / 16 = 3 := by omega
 have fin : ∀ (w : Int × Int × Bool), w = (if 0 < p.fQos then (p.fId, a + 2, true) else (0, a, true)) → p = { Cn 3 with fDup := p.fDup, fQos := p.fQos, fRetain := p.fRetain, fTopic := p.fTopic, fId := w.1, fBody := (Gf p).extract w.2.1.toNat (Gf p).size } := by
  rintro w rfl
  by_cases hq : 0 < p.fQos
  have s2 := (Im s1).1 (by simp [hq])
  obtain ⟨_, s3⟩ := Q1 s2 hi.1 (by omega)
  rw [if_pos hq]
  dsimp only
  rw [AdY s3]
  exact hz.1
  have s2 := (Im s1).2 (by simp [hq])
  rw [if_neg hq]
  dsimp only
  rw [AdY s2, ← (hz.2 hq).2]
  exact hz.1
 constructor
 have e1 : (if 0 < p.fQos then Hl (Gf p) (a, false) else (0, a, false)) = ((if 0 < p.fQos then (p.fId, a + 2, true) else (0, a, true)).1, (if 0 < p.fQos then (p.fId, a + 2, true) else (0, a, true)).2.1, false) := by
  by_cases hq : 0 < p.fQos
  rw [if_pos hq, if_pos hq, X7 ((Im s1).1 (by simp [hq])) hi.1 (by omega)]
  rw [if_neg hq, if_neg hq]
 unfold Dc
 dsimp only
 rw [e3, if_neg (by decide), if_neg (by decide), if_pos rfl, e0, q1, q2, q3]
 dsimp only
 rw [e1]
 dsimp only
 simp only [zaa, if_false]
 exact (fin _ rfl).symm
 have e1 : (if 0 < p.fQos then Bg (Gf p) a else (0, a, true)) = (if 0 < p.fQos then (p.fId, a + 2, true) else (0, a, true)) := by
  by_cases hq : 0 < p.fQos
  rw [if_pos hq, if_pos hq, (Q1 ((Im s1).1 (by simp [hq])) hi.1 (by omega)).1]
  rw [if_neg hq, if_neg hq]
 unfold C9 Lp
 rw [e3, if_neg (by decide), if_neg (by omega), if_pos rfl, k0, q2]
 dsimp only
 rw [if_neg (by simp), e1]
 unfold H3 Lp
 rw [q2, q4, q5, e3, if_neg (by split <;> simp)]
 exact (fin _ rfl).symm
def Kv (w : WantV) : List UInt8 := Gm w.fFilter ++ [u8 (w.fQos % 256)]
theorem Vt : ∀ (l : List WantV) (b : ByteArray), (∀ w ∈ l, Bv w.fFilter = true) → bl (Bc b l) = bl b ++ (l.map Kv).flatten
 | [], b, _ => by simp [Bc]
 | w :: l, b, h => by
  have e := Vt l (Ay (Ah b w.fFilter) (w.fQos % 256)) fun x hx => h x (zav _ hx)
  rw [I6, Mr (h w (za1 ..))] at e
  show bl (Bc (Ay (Ah b w.fFilter) (w.fQos % 256)) l) = _
  rw [e, zat, za3]
  simp only [Kv, zaf]
theorem Vr : ∀ (l : List Int) (b : ByteArray), bl (Da b l) = bl b ++ l.map fun c => u8 (c % 256)
 | [], b => by simp [Da]
 | c :: l, b => by
  have e := Vr l (Ay b (c % 256))
  rw [I6] at e
  show bl (Da (Ay b (c % 256)) l) = _
  rw [e, zat, zaf]
  rfl
theorem Vs : ∀ (l : List ByteArray) (b : ByteArray), (∀ w ∈ l, Bv w = true) → bl (E5 b l) = bl b ++ (l.map Gm).flatten
 | [], b, _ => by simp [E5]
 | w :: l, b, h => by
  have e := Vs l (Ah b w) fun x hx => h x (zav _ hx)
  rw [Mr (h w (za1 ..))] at e
  show bl (E5 (Ah b w) l) = _
  rw [e, zat, za3, zaf]
theorem Vh {t : Int} {B : ByteArray} {f : Nat} {a : Int} {ws : List WantV} {cs : List Int} {ns : List ByteArray} (s : Sf B a []) : B3 t B (f + 1) (a, false) ws cs ns = (ws, cs, ns) := by
 rw [B3, if_neg (by have := s.nil; simp; omega)]
theorem Apm {B : ByteArray} : ∀ (l ws : List WantV) (f : Nat) (a : Int), Sf B a (l.map Kv).flatten → (∀ w ∈ l, Bv w.fFilter = true ∧ 0 ≤ w.fQos ∧ w.fQos < 256) → ws.length + l.length ≤ 4 → l.length < f → B3 8 B f (a, false) ws [] [] = (ws ++ l, [], [])
 | [], ws, f + 1, a, s, h, hl, hf => by
  rw [Vh s, zam]
 | w :: l, ws, f + 1, a, s, h, hl, hf => by
  simp only [zan] at hl hf
  rw [zat, za3] at s
  obtain ⟨h1, h2⟩ := h w (za1 ..)
  have s' : Sf B a (Gm w.fFilter ++ (u8 (w.fQos % 256) :: (l.map Kv).flatten)) := by
   unfold Kv at s
   rw [zaf] at s
   exact s
  have e1 := Lw s' (Fi h1)
  obtain ⟨_, s2⟩ := Ks s' (Fi h1)
  obtain ⟨e2, s3⟩ := Rr s2 (by omega) (by omega)
  have hlt := s'.head.2.1
  rw [B3, if_pos (by simp; omega), if_pos rfl, e1]
  dsimp only
  rw [e2, show w.fQos % 256 = w.fQos by omega]
  dsimp only
  rw [Apm l (ws ++ [(⟨w.fFilter, w.fQos⟩ : WantV)]) f _ s3 (fun x hx => h x (zav _ hx)) (by simp only [zae, zas]; omega) (by omega), zaf]
  rfl
theorem Apn {B : ByteArray} : ∀ (l cs : List Int) (f : Nat) (a : Int), Sf B a (l.map fun c => u8 (c % 256)) → (∀ c ∈ l, 0 ≤ c ∧ c < 256) → cs.length + l.length ≤ 4 → l.length < f → B3 9 B f (a, false) [] cs [] = ([], cs ++ l, [])
 | [], cs, f + 1, a, s, h, hl, hf => by
  rw [Vh s, zam]
 | c :: l, cs, f + 1, a, s, h, hl, hf => by
  simp only [zan] at hl hf
  rw [zat] at s
  have h2 := h c (za1 ..)
  obtain ⟨e2, s3⟩ := Rr s (by omega) (by omega)
  have hlt := s.head.2.1
  rw [B3, if_pos (by simp; omega), if_neg (by decide), if_pos rfl, e2, show c % 256 = c by omega]
  dsimp only
  rw [Apn l (cs ++ [c]) f _ s3 (fun x hx => h x (zav _ hx)) (by simp only [zae, zas]; omega) (by omega), zaf]
  rfl
theorem Ame {B : ByteArray} : ∀ (l ns : List ByteArray) (f : Nat) (a : Int), Sf B a (l.map Gm).flatten → (∀ w ∈ l, Bv w = true) → ns.length + l.length ≤ 4 → l.length < f → B3 10 B f (a, false) [] [] ns = ([], [], ns ++ l)
 | [], ns, f + 1, a, s, h, hl, hf => by
  rw [Vh s, zam]
 | w :: l, ns, f + 1, a, s, h, hl, hf => by
  simp only [zan] at hl hf
  rw [zat, za3] at s
  have h1 := h w (za1 ..)
  have e1 := Lw s (Fi h1)
  obtain ⟨_, s2⟩ := Ks s (Fi h1)
  have hlt := s.head.2.1
  rw [B3, if_pos (by simp; omega), if_neg (by decide), if_neg (by decide), if_pos rfl, e1]
  dsimp only
  rw [Ame l (ns ++ [w]) f _ s2 (fun x hx => h x (zav _ hx)) (by simp only [zae, zas]; omega) (by omega), zaf]
  rfl
theorem Sz {t : Int} {B : ByteArray} {f : Nat} {a : Int} {ws : List WantV} {ns : List ByteArray} (h : ((B.size : Nat) : Int) ≤ a ∨ (t ≠ 8 ∧ t ≠ 10)) : Cs t B (f + 1) a ws ns = some (ws, ns) := by
 rw [Cs, if_neg (by simp; omega)]
theorem Apo {B : ByteArray} : ∀ (l ws : List WantV) (f : Nat) (a : Int), Sf B a (l.map Kv).flatten → (∀ w ∈ l, Bv w.fFilter = true ∧ 0 ≤ w.fQos ∧ w.fQos < 256) → l.length < f → Cs 8 B f a ws [] = some (ws ++ l, [])
 | [], ws, f + 1, a, s, h, hf => by
  rw [Sz (.inl (by have := s.nil; omega)), zam]
 | w :: l, ws, f + 1, a, s, h, hf => by
  simp only [zan] at hf
  rw [zat, za3] at s
  obtain ⟨h1, h2⟩ := h w (za1 ..)
  have s' : Sf B a (Gm w.fFilter ++ (u8 (w.fQos % 256) :: (l.map Kv).flatten)) := by
   unfold Kv at s
   rw [zaf] at s
   exact s
  obtain ⟨e1, s2⟩ := O1 s' h1
  obtain ⟨e2, s3⟩ := Rr s2 (by omega) (by omega)
  obtain ⟨hb, hl2, _⟩ := s2.head
  rw [Ln (by omega) (by omega), show w.fQos % 256 = w.fQos by omega] at hb
  have hlt := s'.head.2.1
  rw [Cs, if_pos (by simp; omega), e1]
  dsimp only
  rw [if_pos rfl, if_neg (by decide), if_neg (by omega), hb, Apo l (ws ++ [(⟨w.fFilter, w.fQos⟩ : WantV)]) f _ s3 (fun x hx => h x (zav _ hx)) (by omega), zaf]
  rfl
theorem Amf {B : ByteArray} : ∀ (l ns : List ByteArray) (f : Nat) (a : Int), Sf B a (l.map Gm).flatten → (∀ w ∈ l, Bv w = true) → l.length < f → Cs 10 B f a [] ns = some ([], ns ++ l)
 | [], ns, f + 1, a, s, h, hf => by
  rw [Sz (.inl (by have := s.nil; omega)), zam]
 | w :: l, ns, f + 1, a, s, h, hf => by
  simp only [zan] at hf
  rw [zat, za3] at s
  have h1 := h w (za1 ..)
  obtain ⟨e1, s2⟩ := O1 s h1
  have hlt := s.head.2.1
  rw [Cs, if_pos (by simp; omega), e1]
  dsimp only
  rw [if_pos rfl, if_pos rfl, Amf l (ns ++ [w]) f _ s2 (fun x hx => h x (zav _ hx)) (by omega), zaf]
  rfl
theorem rdC {B : ByteArray} : ∀ (l cs : List Int) (f : Nat) (a : Int), Sf B a (l.map fun c => u8 (c % 256)) → (∀ c ∈ l, 0 ≤ c ∧ c < 256) → l.length < f → Gc B f a cs = cs ++ l
 | [], cs, f + 1, a, s, h, hf => by
  rw [Gc, if_neg (by have := s.nil; omega), zam]
 | c :: l, cs, f + 1, a, s, h, hf => by
  simp only [zan] at hf
  rw [zat] at s
  have h2 := h c (za1 ..)
  obtain ⟨hb, hlt, s3⟩ := s.head
  rw [Ln (by omega) (by omega), show c % 256 = c by omega] at hb
  rw [Gc, if_pos hlt, hb, rdC l (cs ++ [c]) f _ s3 (fun x hx => h x (zav _ hx)) (by omega), zaf]
  rfl
end
section
open Go
theorem Kh (a : ByteArray) : bs0 ++ a = a := by
 apply zbO
 rw [zbs]
 exact Array.empty_append ..
theorem Az : bs0.size = 0 := rfl
theorem AfZ (z : Int) (hz : 0 ≤ z ∧ z < 256) : AV.ro 1 [.sc (.int .u8 z)] = Ae (Ay bs0 z) := by
 rw [H6 _ z hz.1 hz.2]
 rfl
theorem Amq (z w : Int) (hz : (0 ≤ z ∧ z < 256) ∧ 0 ≤ w ∧ w < 256) : AV.ro 2 [.sc (.int .u8 z), .sc (.int .u8 w)] = Ae (Ay (Ay bs0 z) w) := by
 rw [H6 _ w hz.2.1 hz.2.2, Aq, (AV.ro.inj (H6 bs0 z hz.1.1 hz.1.2)).2]
 rfl
theorem AaM (b c : ByteArray) (z : Int) : b ++ Ay c z = Ay (b ++ c) z := by
 apply zbO
 unfold Ay
 rw [zbs, zbL, zbL, zbs, Array.append_push]
theorem Ajk (a : ByteArray) : a ++ bs0 = a := by
 apply zbO
 rw [zbs]
 exact Array.append_empty ..
theorem Ko (n : Nat) (hn : 1048576 < n) (a : ByteArray) (hs : a.size ≤ 140737488355327) : Cb E0 (n + 4) 22 77 [.ro 1 [Ae a]] = some (Ae (a)) := by
 rw [At, Ah6, f77]
 refine B8 (G := (· = some (Ae (a)))) ?_
 try simp only [Fa, E9]
 have s0 : Sep [] [] := B4
 refine Dd ?_
 rw [On]
 try simp only [Fa, E9]
 refine Dq (Au (by decide) (Aap (r := [Ae a]) (by decide) (Cr rfl) rfl (Fq (c := Ae a) rfl (Js s0 (by omega) fun x1 H lx1 s2 => Bq (by omega) (by omega) ?_))))
 rw [On]
 try simp only [Fa, E9]
 refine Dq (A6 (by decide) (Al (C3 s2 (.here)) ?_))
 rfl
theorem L9 (n : Nat) (hn : 1048576 < n) (a : ByteArray) (b : ByteArray) (hs : a.size + b.size ≤ 140737488355327) : Cb E0 (n + 4) 22 77 [.ro 2 [Ae a, Ae b]] = some (Ae (a ++ b)) := by
 rw [At, Ah6, f77]
 refine B8 (G := (· = some (Ae (a ++ b)))) ?_
 try simp only [Fa, E9]
 have s0 : Sep [] [] := B4
 refine Dd ?_
 rw [On]
 try simp only [Fa, E9]
 refine Dq (Au (by decide) (Aap (r := [Ae a, Ae b]) (by decide) (Cr rfl) rfl (Fq (c := Ae a) rfl (Js s0 (by omega) fun x1 H lx1 s2 => Bq (by omega) (by omega) ?_))))
 rw [On]
 try simp only [Fa, E9]
 refine Dq (Au (by decide) (Aap (r := [Ae b]) (by decide) (Cr rfl) rfl (Fq (c := Ae b) rfl (Ki (s := a) s2 ⟨_, _, rfl, rfl, rfl, rfl⟩ (.here) O2 (by omega) fun x3 H lx3 s4 => Bq (by omega) (by omega) ?_))))
 rw [On]
 try simp only [Fa, E9]
 refine Dq (A6 (by decide) (Al (C3 s4 (.here)) ?_))
 rfl
theorem Si (n : Nat) (hn : 1048576 < n) (b : ByteArray) (n_ : Int) (hs : b.size ≤ 70368744177664) : Cb E0 (n + 5) 22 142 [Ae b, .sc (.int .i64 n_)] = some (Ae (Ai b n_)) := by
 rw [At, AjN, f142]
 refine B8 (G := (· = some (Ae (Ai b n_)))) ?_
 try simp only [Fa, E9]
 have s0 : Sep [] [] := B4
 refine Ug 256 rfl (by decide) (Gn (Mq _) (Fp (IntKind.wrap_u8 _) (Gn (Mq _) (Fp (IntKind.wrap_u8 _) (Aw (cs := [.sc (.int .u8 (((n_ / 256) % 256) % 256)), .sc (.int .u8 ((n_ % 256) % 256))]) rfl (Bt s0 fun i1 H s2 => Aw (cs := [Ae b, .sl i1 0 2 1]) rfl (Bt s2 fun i3 H s4 => Bo s4 rfl (.sl (.here) rfl (.cons .ro (.sl Cl rfl (S8 .nil) .nil)) .nil) (by rw [Amq (((n_ / 256) % 256) % 256) ((n_ % 256) % 256) (by omega)]; exact L9 n (by omega) b (Ay (Ay bs0 (((n_ / 256) % 256) % 256)) ((n_ % 256) % 256)) (by (simp only [Aq, An, Az]; omega))) (Ca (b ++ (Ay (Ay bs0 (((n_ / 256) % 256) % 256)) ((n_ % 256) % 256)))) fun x5 H lx5 s6 => Al (C3 s6 (.here)) ?_)))))))
 (rw [AaM, AaM, Ajk]; rfl)
theorem S3 (n : Nat) (hn : 1048576 < n) (b : ByteArray) (n_ : Int) (hs : b.size ≤ 70368744177664) : Cb E0 (n + 1) 22 95 [Ae b, .sc (.int .i64 n_)] = some (Ae (Ai b n_)) := by
 rw [At, Anx, f95]
 refine B8 (G := (· = some (Ae (Ai b n_)))) ?_
 try simp only [Fa, E9]
 have s0 : Sep [] [] := B4
 refine Js s0 (by omega) fun x1 H lx1 s2 => Ug 256 rfl (by decide) (Gn (Mq _) (Fp (IntKind.wrap_u8 _) (Gn (Mq _) (Fp (IntKind.wrap_u8 _) (Aw (cs := [su (((n_ / 256) % 256) % 256), su ((n_ % 256) % 256)]) rfl (Bt s2 fun i3 H s4 => U9 (s := b) (z := (((n_ / 256) % 256) % 256)) (w := ((n_ % 256) % 256)) s4 Cl (.here) ⟨_, _, rfl, rfl, rfl, rfl⟩ (by omega) fun x5 H lx5 s6 => Al (C3 s6 (.here)) ?_))))))
 rfl
theorem Lg (n : Nat) (hn : 1048576 < n) (b : ByteArray) (s : ByteArray) (hb : b.size ≤ 70368744177664) (hs : s.size ≤ 1048576) : Cb E0 (n + 6) 22 141 [Ae b, .sc (.string s)] = some (Ae (Ah b s)) := by
 rw [At, AjM, f141]
 refine B8 (G := (· = some (Ae (Ah b s)))) ?_
 try simp only [Fa, E9]
 have s0 : Sep [] [] := B4
 refine Aao rfl rfl (Qs _ s (zaA hs (by decide))) (Cv (Ac ((Bv s)) (fun h1 => ?_) fun h1 => ?_))
 refine A6 (nF h1) (AhX (Bo s0 rfl (.cons .ro (.cons .sc .nil)) (Si n (by omega) b (s.size : Int) (by omega)) (Ca (Ai b (s.size : Int))) fun x2 H lx2 s3 => An5 s3 (by omega) fun i4 H s5 => Aw (cs := [x2, .sl i4 0 s.size 1]) (Gh (z' := [x2, .nl]) (Ch lx2) rfl (Cr rfl) rfl (Gh (z' := [x2, .sl i4 0 s.size 1]) (Ch rfl) rfl (Cr rfl) rfl (rfl))) (Bt s5 fun i6 H s7 => Bo s7 rfl (.sl (.here) rfl (.cons (.own (by decide) Fy) (.sl Cl AoV vwB .nil)) .nil) (L9 (n + 1) (by omega) (Ai b (s.size : Int)) s (by (simp only [Aq, An, Az]; omega))) (Ca ((Ai b (s.size : Int)) ++ s)) fun x8 H lx8 s9 => Al (C3 s9 (.here)) ?_)))
 have e : Ah b s = ((Ai b (s.size : Int)) ++ s) := by
  unfold Ah
  simp only [h1, if_true, if_false, zaa]
 rw [e]
 refine Au (nT h1) (Aw (cs := [Ae b]) rfl (Bt s0 fun i10 H s11 => Bo s11 rfl (.sl (.here) rfl (.cons .ro .nil) .nil) (Ko (n + 1) (by omega) b (by omega)) (Ca b) fun x12 H lx12 s13 => Al (C3 s13 (.here)) ?_))
 have e : Ah b s = b := by
  unfold Ah
  simp only [h1, if_true, if_false, zaa]
 rw [e]
theorem Lm (n : Nat) (hn : 1048576 < n) (b : ByteArray) (s : ByteArray) (hb : b.size ≤ 70368744177664) (hs : s.size ≤ 1048576) : Cb E0 (n + 5) 22 93 [Ae b, .sc (.string s)] = some (Ae (Ah b s)) := by
 rw [At, Anv, f93]
 refine B8 (G := (· = some (Ae (Ah b s)))) ?_
 try simp only [Fa, E9]
 have s0 : Sep [] [] := B4
 refine Bm (v := (.bool (Bv s))) s0 rfl (.cons .sc .nil) (N0 n (by omega) _ s) (Cv (Ac ((Bv s)) (fun h1 => ?_) fun h1 => ?_))
 refine A6 (nF h1) (AhX (Bo s0 rfl (.cons .ro (.cons .sc .nil)) (S3 (n + 3) (by omega) b (s.size : Int) (by omega)) (Ca (Ai b (s.size : Int))) fun x2 H lx2 s3 => Aky (s := (Ai b (s.size : Int))) s3 ⟨_, _, rfl, rfl, rfl, rfl⟩ (.here) (by (simp only [Aq, An, Az]; omega)) fun x4 H lx4 s5 => Al (C3 s5 (.here)) ?_))
 have e : Ah b s = ((Ai b (s.size : Int)) ++ s) := by
  unfold Ah
  simp only [h1, if_true, if_false, zaa]
 rw [e]
 refine Au (nT h1) (Js s0 (by omega) fun x6 H lx6 s7 => Al (C3 s7 (.here)) ?_)
 have e : Ah b s = b := by
  unfold Ah
  simp only [h1, if_true, if_false, zaa]
 rw [e]
theorem AdF (n : Nat) (hn : 1048576 < n) (b : ByteArray) (s : ByteArray) (hb : b.size ≤ 70368744177664) (hs : s.size ≤ 1048576) : Cb E0 (n + 6) 22 151 [Ae b, Ae s] = some (Ae (Cq b s)) := by
 rw [At, AjR, f151]
 refine B8 (G := (· = some (Ae (Cq b s)))) ?_
 try simp only [Fa, E9]
 have s0 : Sep [] [] := B4
 refine Dd (D5 (Ac ((decide (60 < ((s.size : Nat) : Int)))) (fun h1 => ?_) fun h1 => ?_))
 refine Au h1 (Aw (cs := [Ae b]) rfl (Bt s0 fun i2 H s3 => Bo s3 rfl (.sl (.here) rfl (.cons .ro .nil) .nil) (Ko (n + 1) (by omega) b (by omega)) (Ca b) fun x4 H lx4 s5 => Al (C3 s5 (.here)) ?_))
 have e : Cq b s = b := by
  unfold Cq
  simp only [h1, if_true, if_false, zaa]
 rw [e]
 refine A6 h1 (Dd (Bo s0 rfl (.cons .ro (.cons .sc .nil)) (Si n (by omega) b ((s.size : Nat) : Int) (by omega)) (Ca (Ai b ((s.size : Nat) : Int))) fun x6 H lx6 s7 => Aw (cs := [x6, Ae s]) (Gh (z' := [x6, .nl]) (Ch lx6) rfl (Cr rfl) rfl (Gh (z' := [x6, Ae s]) (Ch rfl) rfl (Cr rfl) rfl (rfl))) (Bt s7 fun i8 H s9 => Bo s9 rfl (.sl (.here) rfl (.cons (.own (by decide) Cl) (.cons .ro .nil)) .nil) (L9 (n + 1) (by omega) (Ai b ((s.size : Nat) : Int)) s (by (simp only [Aq, An, Az]; omega))) (Ca ((Ai b ((s.size : Nat) : Int)) ++ s)) fun x10 H lx10 s11 => Al (C3 s11 (.here)) ?_)))
 have e : Cq b s = ((Ai b ((s.size : Nat) : Int)) ++ s) := by
  unfold Cq
  simp only [h1, if_true, if_false, zaa]
 rw [e]
theorem Aea (n : Nat) (hn : 1048576 < n) (b : ByteArray) (s : ByteArray) (hb : b.size ≤ 70368744177664) (hs : s.size ≤ 1048576) : Cb E0 (n + 2) 22 96 [Ae b, Ae s] = some (Ae (Cq b s)) := by
 rw [At, Anz, f96]
 refine B8 (G := (· = some (Ae (Cq b s)))) ?_
 try simp only [Fa, E9]
 have s0 : Sep [] [] := B4
 refine Dd (D5 (Ac ((decide (60 < ((s.size : Nat) : Int)))) (fun h1 => ?_) fun h1 => ?_))
 refine Au h1 (Js s0 (by omega) fun x2 H lx2 s3 => Al (C3 s3 (.here)) ?_)
 have e : Cq b s = b := by
  unfold Cq
  simp only [h1, if_true, if_false, zaa]
 rw [e]
 refine A6 h1 (Dd (Bo s0 rfl (.cons .ro (.cons .sc .nil)) (S3 n (by omega) b ((s.size : Nat) : Int) (by omega)) (Ca (Ai b ((s.size : Nat) : Int))) fun x4 H lx4 s5 => Ki (s := (Ai b ((s.size : Nat) : Int))) s5 ⟨_, _, rfl, rfl, rfl, rfl⟩ (.here) O2 (by (simp only [Aq, An, Az]; omega)) fun x6 H lx6 s7 => Al (C3 s7 (.here)) ?_))
 have e : Cq b s = ((Ai b ((s.size : Nat) : Int)) ++ s) := by
  unfold Cq
  simp only [h1, if_true, if_false, zaa]
 rw [e]
theorem Zh {m : Int} (h : Eg m 0 268435455 = true) : 0 ≤ m ∧ m ≤ 268435455 ∧ ¬ 127 < m / 128 / 128 / 128 := by
 simp only [Eg, zag, decide_eq_true_eq] at h
 omega
theorem AkE (n : Nat) (hn : 1048576 < n) (b : ByteArray) (m_ : Int) (hb : b.size ≤ 70368744177664) : Cb E0 (n + 6) 22 112 [Ae b, .sc (.int .i64 m_)] = some (Ae (C0 b m_)) := by
 rw [At, Aj4, f112]
 refine B8 (G := (· = some (Ae (C0 b m_)))) ?_
 try simp only [Fa, E9]
 have s0 : Sep [] [] := B4
 refine Aw (cs := [Ae b]) rfl (Bt s0 fun i1 H s2 => Bo s2 rfl (.sl (.here) rfl (.cons .ro .nil) .nil) (Ko (n + 1) (by omega) b (by omega)) (Ca b) fun x3 H lx3 s4 => Bm (v := (.bool (Eg m_ 0 268435455))) s4 rfl (vS3 .nil) (Lq (n + 4) _ m_ 0 268435455) (Cv (Ac ((Eg m_ 0 268435455)) (fun h5 => ?_) fun h5 => ?_)))
 obtain ⟨hm0, hm1, hq⟩ := Zh h5
 refine A6 (nF h5) ?_
 rw [Mx]
 try simp only [Fa, E9]
 refine D5 (Ac ((decide (127 < m_))) (fun h6 => ?_) fun h6 => ?_)
 refine Au h6 (Q8 (v := .sc (.int .i64 (m_ % 128))) (fun k => by show k (.sc (.int .i64 (Int.tmod (m_) 128))) = _; rw [zaC (by omega)]) (Bq (by omega) (by omega) (Fp (IntKind.wrap_u8 _) (Aw (cs := [.sc (.int .u8 (((m_ % 128) + 128) % 256))]) rfl (Bt s4 fun i7 H s8 => E1 (s := b) (z := (((m_ % 128) + 128) % 256)) s8 Cl (.here) ⟨_, _, rfl, rfl, rfl, rfl⟩ rfl (by omega) fun x9 H lx9 s10 => Pw (by omega) (by omega) (by decide) ?_)))))
 rw [Mx]
 try simp only [Fa, E9]
 refine D5 (Ac ((decide (127 < (m_ / 128)))) (fun h11 => ?_) fun h11 => ?_)
 refine Au h11 (Q8 (v := .sc (.int .i64 ((m_ / 128) % 128))) (fun k => by show k (.sc (.int .i64 (Int.tmod ((m_ / 128)) 128))) = _; rw [zaC (by omega)]) (Bq (by omega) (by omega) (Fp (IntKind.wrap_u8 _) (Aw (cs := [.sc (.int .u8 ((((m_ / 128) % 128) + 128) % 256))]) rfl (Bt s10 fun i12 H s13 => E1 (s := (Ay b (((m_ % 128) + 128) % 256))) (z := ((((m_ / 128) % 128) + 128) % 256)) s13 Cl (.here) ⟨_, _, rfl, rfl, rfl, rfl⟩ rfl (by (simp only [Aq, Az]; omega)) fun x14 H lx14 s15 => Pw (by omega) (by omega) (by decide) ?_)))))
 rw [Mx]
 try simp only [Fa, E9]
 refine D5 (Ac ((decide (127 < ((m_ / 128) / 128)))) (fun h16 => ?_) fun h16 => ?_)
 refine Au h16 (Q8 (v := .sc (.int .i64 (((m_ / 128) / 128) % 128))) (fun k => by show k (.sc (.int .i64 (Int.tmod (((m_ / 128) / 128)) 128))) = _; rw [zaC (by omega)]) (Bq (by omega) (by omega) (Fp (IntKind.wrap_u8 _) (Aw (cs := [.sc (.int .u8 (((((m_ / 128) / 128) % 128) + 128) % 256))]) rfl (Bt s15 fun i17 H s18 => E1 (s := (Ay (Ay b (((m_ % 128) + 128) % 256)) ((((m_ / 128) % 128) + 128) % 256))) (z := (((((m_ / 128) / 128) % 128) + 128) % 256)) s18 Cl (.here) ⟨_, _, rfl, rfl, rfl, rfl⟩ rfl (by (simp only [Aq, Az]; omega)) fun x19 H lx19 s20 => Pw (by omega) (by omega) (by decide) ?_)))))
 rw [Mx]
 try simp only [Fa, E9]
 refine D5 (A6 (decide_eq_false (by omega)) (Fp (IntKind.wrap_u8 _) (Aw (cs := [.sc (.int .u8 ((((m_ / 128) / 128) / 128) % 256))]) rfl (Bt s20 fun i21 H s22 => E1 (s := (Ay (Ay (Ay b (((m_ % 128) + 128) % 256)) ((((m_ / 128) % 128) + 128) % 256)) (((((m_ / 128) / 128) % 128) + 128) % 256))) (z := ((((m_ / 128) / 128) / 128) % 256)) s22 Cl (.here) ⟨_, _, rfl, rfl, rfl, rfl⟩ rfl (by (simp only [Aq, Az]; omega)) fun x23 H lx23 s24 => Al (C3 s24 (.here)) ?_))))
 have e : C0 b m_ = (Ay (Ay (Ay (Ay b (((m_ % 128) + 128) % 256)) ((((m_ / 128) % 128) + 128) % 256)) (((((m_ / 128) / 128) % 128) + 128) % 256)) ((((m_ / 128) / 128) / 128) % 256)) := by
  simp only [Ea] at h5 h6 h11 h16
  unfold C0
  simp only [h5, h6, h11, h16, if_true, if_false, zaa, K5, hq]
 rw [e]
 refine A6 h16 (Fp (IntKind.wrap_u8 _) (Aw (cs := [.sc (.int .u8 (((m_ / 128) / 128) % 256))]) rfl (Bt s15 fun i25 H s26 => E1 (s := (Ay (Ay b (((m_ % 128) + 128) % 256)) ((((m_ / 128) % 128) + 128) % 256))) (z := (((m_ / 128) / 128) % 256)) s26 Cl (.here) ⟨_, _, rfl, rfl, rfl, rfl⟩ rfl (by (simp only [Aq, Az]; omega)) fun x27 H lx27 s28 => Al (C3 s28 (.here)) ?_)))
 have e : C0 b m_ = (Ay (Ay (Ay b (((m_ % 128) + 128) % 256)) ((((m_ / 128) % 128) + 128) % 256)) (((m_ / 128) / 128) % 256)) := by
  simp only [Ea] at h5 h6 h11 h16
  unfold C0
  simp only [h5, h6, h11, h16, if_true, if_false, zaa, K5, hq]
 rw [e]
 refine A6 h11 (Fp (IntKind.wrap_u8 _) (Aw (cs := [.sc (.int .u8 ((m_ / 128) % 256))]) rfl (Bt s10 fun i29 H s30 => E1 (s := (Ay b (((m_ % 128) + 128) % 256))) (z := ((m_ / 128) % 256)) s30 Cl (.here) ⟨_, _, rfl, rfl, rfl, rfl⟩ rfl (by (simp only [Aq, Az]; omega)) fun x31 H lx31 s32 => Al (C3 s32 (.here)) ?_)))
 have e : C0 b m_ = (Ay (Ay b (((m_ % 128) + 128) % 256)) ((m_ / 128) % 256)) := by
  simp only [Ea] at h5 h6 h11
  unfold C0
  simp only [h5, h6, h11, if_true, if_false, zaa, K5, hq]
 rw [e]
 refine A6 h6 (Fp (IntKind.wrap_u8 _) (Aw (cs := [su (m_ % 256)]) rfl (Bt s4 fun i33 H s34 => E1 (s := b) (z := (m_ % 256)) s34 Cl (.here) ⟨_, _, rfl, rfl, rfl, rfl⟩ rfl (by omega) fun x35 H lx35 s36 => Al (C3 s36 (.here)) ?_)))
 have e : C0 b m_ = (Ay b (m_ % 256)) := by
  simp only [Ea] at h5 h6
  unfold C0
  simp only [h5, h6, if_true, if_false, zaa, K5, hq]
 rw [e]
 refine Au (nT h5) (Al (C3 s4 (.here)) ?_)
 have e : C0 b m_ = b := by
  unfold C0
  simp only [h5, if_true, if_false, zaa, K5]
 rw [e]
theorem Alo (n : Nat) (hn : 1048576 < n) (b : ByteArray) (m_ : Int) (hb : b.size ≤ 70368744177664) : Cb E0 (n + 6) 22 97 [Ae b, .sc (.int .i64 m_)] = some (Ae (C0 b m_)) := by
 rw [At, An0, f97]
 refine B8 (G := (· = some (Ae (C0 b m_)))) ?_
 try simp only [Fa, E9]
 have s0 : Sep [] [] := B4
 refine Js s0 (by omega) fun x1 H lx1 s2 => Bm (v := (.bool (Eg m_ 0 268435455))) s2 rfl (vS3 .nil) (Sm (n + 4) _ m_ 0 268435455) (Cv (Ac ((Eg m_ 0 268435455)) (fun h3 => ?_) fun h3 => ?_))
 obtain ⟨hm0, hm1, hq⟩ := Zh h3
 refine A6 (nF h3) ?_
 rw [Pt]
 try simp only [Fa, E9]
 refine D5 (Ac ((decide (127 < m_))) (fun h4 => ?_) fun h4 => ?_)
 refine Au h4 (Q8 (v := .sc (.int .i64 (m_ % 128))) (fun k => by show k (.sc (.int .i64 (Int.tmod (m_) 128))) = _; rw [zaC (by omega)]) (Bq (by omega) (by omega) (Fp (IntKind.wrap_u8 _) (Aw (cs := [.sc (.int .u8 ((128 + (m_ % 128)) % 256))]) rfl (Bt s2 fun i5 H s6 => E1 (s := b) (z := ((128 + (m_ % 128)) % 256)) s6 Cl (.here) ⟨_, _, rfl, rfl, rfl, rfl⟩ rfl (by omega) fun x7 H lx7 s8 => Pw (by omega) (by omega) (by decide) ?_)))))
 rw [Pt]
 try simp only [Fa, E9]
 refine D5 (Ac ((decide (127 < (m_ / 128)))) (fun h9 => ?_) fun h9 => ?_)
 refine Au h9 (Q8 (v := .sc (.int .i64 ((m_ / 128) % 128))) (fun k => by show k (.sc (.int .i64 (Int.tmod ((m_ / 128)) 128))) = _; rw [zaC (by omega)]) (Bq (by omega) (by omega) (Fp (IntKind.wrap_u8 _) (Aw (cs := [.sc (.int .u8 ((128 + ((m_ / 128) % 128)) % 256))]) rfl (Bt s8 fun i10 H s11 => E1 (s := (Ay b ((128 + (m_ % 128)) % 256))) (z := ((128 + ((m_ / 128) % 128)) % 256)) s11 Cl (.here) ⟨_, _, rfl, rfl, rfl, rfl⟩ rfl (by (simp only [Aq, Az]; omega)) fun x12 H lx12 s13 => Pw (by omega) (by omega) (by decide) ?_)))))
 rw [Pt]
 try simp only [Fa, E9]
 refine D5 (Ac ((decide (127 < ((m_ / 128) / 128)))) (fun h14 => ?_) fun h14 => ?_)
 refine Au h14 (Q8 (v := .sc (.int .i64 (((m_ / 128) / 128) % 128))) (fun k => by show k (.sc (.int .i64 (Int.tmod (((m_ / 128) / 128)) 128))) = _; rw [zaC (by omega)]) (Bq (by omega) (by omega) (Fp (IntKind.wrap_u8 _) (Aw (cs := [.sc (.int .u8 ((128 + (((m_ / 128) / 128) % 128)) % 256))]) rfl (Bt s13 fun i15 H s16 => E1 (s := (Ay (Ay b ((128 + (m_ % 128)) % 256)) ((128 + ((m_ / 128) % 128)) % 256))) (z := ((128 + (((m_ / 128) / 128) % 128)) % 256)) s16 Cl (.here) ⟨_, _, rfl, rfl, rfl, rfl⟩ rfl (by (simp only [Aq, Az]; omega)) fun x17 H lx17 s18 => Pw (by omega) (by omega) (by decide) ?_)))))
 rw [Pt]
 try simp only [Fa, E9]
 refine D5 (A6 (decide_eq_false (by omega)) (Fp (IntKind.wrap_u8 _) (Aw (cs := [.sc (.int .u8 ((((m_ / 128) / 128) / 128) % 256))]) rfl (Bt s18 fun i19 H s20 => E1 (s := (Ay (Ay (Ay b ((128 + (m_ % 128)) % 256)) ((128 + ((m_ / 128) % 128)) % 256)) ((128 + (((m_ / 128) / 128) % 128)) % 256))) (z := ((((m_ / 128) / 128) / 128) % 256)) s20 Cl (.here) ⟨_, _, rfl, rfl, rfl, rfl⟩ rfl (by (simp only [Aq, Az]; omega)) fun x21 H lx21 s22 => Al (C3 s22 (.here)) ?_))))
 have e : C0 b m_ = (Ay (Ay (Ay (Ay b ((128 + (m_ % 128)) % 256)) ((128 + ((m_ / 128) % 128)) % 256)) ((128 + (((m_ / 128) / 128) % 128)) % 256)) ((((m_ / 128) / 128) / 128) % 256)) := by
  simp only [Ea] at h3 h4 h9 h14
  unfold C0
  simp only [h3, h4, h9, h14, if_true, if_false, zaa, K5, hq]
  try simp only [zbU]
 rw [e]
 refine A6 h14 (Fp (IntKind.wrap_u8 _) (Aw (cs := [.sc (.int .u8 (((m_ / 128) / 128) % 256))]) rfl (Bt s13 fun i23 H s24 => E1 (s := (Ay (Ay b ((128 + (m_ % 128)) % 256)) ((128 + ((m_ / 128) % 128)) % 256))) (z := (((m_ / 128) / 128) % 256)) s24 Cl (.here) ⟨_, _, rfl, rfl, rfl, rfl⟩ rfl (by (simp only [Aq, Az]; omega)) fun x25 H lx25 s26 => Al (C3 s26 (.here)) ?_)))
 have e : C0 b m_ = (Ay (Ay (Ay b ((128 + (m_ % 128)) % 256)) ((128 + ((m_ / 128) % 128)) % 256)) (((m_ / 128) / 128) % 256)) := by
  simp only [Ea] at h3 h4 h9 h14
  unfold C0
  simp only [h3, h4, h9, h14, if_true, if_false, zaa, K5, hq]
  try simp only [zbU]
 rw [e]
 refine A6 h9 (Fp (IntKind.wrap_u8 _) (Aw (cs := [.sc (.int .u8 ((m_ / 128) % 256))]) rfl (Bt s8 fun i27 H s28 => E1 (s := (Ay b ((128 + (m_ % 128)) % 256))) (z := ((m_ / 128) % 256)) s28 Cl (.here) ⟨_, _, rfl, rfl, rfl, rfl⟩ rfl (by (simp only [Aq, Az]; omega)) fun x29 H lx29 s30 => Al (C3 s30 (.here)) ?_)))
 have e : C0 b m_ = (Ay (Ay b ((128 + (m_ % 128)) % 256)) ((m_ / 128) % 256)) := by
  simp only [Ea] at h3 h4 h9
  unfold C0
  simp only [h3, h4, h9, if_true, if_false, zaa, K5, hq]
  try simp only [zbU]
 rw [e]
 refine A6 h4 (Fp (IntKind.wrap_u8 _) (Aw (cs := [su (m_ % 256)]) rfl (Bt s2 fun i31 H s32 => E1 (s := b) (z := (m_ % 256)) s32 Cl (.here) ⟨_, _, rfl, rfl, rfl, rfl⟩ rfl (by omega) fun x33 H lx33 s34 => Al (C3 s34 (.here)) ?_)))
 have e : C0 b m_ = (Ay b (m_ % 256)) := by
  simp only [Ea] at h3 h4
  unfold C0
  simp only [h3, h4, if_true, if_false, zaa, K5, hq]
  try simp only [zbU]
 rw [e]
 refine Au (nT h3) (Al (C3 s2 (.here)) ?_)
 have e : C0 b m_ = b := by
  unfold C0
  simp only [h3, if_true, if_false, zaa, K5]
  try simp only [zbU]
 rw [e]
end
section
open Go
theorem Gz (b : Bool) (n : Int) (h : 0 ≤ n) : 0 ≤ A0 b n ∧ A0 b n ≤ n := by
 unfold A0
 split <;> omega
theorem AaN (n : Nat) (b : Bool) (i : Int) : Cb E0 (n + 1) 3 140 [.sc (.bool b), .sc (.int .i64 i)] = some (.sc (.int .i64 (A0 b i))) := by
 rw [At, AjL, f140]
 refine B8 (G := (· = some (si (A0 b i)))) ?_
 try simp only [Fa, E9]
 have s0 : Sep [] [] := B4
 refine Ac (b) (fun h1 => ?_) fun h1 => ?_
 refine Au h1 (Al rfl ?_)
 have e : A0 b i = i := by
  simp only [A0, h1, if_true, if_false, zaa]
 rw [e]
 refine A6 h1 (Al rfl ?_)
 have e : A0 b i = 0 := by
  simp only [A0, h1, if_true, if_false, zaa]
 rw [e]
theorem Uf (n : Nat) (b : Bool) (i : Int) : Cb E0 (n + 1) 3 94 [.sc (.bool b), .sc (.int .i64 i)] = some (.sc (.int .i64 (A0 b i))) := by
 rw [At, Anw, f94]
 refine B8 (G := (· = some (si (A0 b i)))) ?_
 try simp only [Fa, E9]
 have s0 : Sep [] [] := B4
 refine Ac (b) (fun h1 => ?_) fun h1 => ?_
 refine Au h1 (Al rfl ?_)
 have e : A0 b i = i := by
  simp only [A0, h1, if_true, if_false, zaa]
 rw [e]
 refine A6 h1 (Al rfl ?_)
 have e : A0 b i = 0 := by
  simp only [A0, h1, if_true, if_false, zaa]
 rw [e]
theorem Acg (n : Nat) (hn : 1048576 < n) (p : PacketV) (hp : H5 p) (hb1 : p.fWBody.size ≤ 1048576) (hb2 : p.fPass.size ≤ 1048576) (hq : 0 ≤ p.fWQos ∧ p.fWQos ≤ 2) : Cb E0 (n + 7) 22 139 [.agg (Ag p)] = some (Ae (Ep p)) := by
 rw [At, AjK, f139]
 refine B8 (G := (· = some (Ae (Ep p)))) ?_
 try simp only [Fa, E9]
 have s0 : Sep [] [] := B4
 refine Ka s0 (Ez (Dg _)) fun i1 H s2 => gf9 (Bd (c := sb p.fClean) s2 (.here) rfl (Abl (Bd (c := sb p.fHasWill) s2 (.here) rfl (Ak4 (Bd (c := si p.fWQos) s2 (.here) rfl (Sd (by omega) (by omega) (Ak5 (Bd (c := sb p.fWRetain) s2 (.here) rfl (Se (Bd (c := sb p.fHasPass) s2 (.here) rfl (Yu (Bd (c := sb p.fHasUser) s2 (.here) rfl ?_))))))))))))
 have q3 := Gz p.fClean 2 (by decide)
 refine Bm (v := (.int .i64 (A0 p.fClean 2))) s2 rfl (S8 .nil) (AaN (n + 5) p.fClean 2) ?_
 have q4 := Gz p.fHasWill 4 (by decide)
 refine Bm (v := (.int .i64 (A0 p.fHasWill 4))) s2 rfl (S8 .nil) (AaN (n + 5) p.fHasWill 4) (Bq (by omega) (by omega) (Bq (by omega) (by omega) ?_))
 have q5 := Gz p.fWRetain 32 (by decide)
 refine Bm (v := (.int .i64 (A0 p.fWRetain 32))) s2 rfl (S8 .nil) (AaN (n + 5) p.fWRetain 32) (Bq (by omega) (by omega) ?_)
 have q6 := Gz p.fHasPass 64 (by decide)
 refine Bm (v := (.int .i64 (A0 p.fHasPass 64))) s2 rfl (S8 .nil) (AaN (n + 5) p.fHasPass 64) (Bq (by omega) (by omega) ?_)
 have q7 := Gz p.fHasUser 128 (by decide)
 refine Bm (v := (.int .i64 (A0 p.fHasUser 128))) s2 rfl (S8 .nil) (AaN (n + 5) p.fHasUser 128) (Bq (by omega) (by omega) (gf8 (Bd (c := si p.fLevel) s2 (.here) rfl (Fp (IntKind.wrap_u8 _) (Fp (IntKind.wrap_u8 _) (Oq (P := fun j => ∀ (x8 : AV) (z8t4 : ByteArray) (H : Ab), A2 x8 = true → (z8t4.size ≤ 100) → Sep H [.own x8 22 (Ae z8t4), .blk i1 (Ag p) true] → Gd (· = some (Ae (Ct p (Dk p (Eo p (Ah (Ai z8t4 p.fKeep) p.fClient)))))) (j (.ptr i1 0) x8 H)) ?_ fun j8 hj8 => ?_))))))
 intro x8 z8t4 H lx8 hz80 s9
 refine Ak1 (Bd (c := si p.fKeep) s9 Cl rfl (gf7 (Bd (c := ss p.fClient) s9 Cl rfl (Bo s9 rfl (.cons (.own (by decide) (.here)) (.cons .sc .nil)) (Si (n + 1) (by omega) z8t4 p.fKeep (by omega)) (Ca (Ai z8t4 p.fKeep)) fun x10 H lx10 s11 => ?_))))
 have z12 := Cc (Ai z8t4 p.fKeep) p.fClient
 simp only [Aq, An, Az, zah] at z12
 refine Bo s11 rfl (.cons (.own (by decide) (.here)) (.cons .sc .nil)) (Lg n (by omega) (Ai z8t4 p.fKeep) p.fClient (by (simp only [Aq, An, Az, zah]; omega)) hp.t2) (Ca (Ah (Ai z8t4 p.fKeep) p.fClient)) fun x13 H lx13 s14 => Abl (Bd (c := .sc (.bool p.fHasWill)) s14 Ls rfl (Oq (P := fun j => ∀ (x15 : AV) (z15t4 : ByteArray) (H : Ab), A2 x15 = true → (z15t4.size ≤ 400) → Sep H [.own x15 22 (Ae z15t4), .blk i1 (Ag p) true] → Gd (· = some (Ae (Ct p (Dk p z15t4)))) (j (.ptr i1 0) x15 H)) ?_ fun j15 hj15 => ?_))
 intro x15 z15t4 H lx15 hz150 s16
 refine Yu (Bd (c := sb p.fHasUser) s16 Cl rfl (Oq (P := fun j => ∀ (x17 : AV) (z17t4 : ByteArray) (H : Ab), A2 x17 = true → (z17t4.size ≤ 600) → Sep H [.own x17 22 (Ae z17t4), .blk i1 (Ag p) true] → Gd (· = some (Ae (Ct p z17t4))) (j (.ptr i1 0) x17 H)) ?_ fun j17 hj17 => ?_))
 intro x17 z17t4 H lx17 hz170 s18
 refine Se (Bd (c := sb p.fHasPass) s18 Cl rfl (D1 (Ac (p.fHasPass) (fun h19 => ?_) fun h19 => ?_)))
 refine Au h19 (Yv (Bd (c := Ae p.fPass) s18 Cl rfl ?_))
 have z20 := Io z17t4 p.fPass
 refine Bo s18 rfl (.cons (.own (by decide) (.here)) (.cons .ro .nil)) (AdF n (by omega) z17t4 p.fPass (by omega) hb2) (Ca (Cq z17t4 p.fPass)) fun x21 H lx21 s22 => Al (C3 s22 (.here)) ?_
 have e : Ct p z17t4 = (Cq z17t4 p.fPass) := by
  simp only [Ep, Gt, Eo, Dk, Ct, Dv, h19, if_true, if_false, zaa]
 rw [e]
 refine A6 h19 (Al (C3 s18 (.here)) ?_)
 have e : Ct p z17t4 = z17t4 := by
  simp only [Ep, Gt, Eo, Dk, Ct, Dv, h19, if_true, if_false, zaa]
 rw [e]
 refine Ac (p.fHasUser) (fun h23 => ?_) fun h23 => ?_
 refine Au h23 (Afz (Bd (c := ss p.fUser) s16 Cl rfl ?_))
 have z24 := Cc z15t4 p.fUser
 refine Bo s16 rfl (.cons (.own (by decide) (.here)) (.cons .sc .nil)) (Lg n (by omega) z15t4 p.fUser (by omega) hp.t4) (Ca (Ah z15t4 p.fUser)) fun x25 H lx25 s26 => ?_
 have e27 : Ct p (Dk p z15t4) = Ct p (Ah z15t4 p.fUser) := by
  simp only [Ep, Gt, Eo, Dk, Ct, Dv, h23, if_true, if_false, zaa]
 rw [e27]
 exact hj17 x25 (Ah z15t4 p.fUser)  _ lx25 (by omega) (s26.sel (.cons (.here) (.cons Cl .nil)))
 refine A6 h23 ?_
 have e28 : Ct p (Dk p z15t4) = Ct p z15t4 := by
  simp only [Ep, Gt, Eo, Dk, Ct, Dv, h23, if_true, if_false, zaa]
 rw [e28]
 exact hj17 x15 z15t4  _ lx15 (by omega) (s16.sel (.cons (.here) (.cons (.here) .nil)))
 refine Ac (p.fHasWill) (fun h29 => ?_) fun h29 => ?_
 refine Au h29 (Ak2 (Bd (c := ss p.fWTopic) s14 Ls rfl (Ak3 (Bd (c := Ae p.fWBody) s14 Ls rfl ?_))))
 have z30 := Cc (Ah (Ai z8t4 p.fKeep) p.fClient) p.fWTopic
 refine Bo s14 rfl (.cons (.own (by decide) (.here)) (.cons .sc .nil)) (Lg n (by omega) (Ah (Ai z8t4 p.fKeep) p.fClient) p.fWTopic (by omega) hp.t3) (Ca (Ah (Ah (Ai z8t4 p.fKeep) p.fClient) p.fWTopic)) fun x31 H lx31 s32 => ?_
 have z33 := Io (Ah (Ah (Ai z8t4 p.fKeep) p.fClient) p.fWTopic) p.fWBody
 refine Bo s32 rfl (.cons (.own (by decide) (.here)) (.cons .ro .nil)) (AdF n (by omega) (Ah (Ah (Ai z8t4 p.fKeep) p.fClient) p.fWTopic) p.fWBody (by omega) hb1) (Ca (Cq (Ah (Ah (Ai z8t4 p.fKeep) p.fClient) p.fWTopic) p.fWBody)) fun x34 H lx34 s35 => ?_
 have e36 : Ct p (Dk p (Eo p (Ah (Ai z8t4 p.fKeep) p.fClient))) = Ct p (Dk p (Cq (Ah (Ah (Ai z8t4 p.fKeep) p.fClient) p.fWTopic) p.fWBody)) := by
  simp only [Ep, Gt, Eo, Dk, Ct, Dv, h29, if_true, if_false, zaa]
 rw [e36]
 exact hj15 x34 (Cq (Ah (Ah (Ai z8t4 p.fKeep) p.fClient) p.fWTopic) p.fWBody)  _ lx34 (by omega) (s35.sel (.cons (.here) (.cons Mm .nil)))
 refine A6 h29 ?_
 have e37 : Ct p (Dk p (Eo p (Ah (Ai z8t4 p.fKeep) p.fClient))) = Ct p (Dk p (Ah (Ai z8t4 p.fKeep) p.fClient)) := by
  simp only [Ep, Gt, Eo, Dk, Ct, Dv, h29, if_true, if_false, zaa]
 rw [e37]
 exact hj15 x13 (Ah (Ai z8t4 p.fKeep) p.fClient)  _ lx13 (by omega) (s14.sel (.cons (.here) (.cons Fy .nil)))
 refine Gd.bothE ?_ ?_
 have z38 := Cc bs0 mqtt
 simp only [Aq, An, Az, zah] at z38
 refine Bo s2 rfl (.cons .nl (.cons .sc .nil)) (Lg n (by omega) bs0 mqtt (by (simp only [Aq, An, Az, zah]; omega)) (by decide)) (Ca (Ah bs0 mqtt)) fun x39 H lx39 s40 => Aw (cs := [.sc (.int .u8 (p.fLevel % 256)), .sc (.int .u8 (((((((A0 p.fClean 2) + (A0 p.fHasWill 4)) + (8 * p.fWQos)) + (A0 p.fWRetain 32)) + (A0 p.fHasPass 64)) + (A0 p.fHasUser 128)) % 256))]) rfl (Bt s40 fun i41 H s42 => U9 (s := (Ah bs0 mqtt)) (z := (p.fLevel % 256)) (w := (((((((A0 p.fClean 2) + (A0 p.fHasWill 4)) + (8 * p.fWQos)) + (A0 p.fWRetain 32)) + (A0 p.fHasPass 64)) + (A0 p.fHasUser 128)) % 256)) s42 Cl (.here) ⟨_, _, rfl, rfl, rfl, rfl⟩ (by omega) fun x43 H lx43 s44 => ?_)
 have e45 : Ep p = Ct p (Dk p (Eo p (Ah (Ai (Ay (Ay (Ah bs0 mqtt) (p.fLevel % 256)) (((((((A0 p.fClean 2) + (A0 p.fHasWill 4)) + (8 * p.fWQos)) + (A0 p.fWRetain 32)) + (A0 p.fHasPass 64)) + (A0 p.fHasUser 128)) % 256)) p.fKeep) p.fClient))) := by
  rfl
 rw [e45]
 exact hj8 x43 (Ay (Ay (Ah bs0 mqtt) (p.fLevel % 256)) (((((((A0 p.fClean 2) + (A0 p.fHasWill 4)) + (8 * p.fWQos)) + (A0 p.fWRetain 32)) + (A0 p.fHasPass 64)) + (A0 p.fHasUser 128)) % 256))  _ lx43 (by (simp only [Aq, An, Az, zah]; omega)) (s44.sel (.cons (.here) (.cons (.here) .nil)))
 refine Aw (cs := [su (p.fLevel % 256), .sc (.int .u8 (((((((A0 p.fClean 2) + (A0 p.fHasWill 4)) + (8 * p.fWQos)) + (A0 p.fWRetain 32)) + (A0 p.fHasPass 64)) + (A0 p.fHasUser 128)) % 256))]) rfl (Bt s2 fun i46 H s47 => ?_)
 have z48 := Cc bs0 mqtt
 simp only [Aq, An, Az, zah] at z48
 refine Bo s47 rfl (.cons .nl (.cons .sc .nil)) (Lg n (by omega) bs0 mqtt (by (simp only [Aq, An, Az, zah]; omega)) (by decide)) (Ca (Ah bs0 mqtt)) fun x49 H lx49 s50 => U9 (s := (Ah bs0 mqtt)) (z := (p.fLevel % 256)) (w := (((((((A0 p.fClean 2) + (A0 p.fHasWill 4)) + (8 * p.fWQos)) + (A0 p.fWRetain 32)) + (A0 p.fHasPass 64)) + (A0 p.fHasUser 128)) % 256)) s50 (.here) (.here) ⟨_, _, rfl, rfl, rfl, rfl⟩ (by omega) fun x51 H lx51 s52 => ?_
 have e53 : Ep p = Ct p (Dk p (Eo p (Ah (Ai (Ay (Ay (Ah bs0 mqtt) (p.fLevel % 256)) (((((((A0 p.fClean 2) + (A0 p.fHasWill 4)) + (8 * p.fWQos)) + (A0 p.fWRetain 32)) + (A0 p.fHasPass 64)) + (A0 p.fHasUser 128)) % 256)) p.fKeep) p.fClient))) := by
  rfl
 rw [e53]
 exact hj8 x51 (Ay (Ay (Ah bs0 mqtt) (p.fLevel % 256)) (((((((A0 p.fClean 2) + (A0 p.fHasWill 4)) + (8 * p.fWQos)) + (A0 p.fWRetain 32)) + (A0 p.fHasPass 64)) + (A0 p.fHasUser 128)) % 256))  _ lx51 (by (simp only [Aq, An, Az, zah]; omega)) (s52.sel (.cons (.here) (.cons (.here) .nil)))
theorem AcA (n : Nat) (hn : 1048576 < n) (p : PacketV) (ht : 1 ≤ p.fType ∧ p.fType ≤ 14) (hq : 0 ≤ p.fQos ∧ p.fQos ≤ 2) : Cb E0 (n + 3) 3 113 [.agg (Ag p)] = some (.sc (.int .i64 (Ci p))) := by
 rw [At, Aj5, f113]
 refine B8 (G := (· = some (si (Ci p)))) ?_
 try simp only [Fa, E9]
 have s0 : Sep [] [] := B4
 refine Ka s0 (Ez (Dg _)) fun i1 H s2 => Q9 (Bd (c := si p.fType) s2 (.here) rfl (Sd (by omega) (by omega) (Q9 (Bd (c := si p.fType) s2 (.here) rfl (Ce (Ac ((decide (p.fType = 3))) (fun h3 => ?_) fun h3 => ?_))))))
 refine Au h3 (gf1 (Bd (c := sb p.fDup) s2 (.here) rfl (Wy (Bd (c := si p.fQos) s2 (.here) rfl (Sd (by omega) (by omega) (gf3 (Bd (c := sb p.fRetain) s2 (.here) rfl ?_)))))))
 have q4 := Gz p.fDup 8 (by decide)
 refine Bm (v := (.int .i64 (A0 p.fDup 8))) s2 rfl (S8 .nil) (AaN (n + 1) p.fDup 8) (Bq (by omega) (by omega) ?_)
 have q5 := Gz p.fRetain 1 (by decide)
 refine Bm (v := (.int .i64 (A0 p.fRetain 1))) s2 rfl (S8 .nil) (AaN (n + 1) p.fRetain 1) (Bq (by omega) (by omega) (Bq (by omega) (by omega) (Al rfl ?_)))
 have e : Ci p = ((16 * p.fType) + (((A0 p.fDup 8) + (2 * p.fQos)) + (A0 p.fRetain 1))) := by
  clear s0 s2
  simp only [Ea] at h3
  unfold Ci; (repeat' split) <;> omega
 rw [e]
 refine A6 h3 (Ce (D1 (Ac ((decide (p.fType = 6))) (fun h6 => ?_) fun h6 => ?_)))
 refine Au h6 (Au h6 (Bq (by omega) (by omega) (Al rfl ?_)))
 have e : Ci p = ((16 * p.fType) + 2) := by
  clear s0 s2
  simp only [Ea] at h3 h6
  unfold Ci; (repeat' split) <;> omega
 rw [e]
 refine A6 h6 (Ce (Ac ((decide (p.fType = 8))) (fun h7 => ?_) fun h7 => ?_))
 refine Au h7 (Au h7 (Bq (by omega) (by omega) (Al rfl ?_)))
 have e : Ci p = ((16 * p.fType) + 2) := by
  clear s0 s2
  simp only [Ea] at h3 h6 h7
  unfold Ci; (repeat' split) <;> omega
 rw [e]
 refine A6 h7 (Ce (Ac ((decide (p.fType = 10))) (fun h8 => ?_) fun h8 => ?_))
 refine Au h8 (Bq (by omega) (by omega) (Al rfl ?_))
 have e : Ci p = ((16 * p.fType) + 2) := by
  clear s0 s2
  simp only [Ea] at h3 h6 h7 h8
  unfold Ci; (repeat' split) <;> omega
 rw [e]
 refine A6 h8 (Al rfl ?_)
 have e : Ci p = (16 * p.fType) := by
  clear s0 s2
  simp only [Ea] at h3 h6 h7 h8
  unfold Ci; (repeat' split) <;> omega
 rw [e]
theorem Wx (n : Nat) (hn : 1048576 < n) (p : PacketV) (hp : H5 p) (hb1 : p.fWBody.size ≤ 1048576) (hb2 : p.fPass.size ≤ 1048576) (hb3 : p.fBody.size ≤ 1048576) (hq : 0 ≤ p.fWQos ∧ p.fWQos ≤ 2) (h3 : (decide (p.fType = 1)) = false) (h6 : (decide (p.fType = 2)) = false) (h11 : (decide (p.fType = 3)) = false) (h26 : (decide (p.fType = 12)) = false) (h28 : (decide (p.fType = 13)) = false) (h30 : (decide (p.fType = 14)) = false)  : ∀ (t pre : List ByteArray) (m : Nat) (i : Int) (a0 : AV) (H : Ab), p.fNames = pre ++ t → i = ((pre.length : Nat) : Int) → t.length < m → A2 a0 = true → Sep H [.own a0 22 (Ae (E5 (Da (Bc (Ai bs0 p.fId) p.fWants) p.fCodes) pre))] → Gd (· = some (Ae (B7 p))) (Of (PR (n + 7) AV) (n + 7) (fun x H => A4 Ak E0.tp 22 H x) m (a0) (Et p.fNames) (.sc (.int .i64 ((p.fNames.length : Nat) : Int))) (.sc (.int .i64 i)) H)
 | [], pre, m + 1, i, a0, H, he, hi, hm, la0, s0 => by
  obtain rfl : pre = p.fNames := by simpa using he.symm
  have hl1 := hp.l1
  have hl2 := hp.l2
  have hl3 := hp.l3
  have zl1 := Ei p.fWants (Ai bs0 p.fId)
  have zl2 := Eh p.fCodes (Bc (Ai bs0 p.fId) p.fWants)
  have zl0 := L4 p.fNames (Da (Bc (Ai bs0 p.fId) p.fWants) p.fCodes)
  simp only [An, Az] at zl1
  rw [Of]
  try simp only [Fa, E9]
  refine Dq (A6 (by simp [hi]) (Al (C3 s0 (.here)) ?_))
  have e : B7 p = (E5 (Da (Bc (Ai bs0 p.fId) p.fWants) p.fCodes) p.fNames) := by
   simp only [Ea] at h3 h6 h11 h26 h28 h30
   (simp only [B7, Hs, Gf, h3, h6, h11, h26, h28, h30, if_true, if_false, zaa]; rfl)
  rw [e]
 | y :: t, pre, m + 1, i, a0, H, he, hi, hm, la0, s0 => by
  have hlt : pre.length < p.fNames.length := by rw [he]; simp
  have hl1 := hp.l1
  have hl2 := hp.l2
  have hl3 := hp.l3
  have zl1 := Ei p.fWants (Ai bs0 p.fId)
  have zl2 := Eh p.fCodes (Bc (Ai bs0 p.fId) p.fWants)
  have zl0 := L4 pre (Da (Bc (Ai bs0 p.fId) p.fWants) p.fCodes)
  simp only [An, Az] at zl1
  rw [Of]
  try simp only [Fa, E9]
  refine Dq (Au (by simp [hi]; omega) (Q4 hi he (Fq (c := .sc (.string y)) rfl ?_)))
  have z201 := Cc (E5 (Da (Bc (Ai bs0 p.fId) p.fWants) p.fCodes) pre) y
  refine Bo s0 rfl (.cons (.own (by decide) (.here)) (.cons .sc .nil)) (Lg (n + 1) (by omega) (E5 (Da (Bc (Ai bs0 p.fId) p.fWants) p.fCodes) pre) y (by omega) (hp.w2 y (by rw [he]; simp))) (Ca (Ah (E5 (Da (Bc (Ai bs0 p.fId) p.fWants) p.fCodes) pre) y)) fun x202 H lx202 s203 => Bq (by omega) (by omega) ?_
  have e204 : (E5 (Da (Bc (Ai bs0 p.fId) p.fWants) p.fCodes) (pre ++ [y])) = (Ah (E5 (Da (Bc (Ai bs0 p.fId) p.fWants) p.fCodes) pre) y) := by
   try simp only [bne_iff_ne, beq_iff_eq, beq_eq_false_iff_ne, Ea] at h3 h6 h11 h26 h28 h30
   simp only [E5, zbp, zbj, zb5, h3, h6, h11, h26, h28, h30, if_true, if_false, zaa]
  exact Wx n hn p hp hb1 hb2 hb3 hq h3 h6 h11 h26 h28 h30  t (pre ++ [y]) m _ x202 _ (by rw [he]; simp) (by rw [hi]; simp) (by simpa using hm) lx202 (by rw [e204]; exact (s203.sel (.cons (.here) .nil)))
theorem Ww (n : Nat) (hn : 1048576 < n) (p : PacketV) (hp : H5 p) (hb1 : p.fWBody.size ≤ 1048576) (hb2 : p.fPass.size ≤ 1048576) (hb3 : p.fBody.size ≤ 1048576) (hq : 0 ≤ p.fWQos ∧ p.fWQos ≤ 2) (h3 : (decide (p.fType = 1)) = false) (h6 : (decide (p.fType = 2)) = false) (h11 : (decide (p.fType = 3)) = false) (h26 : (decide (p.fType = 12)) = false) (h28 : (decide (p.fType = 13)) = false) (h30 : (decide (p.fType = 14)) = false)  : ∀ (t pre : List Int) (m : Nat) (i : Int) (i1 : Nat) (a1 : AV) (H : Ab), p.fCodes = pre ++ t → i = ((pre.length : Nat) : Int) → t.length < m → A2 a1 = true → Sep H [.own a1 22 (Ae (Da (Bc (Ai bs0 p.fId) p.fWants) pre)), .blk i1 (Ag p) true] → Gd (· = some (Ae (B7 p))) (Ld (PR (n + 7) AV) (n + 7) (fun x H => A4 Ak E0.tp 22 H x) m (.ptr i1 0) (a1) (Ey p.fCodes) (.sc (.int .i64 ((p.fCodes.length : Nat) : Int))) (.sc (.int .i64 i)) H)
 | [], pre, m + 1, i, i1, a1, H, he, hi, hm, la1, s0 => by
  obtain rfl : pre = p.fCodes := by simpa using he.symm
  have hl1 := hp.l1
  have hl2 := hp.l2
  have hl3 := hp.l3
  have zl1 := Ei p.fWants (Ai bs0 p.fId)
  have zl2 := Eh p.fCodes (Bc (Ai bs0 p.fId) p.fWants)
  have zl0 := Eh p.fCodes (Bc (Ai bs0 p.fId) p.fWants)
  simp only [An, Az] at zl1
  rw [Ld]
  try simp only [Fa, E9]
  refine Dq (A6 (by simp [hi]) (Pz (Bd (c := Et p.fNames) s0 Cl rfl (Dd ?_))))
  have s201 : Sep _ [.own a1 22 (Ae (E5 (Da (Bc (Ai bs0 p.fId) p.fWants) p.fCodes) []))] := s0.sel (.cons (.here) .nil)
  exact Wx n hn p hp hb1 hb2 hb3 hq h3 h6 h11 h26 h28 h30  p.fNames [] _ 0 a1 _ rfl rfl (by omega) la1 s201
 | y :: t, pre, m + 1, i, i1, a1, H, he, hi, hm, la1, s0 => by
  have hlt : pre.length < p.fCodes.length := by rw [he]; simp
  have hl1 := hp.l1
  have hl2 := hp.l2
  have hl3 := hp.l3
  have zl1 := Ei p.fWants (Ai bs0 p.fId)
  have zl2 := Eh p.fCodes (Bc (Ai bs0 p.fId) p.fWants)
  have zl0 := Eh pre (Bc (Ai bs0 p.fId) p.fWants)
  simp only [An, Az] at zl1
  rw [Ld]
  try simp only [Fa, E9]
  refine Dq (Au (by simp [hi]; omega) (Nr hi he (Fq (c := .sc (.int .i64 y)) rfl (Fp (IntKind.wrap_u8 _) (Aw (cs := [.sc (.int .u8 (y % 256))]) rfl (Bt s0 fun i201 H s202 => E1 (s := (Da (Bc (Ai bs0 p.fId) p.fWants) pre)) (z := (y % 256)) s202 Cl (.here) ⟨_, _, rfl, rfl, rfl, rfl⟩ rfl (by omega) fun x203 H lx203 s204 => Bq (by omega) (by omega) ?_))))))
  have e205 : (Da (Bc (Ai bs0 p.fId) p.fWants) (pre ++ [y])) = (Ay (Da (Bc (Ai bs0 p.fId) p.fWants) pre) (y % 256)) := by
   try simp only [bne_iff_ne, beq_iff_eq, beq_eq_false_iff_ne, Ea] at h3 h6 h11 h26 h28 h30
   simp only [Da, zbp, zbj, zb5, h3, h6, h11, h26, h28, h30, if_true, if_false, zaa]
  exact Ww n hn p hp hb1 hb2 hb3 hq h3 h6 h11 h26 h28 h30  t (pre ++ [y]) m _ i1 x203 _ (by rw [he]; simp) (by rw [hi]; simp) (by simpa using hm) lx203 (by rw [e205]; exact (s204.sel (.cons (.here) (.cons (.here) .nil))))
theorem Rm (n : Nat) (hn : 1048576 < n) (p : PacketV) (hp : H5 p) (hb1 : p.fWBody.size ≤ 1048576) (hb2 : p.fPass.size ≤ 1048576) (hb3 : p.fBody.size ≤ 1048576) (hq : 0 ≤ p.fWQos ∧ p.fWQos ≤ 2) (h3 : (decide (p.fType = 1)) = false) (h6 : (decide (p.fType = 2)) = false) (h11 : (decide (p.fType = 3)) = false) (h26 : (decide (p.fType = 12)) = false) (h28 : (decide (p.fType = 13)) = false) (h30 : (decide (p.fType = 14)) = false)  : ∀ (t pre : List WantV) (m : Nat) (i : Int) (i1 : Nat) (a1 : AV) (H : Ab), p.fWants = pre ++ t → i = ((pre.length : Nat) : Int) → t.length < m → A2 a1 = true → Sep H [.own a1 22 (Ae (Bc (Ai bs0 p.fId) pre)), .blk i1 (Ag p) true] → Gd (· = some (Ae (B7 p))) (Lc (PR (n + 7) AV) (n + 7) (fun x H => A4 Ak E0.tp 22 H x) m (.ptr i1 0) (a1) (Bl Bu p.fWants) (.sc (.int .i64 ((p.fWants.length : Nat) : Int))) (.sc (.int .i64 i)) H)
 | [], pre, m + 1, i, i1, a1, H, he, hi, hm, la1, s0 => by
  obtain rfl : pre = p.fWants := by simpa using he.symm
  have hl1 := hp.l1
  have hl2 := hp.l2
  have hl3 := hp.l3
  have zl1 := Ei p.fWants (Ai bs0 p.fId)
  have zl2 := Eh p.fCodes (Bc (Ai bs0 p.fId) p.fWants)
  have zl0 := Ei p.fWants (Ai bs0 p.fId)
  simp only [An, Az] at zl1
  simp only [An, Az] at zl0
  rw [Lc]
  try simp only [Fa, E9]
  refine Dq (A6 (by simp [hi]) (Q6 (Bd (c := Ey p.fCodes) s0 Cl rfl (Dd ?_))))
  have s201 : Sep _ [.own a1 22 (Ae (Da (Bc (Ai bs0 p.fId) p.fWants) [])), .blk i1 (Ag p) true] := s0.sel (.cons (.here) (.cons (.here) .nil))
  exact Ww n hn p hp hb1 hb2 hb3 hq h3 h6 h11 h26 h28 h30  p.fCodes [] _ 0 i1 a1 _ rfl rfl (by omega) la1 s201
 | y :: t, pre, m + 1, i, i1, a1, H, he, hi, hm, la1, s0 => by
  have hlt : pre.length < p.fWants.length := by rw [he]; simp
  have hl1 := hp.l1
  have hl2 := hp.l2
  have hl3 := hp.l3
  have zl1 := Ei p.fWants (Ai bs0 p.fId)
  have zl2 := Eh p.fCodes (Bc (Ai bs0 p.fId) p.fWants)
  have zl0 := Ei pre (Ai bs0 p.fId)
  simp only [An, Az] at zl1
  simp only [An, Az] at zl0
  rw [Lc]
  try simp only [Fa, E9]
  refine Dq (Au (by simp [hi]; omega) (Pv hi Gy (by decide) he (AlW (Gy _) (Gv s0 fun i201 H s202 => Cd (cs' := Bu y) s202 (.here) (Ez (Wu _)) rfl (Cr rfl) rfl fun H s203 => Q9 (Bd (c := .sc (.string y.fFilter)) s203 (.here) rfl (gf1 (Bd (c := .sc (.int .i64 y.fQos)) s203 (.here) rfl (Fp (IntKind.wrap_u8 _) (D1 (Gd.bothE ?_ ?_))))))))))
  have z204 := Cc (Bc (Ai bs0 p.fId) pre) y.fFilter
  refine Bo s203 rfl (.cons (.own (by decide) Cl) (.cons .sc .nil)) (Lg (n + 1) (by omega) (Bc (Ai bs0 p.fId) pre) y.fFilter (by omega) (hp.w1 y (by rw [he]; simp))) (Ca (Ah (Bc (Ai bs0 p.fId) pre) y.fFilter)) fun x205 H lx205 s206 => Aw (cs := [.sc (.int .u8 (y.fQos % 256))]) rfl (Bt s206 fun i207 H s208 => E1 (s := (Ah (Bc (Ai bs0 p.fId) pre) y.fFilter)) (z := (y.fQos % 256)) s208 Cl (.here) ⟨_, _, rfl, rfl, rfl, rfl⟩ rfl (by omega) fun x209 H lx209 s210 => Bq (by omega) (by omega) ?_)
  have e211 : (Bc (Ai bs0 p.fId) (pre ++ [y])) = (Ay (Ah (Bc (Ai bs0 p.fId) pre) y.fFilter) (y.fQos % 256)) := by
   try simp only [bne_iff_ne, beq_iff_eq, beq_eq_false_iff_ne, Ea] at h3 h6 h11 h26 h28 h30
   simp only [Bc, zbp, zbj, zb5, h3, h6, h11, h26, h28, h30, if_true, if_false, zaa]
  exact Rm n hn p hp hb1 hb2 hb3 hq h3 h6 h11 h26 h28 h30  t (pre ++ [y]) m _ i1 x209 _ (by rw [he]; simp) (by rw [hi]; simp) (by simpa using hm) lx209 (by rw [e211]; exact (s210.sel (.cons (.here) (.cons Fy .nil))))
  refine Aw (cs := [su (y.fQos % 256)]) rfl (Bt s203 fun i212 H s213 => ?_)
  have z214 := Cc (Bc (Ai bs0 p.fId) pre) y.fFilter
  refine Bo s213 rfl (.cons (.own (by decide) Fy) (.cons .sc .nil)) (Lg (n + 1) (by omega) (Bc (Ai bs0 p.fId) pre) y.fFilter (by omega) (hp.w1 y (by rw [he]; simp))) (Ca (Ah (Bc (Ai bs0 p.fId) pre) y.fFilter)) fun x215 H lx215 s216 => E1 (s := (Ah (Bc (Ai bs0 p.fId) pre) y.fFilter)) (z := (y.fQos % 256)) s216 (.here) (.here) ⟨_, _, rfl, rfl, rfl, rfl⟩ rfl (by omega) fun x217 H lx217 s218 => Bq (by omega) (by omega) ?_
  have e219 : (Bc (Ai bs0 p.fId) (pre ++ [y])) = (Ay (Ah (Bc (Ai bs0 p.fId) pre) y.fFilter) (y.fQos % 256)) := by
   try simp only [bne_iff_ne, beq_iff_eq, beq_eq_false_iff_ne, Ea] at h3 h6 h11 h26 h28 h30
   simp only [Bc, zbp, zbj, zb5, h3, h6, h11, h26, h28, h30, if_true, if_false, zaa]
  exact Rm n hn p hp hb1 hb2 hb3 hq h3 h6 h11 h26 h28 h30  t (pre ++ [y]) m _ i1 x217 _ (by rw [he]; simp) (by rw [hi]; simp) (by simpa using hm) lx217 (by rw [e219]; exact (s218.sel (.cons (.here) (.cons Fy .nil))))
theorem Akx (n : Nat) (hn : 1048576 < n) (p : PacketV) (hp : H5 p) (hb1 : p.fWBody.size ≤ 1048576) (hb2 : p.fPass.size ≤ 1048576) (hb3 : p.fBody.size ≤ 1048576) (hq : 0 ≤ p.fWQos ∧ p.fWQos ≤ 2) : Cb E0 (n + 8) 22 111 [.agg (Ag p)] = some (Ae (B7 p)) := by
 rw [At, Aj3, f111]
 refine B8 (G := (· = some (Ae (B7 p)))) ?_
 have hl1 := hp.l1
 have hl2 := hp.l2
 have hl3 := hp.l3
 try simp only [Fa, E9]
 have s0 : Sep [] [] := B4
 refine Ka s0 (Ez (Dg _)) fun i1 H s2 => Q9 (Bd (c := si p.fType) s2 (.here) rfl (Ce (D1 (Ac ((decide (p.fType = 1))) (fun h3 => ?_) fun h3 => ?_))))
 refine Au h3 (Av s2 (.here) rfl (Bo s2 rfl (.aggF (Dg _) .nil) (Acg n (by omega) p hp hb1 hb2 hq) (Ca (Ep p)) fun x4 H lx4 s5 => Al (C3 s5 (.here)) ?_))
 have e : B7 p = (Ep p) := by
  simp only [Ea] at h3
  simp only [B7, Hs, Gf, h3, if_true, if_false, zaa]
 rw [e]
 refine A6 h3 (Ce (Ac ((decide (p.fType = 2))) (fun h6 => ?_) fun h6 => ?_))
 refine Au h6 (Ak7 (Bd (c := sb p.fPresent) s2 (.here) rfl (Ak6 (Bd (c := si p.fCode) s2 (.here) rfl (Fp (IntKind.wrap_u8 _) ?_)))))
 have q7 := Gz p.fPresent 1 (by decide)
 refine Bm (v := (.int .i64 (A0 p.fPresent 1))) s2 rfl (S8 .nil) (AaN (n + 6) p.fPresent 1) (Fp (IntKind.wrap_u8 _) (Aw (cs := [su ((A0 p.fPresent 1) % 256), su (p.fCode % 256)]) rfl (Bt s2 fun i8 H s9 => ?_)))
 have s10 := s9.closeB2 (.here) (by omega)
 refine Al (C3 s10 (.here)) ?_
 have e : B7 p = (Ay (Ay bs0 ((A0 p.fPresent 1) % 256)) (p.fCode % 256)) := by
  simp only [Ea] at h3 h6
  (simp only [B7, Hs, Gf, h3, h6, if_true, if_false, zaa]; rfl)
 rw [e]
 refine A6 h6 (Ce (Ac ((decide (p.fType = 3))) (fun h11 => ?_) fun h11 => ?_))
 refine Au h11 (gf5 (Bd (c := ss p.fTopic) s2 (.here) rfl ?_))
 have z12 := Cc bs0 p.fTopic
 simp only [Aq, An, Az, zah] at z12
 refine Bo s2 rfl (.cons .nl (.cons .sc .nil)) (Lg (n + 1) (by omega) bs0 p.fTopic (by (simp only [Aq, An, Az, zah]; omega)) hp.t1) (Ca (Ah bs0 p.fTopic)) fun x13 H lx13 s14 => Wy (Bd (c := .sc (.int .i64 p.fQos)) s14 Cl rfl (D5 (D1 (Ac ((decide (0 < p.fQos))) (fun h15 => ?_) fun h15 => ?_))))
 refine Au h15 (gf4 (Bd (c := .sc (.int .i64 p.fId)) s14 Cl rfl (Bo s14 rfl (.cons (.own (by decide) (.here)) (.cons .sc .nil)) (Si (n + 2) (by omega) (Ah bs0 p.fTopic) p.fId (by omega)) (Ca (Ai (Ah bs0 p.fTopic) p.fId)) fun x16 H lx16 s17 => gf6 (Bd (c := Ae p.fBody) s17 Fy rfl (Aw (cs := [x16, Ae p.fBody]) (Gh (z' := [x16, .nl]) (Ch lx16) rfl (Cr rfl) rfl (Gh (z' := [x16, Ae p.fBody]) (Ch rfl) rfl (Cr rfl) rfl (rfl))) (Bt s17 fun i18 H s19 => Bo s19 rfl (.sl (.here) rfl (.cons (.own (by decide) Cl) (.cons .ro .nil)) .nil) (L9 (n + 3) (by omega) (Ai (Ah bs0 p.fTopic) p.fId) p.fBody (by (simp only [Aq, An, Az, zah]; omega))) (Ca ((Ai (Ah bs0 p.fTopic) p.fId) ++ p.fBody)) fun x20 H lx20 s21 => Al (C3 s21 (.here)) ?_))))))
 have e : B7 p = ((Ai (Ah bs0 p.fTopic) p.fId) ++ p.fBody) := by
  simp only [Ea] at h3 h6 h11 h15
  (simp only [B7, Hs, Gf, h3, h6, h11, h15, if_true, if_false, zaa]; rfl)
 rw [e]
 refine A6 h15 (gf6 (Bd (c := Ae p.fBody) s14 Cl rfl (Aw (cs := [x13, Ae p.fBody]) (Gh (z' := [x13, .nl]) (Ch lx13) rfl (Cr rfl) rfl (Gh (z' := [x13, Ae p.fBody]) (Ch rfl) rfl (Cr rfl) rfl (rfl))) (Bt s14 fun i22 H s23 => Bo s23 rfl (.sl (.here) rfl (.cons (.own (by decide) Cl) (.cons .ro .nil)) .nil) (L9 (n + 3) (by omega) (Ah bs0 p.fTopic) p.fBody (by omega)) (Ca ((Ah bs0 p.fTopic) ++ p.fBody)) fun x24 H lx24 s25 => Al (C3 s25 (.here)) ?_))))
 have e : B7 p = ((Ah bs0 p.fTopic) ++ p.fBody) := by
  simp only [Ea] at h3 h6 h11 h15
  (simp only [B7, Hs, Gf, h3, h6, h11, h15, if_true, if_false, zaa]; rfl)
 rw [e]
 refine A6 h11 (Ce (D1 (Ac ((decide (p.fType = 12))) (fun h26 => ?_) fun h26 => ?_)))
 refine Au h26 (Au h26 ?_)
 have s27 := s2.nl (ty := 22) ⟨_, _, rfl, rfl⟩
 refine Al (C3 s27 .here) ?_
 have e : B7 p = bs0 := by
  simp only [Ea] at h3 h6 h11 h26
  (simp only [B7, Hs, Gf, h3, h6, h11, h26, if_true, if_false, zaa]; rfl)
 rw [e]
 rfl
 refine A6 h26 (Ce (Ac ((decide (p.fType = 13))) (fun h28 => ?_) fun h28 => ?_))
 refine Au h28 (Au h28 ?_)
 have s29 := s2.nl (ty := 22) ⟨_, _, rfl, rfl⟩
 refine Al (C3 s29 .here) ?_
 have e : B7 p = bs0 := by
  simp only [Ea] at h3 h6 h11 h26 h28
  (simp only [B7, Hs, Gf, h3, h6, h11, h26, h28, if_true, if_false, zaa]; rfl)
 rw [e]
 rfl
 refine A6 h28 (Ce (Ac ((decide (p.fType = 14))) (fun h30 => ?_) fun h30 => ?_))
 refine Au h30 ?_
 have s31 := s2.nl (ty := 22) ⟨_, _, rfl, rfl⟩
 refine Al (C3 s31 .here) ?_
 have e : B7 p = bs0 := by
  simp only [Ea] at h3 h6 h11 h26 h28 h30
  (simp only [B7, Hs, Gf, h3, h6, h11, h26, h28, h30, if_true, if_false, zaa]; rfl)
 rw [e]
 rfl
 refine A6 h30 (gf4 (Bd (c := .sc (.int .i64 p.fId)) s2 (.here) rfl (Bo s2 rfl (.cons .nl (.cons .sc .nil)) (Si (n + 2) (by omega) bs0 p.fId (by (simp only [Aq, An, Az, zah]; omega))) (Ca (Ai bs0 p.fId)) fun x32 H lx32 s33 => Py (Bd (c := Bl Bu p.fWants) s33 Cl rfl (Dd ?_)))))
 have s34 : Sep _ [.own x32 22 (Ae (Bc (Ai bs0 p.fId) [])), .blk i1 (Ag p) true] := s33.sel (.cons (.here) (.cons (.here) .nil))
 exact Rm n hn p hp hb1 hb2 hb3 hq h3 h6 h11 h26 h28 h30  p.fWants [] _ 0 i1 x32 _ rfl rfl (by omega) lx32 s34
theorem AiX (p : PacketV) (hp : H5 p) (hb3 : p.fBody.size ≤ 1048576) : (B7 p).size ≤ 137438953472 := by
 have hl1 := hp.l1
 have hl2 := hp.l2
 have hl3 := hp.l3
 have z1 := Ei p.fWants (Ai bs0 p.fId)
 have z2 := Eh p.fCodes (Bc (Ai bs0 p.fId) p.fWants)
 have z3 := L4 p.fNames (Da (Bc (Ai bs0 p.fId) p.fWants) p.fCodes)
 have z4 := Cc bs0 p.fTopic
 have b1 : (Ep p).size ≤ 1000 := by
  have c3 : ∀ b, (Ct p b).size ≤ b.size + 62 := fun b => by
   unfold Ct
   split
   exact Io _ _
   omega
  have c2 : ∀ b, (Dk p b).size ≤ b.size + 62 := fun b => by
   unfold Dk
   split
   exact Cc _ _
   omega
  have c1 : ∀ b, (Eo p b).size ≤ b.size + 124 := fun b => by
   unfold Eo
   split
   have d1 := Io (Ah b p.fWTopic) p.fWBody
   have d2 := Cc b p.fWTopic
   omega
   omega
  have c0 : (Gt p).size ≤ 200 := by
   unfold Gt
   have d1 := Cc (Ai (Ay (Ay (Ah bs0 mqtt) (p.fLevel % 256)) (Dv p % 256)) p.fKeep) p.fClient
   have d2 := Cc bs0 mqtt
   simp only [An, Aq, Az] at d1 d2
   omega
  have e1 := c1 (Gt p)
  have e2 := c2 (Eo p (Gt p))
  have e3 := c3 (Dk p (Eo p (Gt p)))
  unfold Ep
  omega
 unfold B7 Gf Hs
 simp only [An, Az] at z1 z2 z3 z4
 (repeat' split) <;> (try simp only [Aq, Az, zah, An]) <;> omega
theorem Abo (n : Nat) (hn : 1048576 < n) (p : PacketV) (hp : H5 p) (hb1 : p.fWBody.size ≤ 1048576) (hb2 : p.fPass.size ≤ 1048576) (hb3 : p.fBody.size ≤ 1048576) : Cb E0 (n + 11) 22 72 [.agg (Ag p)] = some (Ae (Fx p)) := by
 rw [At, Anh, f72]
 refine B8 (G := (· = some (Ae (Fx p)))) ?_
 try simp only [Fa, E9]
 have s0 : Sep [] [] := B4
 refine Ka s0 (Ez (Dg _)) fun i1 H s2 => Av s2 (.here) rfl (Bm (v := (.bool (A7 p))) s2 rfl (.aggF (Dg _) .nil) (Tj n (by omega) p hp) (Cv (Ac ((A7 p)) (fun h3 => ?_) fun h3 => ?_)))
 refine A6 (nF h3) (Av s2 (.here) rfl ?_)
 have hf := Il h3
 have hz := AiX p hp hb3
 refine Bo s2 rfl (.aggF (Dg _) .nil) (Akx (n + 2) (by omega) p hp hb1 hb2 hb3 hf.wq) (Ca (B7 p)) fun x4 H lx4 s5 => Av s5 Cl rfl (Bm (v := (.int .i64 (Ci p))) s5 rfl (.aggF (Dg _) .nil) (AcA (n + 7) (by omega) p hf.ty hf.q) (Fp (IntKind.wrap_u8 _) (Aw (cs := [su ((Ci p) % 256)]) rfl (Bt s5 fun i6 H s7 => Jt s7 Cl ?_))))
 have z8 := Yg (Ay bs0 ((Ci p) % 256)) (((B7 p).size : Nat) : Int)
 simp only [Aq, An, Az, zah] at z8
 refine Bo s7 rfl (.sl (.here) rfl (.cons .sc .nil) (.cons .sc .nil)) (by rw [AfZ ((Ci p) % 256) (by omega)]; exact AkE (n + 4) (by omega) (Ay bs0 ((Ci p) % 256)) (((B7 p).size : Nat) : Int) (by simp only [Aq, Az]; omega)) (Ca (C0 (Ay bs0 ((Ci p) % 256)) (((B7 p).size : Nat) : Int))) fun x9 H lx9 s10 => Aw (cs := [x9, x4]) (Gh (z' := [x9, .nl]) (Ch lx9) rfl (Cr rfl) rfl (Gh (z' := [x9, x4]) (Ch lx4) rfl (Cr rfl) rfl (rfl))) (Bt s10 fun i11 H s12 => Bo s12 rfl (.sl (.here) rfl (.cons (.own (by decide) Cl) (.cons (.own (by decide) Ls) .nil)) .nil) (L9 (n + 6) (by omega) (C0 (Ay bs0 ((Ci p) % 256)) (((B7 p).size : Nat) : Int)) (B7 p) (by omega)) (Ca ((C0 (Ay bs0 ((Ci p) % 256)) (((B7 p).size : Nat) : Int)) ++ (B7 p))) fun x13 H lx13 s14 => Al (C3 s14 (.here)) ?_)
 have e : Fx p = ((C0 (Ay bs0 ((Ci p) % 256)) (((B7 p).size : Nat) : Int)) ++ (B7 p)) := by
  simp only [Fx, Is, h3, if_true, if_false, zaa]
 rw [e]
 refine Au (nT h3) ?_
 have s15 := s2.nl (ty := 22) ⟨_, _, rfl, rfl⟩
 refine Al (C3 s15 .here) ?_
 have e : Fx p = bs0 := by
  simp only [Fx, Is, h3, if_true, if_false, zaa]
 rw [e]
 rfl
def Cu (p : PacketV) (z : ByteArray) : ByteArray := Hs p (if !(decide (p.fType = 3)) && decide (0 < p.fId) then Ai z p.fId else z)
def Gu (f : Int) (r : ByteArray) : ByteArray := C0 (Ay bs0 (f % 256)) ((r.size : Nat) : Int) ++ r
theorem AbO {p : PacketV} (h1 : p.fWants = []) (h2 : p.fCodes = []) (h3 : p.fNames = []) (z : ByteArray) : Hs p z = z := by
 unfold Hs
 rw [h1, h2, h3]
 rfl
theorem Aa5 {p : PacketV} (h : A7 p = true) {f : Int} {r : ByteArray} (hf : Ci p = f) (hr : B7 p = r) : Fx p = Gu f r := by
 subst hf
 subst hr
 unfold Fx
 rw [if_pos h]
 rfl
theorem AiB {p : PacketV} (h : A7 p = true) (ht : p.fType = 1) : Fx p = Gu (16 * p.fType) (Cu p (Ep p)) := by
 obtain ⟨_, _, _, _, k5, k6, k7, k8⟩ := Kr h
 refine Aa5 h (by unfold Ci; rw [if_neg (by omega), if_neg (by omega)]) ?_
 unfold Cu
 rw [k5 (by omega), if_neg (by simp), AbO (k6 (by omega)) (k7 (by omega)) (k8 (by omega))]
 unfold B7
 rw [if_pos ht]
theorem AnL {p : PacketV} (h : A7 p = true) (ht : p.fType = 2) : Fx p = Gu (16 * p.fType) (Cu p (Ay (Ay bs0 (A0 p.fPresent 1 % 256)) (p.fCode % 256))) := by
 obtain ⟨_, _, _, _, k5, k6, k7, k8⟩ := Kr h
 refine Aa5 h (by unfold Ci; rw [if_neg (by omega), if_neg (by omega)]) ?_
 unfold Cu
 rw [k5 (by omega), if_neg (by simp), AbO (k6 (by omega)) (k7 (by omega)) (k8 (by omega))]
 unfold B7
 rw [if_neg (by omega), if_pos ht]
theorem AiC {p : PacketV} (h : A7 p = true) (ht : p.fType = 3) : Fx p = Gu (16 * p.fType + A0 p.fDup 8 + 2 * p.fQos + A0 p.fRetain 1) (Cu p (Gf p)) := by
 obtain ⟨_, _, _, _, k5, k6, k7, k8⟩ := Kr h
 refine Aa5 h (by unfold Ci; rw [if_pos ht]) ?_
 unfold Cu
 rw [if_neg (by simp; omega), AbO (k6 (by omega)) (k7 (by omega)) (k8 (by omega))]
 unfold B7
 rw [if_neg (by omega), if_neg (by omega), if_pos ht]
theorem Aa4 {p : PacketV} (h : A7 p = true) (h1 : ¬ p.fType = 1) (h2 : ¬ p.fType = 2) (h3 : ¬ p.fType = 3) {f : Int} (hf : Ci p = f) : Fx p = Gu f (Cu p bs0) := by
 obtain ⟨_, _, _, _, k5, k6, k7, k8⟩ := Kr h
 obtain ⟨ht, _, hk⟩ := Fk h
 refine Aa5 h hf ?_
 unfold Cu B7
 rw [if_neg h1, if_neg h2, if_neg h3]
 by_cases h12 : 12 ≤ p.fType
 rw [k5 (by omega), if_pos (by omega), if_neg (by simp), AbO (k6 (by omega)) (k7 (by omega)) (k8 (by omega))]
 have hi : 1 ≤ p.fId := by
  unfold Fw at hk
  rw [if_neg h1, if_neg h2, if_neg h3] at hk
  by_cases h4 : p.fType = 4 ∨ p.fType = 5 ∨ p.fType = 6 ∨ p.fType = 7 ∨ p.fType = 11
  rw [if_pos h4, G0] at hk
  omega
  rw [if_neg h4, if_pos (by omega)] at hk
  simp only [zag, G0] at hk
  omega
 rw [if_neg (by omega), if_pos (by simp; omega)]
theorem Uv (n : Nat) (hn : 1048576 < n) (p : PacketV) (hp : H5 p) (hb1 : p.fWBody.size ≤ 1048576) (hb2 : p.fPass.size ≤ 1048576) (hb3 : p.fBody.size ≤ 1048576) (h3 : (A7 p) = true) (z4t4 : ByteArray) (f4t3 : Int) (hz40 : z4t4.size ≤ 1100000) (z7t4 : ByteArray) (f7t3 : Int) (hz70 : z7t4.size ≤ 1100100) : ∀ (t pre : List ByteArray) (m : Nat) (i : Int) (i1 : Nat) (a2 : AV) (H : Ab), p.fNames = pre ++ t → i = ((pre.length : Nat) : Int) → t.length < m → A2 a2 = true → Sep H [.own a2 22 (Ae (E5 (Da (Bc z7t4 p.fWants) p.fCodes) pre)), .blk i1 (Ag p) true] → Gd (· = some (Ae (Gu f7t3 (Hs p z7t4)))) (Ri (PR (n + 10) AV) (n + 10) (fun x H => A4 Ak E0.tp 22 H x) m (.ptr i1 0) (.sc (.int .i64 f7t3)) (a2) (.sc (.int .i64 i)) H)
 | [], pre, m + 1, i, i1, a2, H, he, hi, hm, la2, s0 => by
  obtain rfl : pre = p.fNames := by simpa using he.symm
  have hl1 := hp.l1
  have hl2 := hp.l2
  have hl3 := hp.l3
  have zl1 := Ei p.fWants z7t4
  have zl2 := Eh p.fCodes (Bc z7t4 p.fWants)
  have zl0 := L4 p.fNames (Da (Bc z7t4 p.fWants) p.fCodes)
  rw [Ri]
  try simp only [Fa, E9]
  refine Pz (Bd (c := Et p.fNames) s0 Cl rfl (Dd (Dq (A6 (by simp [hi]) (Fp (IntKind.wrap_u8 _) (Aw (cs := [.sc (.int .u8 (f7t3 % 256))]) rfl (Bt s0 fun i201 H s202 => Jt s202 Cl ?_)))))))
  have z203 := Yg (Ay bs0 (f7t3 % 256)) (((E5 (Da (Bc z7t4 p.fWants) p.fCodes) p.fNames).size : Nat) : Int)
  simp only [Aq, An, Az, zah] at z203
  refine Bo s202 rfl (.sl (.here) rfl (.cons .sc .nil) (.cons .sc .nil)) (by rw [AfZ (f7t3 % 256) (by omega)]; exact Alo (n + 4) (by omega) (Ay bs0 (f7t3 % 256)) (((E5 (Da (Bc z7t4 p.fWants) p.fCodes) p.fNames).size : Nat) : Int) (by simp only [Aq, Az]; omega)) (Ca (C0 (Ay bs0 (f7t3 % 256)) (((E5 (Da (Bc z7t4 p.fWants) p.fCodes) p.fNames).size : Nat) : Int))) fun x204 H lx204 s205 => Ki (s := (C0 (Ay bs0 (f7t3 % 256)) (((E5 (Da (Bc z7t4 p.fWants) p.fCodes) p.fNames).size : Nat) : Int))) s205 ⟨_, _, rfl, rfl, rfl, rfl⟩ (.here) (AbM ⟨_, _, rfl, rfl, rfl, rfl⟩ Cl (Iy _)) (by omega) fun x206 H lx206 s207 => Al (C3 s207 (.here)) ?_
  have e : Gu f7t3 (Hs p z7t4) = ((C0 (Ay bs0 (f7t3 % 256)) (((E5 (Da (Bc z7t4 p.fWants) p.fCodes) p.fNames).size : Nat) : Int)) ++ (E5 (Da (Bc z7t4 p.fWants) p.fCodes) p.fNames)) := by
   rfl
  rw [e]
 | y :: t, pre, m + 1, i, i1, a2, H, he, hi, hm, la2, s0 => by
  have hlt : pre.length < p.fNames.length := by rw [he]; simp
  have hl1 := hp.l1
  have hl2 := hp.l2
  have hl3 := hp.l3
  have zl1 := Ei p.fWants z7t4
  have zl2 := Eh p.fCodes (Bc z7t4 p.fWants)
  have zl0 := L4 pre (Da (Bc z7t4 p.fWants) p.fCodes)
  rw [Ri]
  try simp only [Fa, E9]
  refine Pz (Bd (c := Et p.fNames) s0 Cl rfl (Dd (Dq (Au (by simp [hi]; omega) (Pz (Bd (c := Et p.fNames) s0 Cl rfl (Q4 hi he (Fq (c := .sc (.string y)) rfl ?_))))))))
  have z201 := Cc (E5 (Da (Bc z7t4 p.fWants) p.fCodes) pre) y
  refine Bo s0 rfl (.cons (.own (by decide) (.here)) (.cons .sc .nil)) (Lm (n + 5) (by omega) (E5 (Da (Bc z7t4 p.fWants) p.fCodes) pre) y (by omega) (hp.w2 y (by rw [he]; simp))) (Ca (Ah (E5 (Da (Bc z7t4 p.fWants) p.fCodes) pre) y)) fun x202 H lx202 s203 => Bq (by omega) (by omega) ?_
  have e204 : (E5 (Da (Bc z7t4 p.fWants) p.fCodes) (pre ++ [y])) = (Ah (E5 (Da (Bc z7t4 p.fWants) p.fCodes) pre) y) := by
   try simp only [bne_iff_ne, beq_iff_eq, beq_eq_false_iff_ne, Ea] at h3
   simp only [E5, zbp, zbj, zb5, h3, if_true, if_false, zaa]
  exact Uv n hn p hp hb1 hb2 hb3 h3 z4t4 f4t3 hz40 z7t4 f7t3 hz70 t (pre ++ [y]) m _ i1 x202 _ (by rw [he]; simp) (by rw [hi]; simp) (by simpa using hm) lx202 (by rw [e204]; exact (s203.sel (.cons (.here) (.cons Cl .nil))))
theorem Uu (n : Nat) (hn : 1048576 < n) (p : PacketV) (hp : H5 p) (hb1 : p.fWBody.size ≤ 1048576) (hb2 : p.fPass.size ≤ 1048576) (hb3 : p.fBody.size ≤ 1048576) (h3 : (A7 p) = true) (z4t4 : ByteArray) (f4t3 : Int) (hz40 : z4t4.size ≤ 1100000) (z7t4 : ByteArray) (f7t3 : Int) (hz70 : z7t4.size ≤ 1100100) : ∀ (t pre : List Int) (m : Nat) (i : Int) (i1 : Nat) (a2 : AV) (H : Ab), p.fCodes = pre ++ t → i = ((pre.length : Nat) : Int) → t.length < m → A2 a2 = true → Sep H [.own a2 22 (Ae (Da (Bc z7t4 p.fWants) pre)), .blk i1 (Ag p) true] → Gd (· = some (Ae (Gu f7t3 (Hs p z7t4)))) (Om (PR (n + 10) AV) (n + 10) (fun x H => A4 Ak E0.tp 22 H x) m (.ptr i1 0) (.sc (.int .i64 f7t3)) (a2) (.sc (.int .i64 i)) H)
 | [], pre, m + 1, i, i1, a2, H, he, hi, hm, la2, s0 => by
  obtain rfl : pre = p.fCodes := by simpa using he.symm
  have hl1 := hp.l1
  have hl2 := hp.l2
  have hl3 := hp.l3
  have zl1 := Ei p.fWants z7t4
  have zl2 := Eh p.fCodes (Bc z7t4 p.fWants)
  have zl0 := Eh p.fCodes (Bc z7t4 p.fWants)
  rw [Om]
  try simp only [Fa, E9]
  refine Q6 (Bd (c := Ey p.fCodes) s0 Cl rfl (Dd (Dq (A6 (by simp [hi]) ?_))))
  have s201 : Sep _ [.own a2 22 (Ae (E5 (Da (Bc z7t4 p.fWants) p.fCodes) [])), .blk i1 (Ag p) true] := s0.sel (.cons (.here) (.cons (.here) .nil))
  exact Uv n hn p hp hb1 hb2 hb3 h3 z4t4 f4t3 (by assumption) z7t4 f7t3 (by assumption) p.fNames [] _ 0 i1 a2 _ rfl rfl (by omega) la2 s201
 | y :: t, pre, m + 1, i, i1, a2, H, he, hi, hm, la2, s0 => by
  have hlt : pre.length < p.fCodes.length := by rw [he]; simp
  have hl1 := hp.l1
  have hl2 := hp.l2
  have hl3 := hp.l3
  have zl1 := Ei p.fWants z7t4
  have zl2 := Eh p.fCodes (Bc z7t4 p.fWants)
  have zl0 := Eh pre (Bc z7t4 p.fWants)
  rw [Om]
  try simp only [Fa, E9]
  refine Q6 (Bd (c := Ey p.fCodes) s0 Cl rfl (Dd (Dq (Au (by simp [hi]; omega) (Q6 (Bd (c := Ey p.fCodes) s0 Cl rfl (Nr hi he (Fq (c := .sc (.int .i64 y)) rfl (Fp (IntKind.wrap_u8 _) (Aw (cs := [.sc (.int .u8 (y % 256))]) rfl (Bt s0 fun i201 H s202 => E1 (s := (Da (Bc z7t4 p.fWants) pre)) (z := (y % 256)) s202 Cl (.here) ⟨_, _, rfl, rfl, rfl, rfl⟩ rfl (by omega) fun x203 H lx203 s204 => Bq (by omega) (by omega) ?_)))))))))))
  have e205 : (Da (Bc z7t4 p.fWants) (pre ++ [y])) = (Ay (Da (Bc z7t4 p.fWants) pre) (y % 256)) := by
   try simp only [bne_iff_ne, beq_iff_eq, beq_eq_false_iff_ne, Ea] at h3
   simp only [Da, zbp, zbj, zb5, h3, if_true, if_false, zaa]
  exact Uu n hn p hp hb1 hb2 hb3 h3 z4t4 f4t3 hz40 z7t4 f7t3 hz70 t (pre ++ [y]) m _ i1 x203 _ (by rw [he]; simp) (by rw [hi]; simp) (by simpa using hm) lx203 (by rw [e205]; exact (s204.sel (.cons (.here) (.cons (.here) .nil))))
theorem Qe (n : Nat) (hn : 1048576 < n) (p : PacketV) (hp : H5 p) (hb1 : p.fWBody.size ≤ 1048576) (hb2 : p.fPass.size ≤ 1048576) (hb3 : p.fBody.size ≤ 1048576) (h3 : (A7 p) = true) (z4t4 : ByteArray) (f4t3 : Int) (hz40 : z4t4.size ≤ 1100000) (z7t4 : ByteArray) (f7t3 : Int) (hz70 : z7t4.size ≤ 1100100) : ∀ (t pre : List WantV) (m : Nat) (i : Int) (i1 : Nat) (a2 : AV) (H : Ab), p.fWants = pre ++ t → i = ((pre.length : Nat) : Int) → t.length < m → A2 a2 = true → Sep H [.own a2 22 (Ae (Bc z7t4 pre)), .blk i1 (Ag p) true] → Gd (· = some (Ae (Gu f7t3 (Hs p z7t4)))) (Ol (PR (n + 10) AV) (n + 10) (fun x H => A4 Ak E0.tp 22 H x) m (.ptr i1 0) (.sc (.int .i64 f7t3)) (a2) (.sc (.int .i64 i)) H)
 | [], pre, m + 1, i, i1, a2, H, he, hi, hm, la2, s0 => by
  obtain rfl : pre = p.fWants := by simpa using he.symm
  have hl1 := hp.l1
  have hl2 := hp.l2
  have hl3 := hp.l3
  have zl1 := Ei p.fWants z7t4
  have zl2 := Eh p.fCodes (Bc z7t4 p.fWants)
  have zl0 := Ei p.fWants z7t4
  rw [Ol]
  try simp only [Fa, E9]
  refine Py (Bd (c := Bl Bu p.fWants) s0 Cl rfl (Dd (Dq (A6 (by simp [hi]) ?_))))
  have s201 : Sep _ [.own a2 22 (Ae (Da (Bc z7t4 p.fWants) [])), .blk i1 (Ag p) true] := s0.sel (.cons (.here) (.cons (.here) .nil))
  exact Uu n hn p hp hb1 hb2 hb3 h3 z4t4 f4t3 (by assumption) z7t4 f7t3 (by assumption) p.fCodes [] _ 0 i1 a2 _ rfl rfl (by omega) la2 s201
 | y :: t, pre, m + 1, i, i1, a2, H, he, hi, hm, la2, s0 => by
  have hlt : pre.length < p.fWants.length := by rw [he]; simp
  have hl1 := hp.l1
  have hl2 := hp.l2
  have hl3 := hp.l3
  have zl1 := Ei p.fWants z7t4
  have zl2 := Eh p.fCodes (Bc z7t4 p.fWants)
  have zl0 := Ei pre z7t4
  rw [Ol]
  try simp only [Fa, E9]
  refine Py (Bd (c := Bl Bu p.fWants) s0 Cl rfl (Dd (Dq (Au (by simp [hi]; omega) (Py (Bd (c := Bl Bu p.fWants) s0 Cl rfl (Pv hi Gy (by decide) he (Vb (Fq (c := .sc (.string y.fFilter)) rfl (Py (Bd (c := Bl Bu p.fWants) s0 Cl rfl (Pv hi Gy (by decide) he (Vb (Fq (c := .sc (.int .i64 y.fQos)) rfl (Fp (IntKind.wrap_u8 _) (D1 (Gd.bothE ?_ ?_)))))))))))))))))
  have z201 := Cc (Bc z7t4 pre) y.fFilter
  refine Bo s0 rfl (.cons (.own (by decide) (.here)) (.cons .sc .nil)) (Lm (n + 5) (by omega) (Bc z7t4 pre) y.fFilter (by omega) (hp.w1 y (by rw [he]; simp))) (Ca (Ah (Bc z7t4 pre) y.fFilter)) fun x202 H lx202 s203 => Aw (cs := [.sc (.int .u8 (y.fQos % 256))]) rfl (Bt s203 fun i204 H s205 => E1 (s := (Ah (Bc z7t4 pre) y.fFilter)) (z := (y.fQos % 256)) s205 Cl (.here) ⟨_, _, rfl, rfl, rfl, rfl⟩ rfl (by omega) fun x206 H lx206 s207 => Bq (by omega) (by omega) ?_)
  have e208 : (Bc z7t4 (pre ++ [y])) = (Ay (Ah (Bc z7t4 pre) y.fFilter) (y.fQos % 256)) := by
   try simp only [bne_iff_ne, beq_iff_eq, beq_eq_false_iff_ne, Ea] at h3
   simp only [Bc, zbp, zbj, zb5, h3, if_true, if_false, zaa]
  exact Qe n hn p hp hb1 hb2 hb3 h3 z4t4 f4t3 hz40 z7t4 f7t3 hz70 t (pre ++ [y]) m _ i1 x206 _ (by rw [he]; simp) (by rw [hi]; simp) (by simpa using hm) lx206 (by rw [e208]; exact (s207.sel (.cons (.here) (.cons Cl .nil))))
  refine Aw (cs := [su (y.fQos % 256)]) rfl (Bt s0 fun i209 H s210 => ?_)
  have z211 := Cc (Bc z7t4 pre) y.fFilter
  refine Bo s210 rfl (.cons (.own (by decide) Cl) (.cons .sc .nil)) (Lm (n + 5) (by omega) (Bc z7t4 pre) y.fFilter (by omega) (hp.w1 y (by rw [he]; simp))) (Ca (Ah (Bc z7t4 pre) y.fFilter)) fun x212 H lx212 s213 => E1 (s := (Ah (Bc z7t4 pre) y.fFilter)) (z := (y.fQos % 256)) s213 (.here) (.here) ⟨_, _, rfl, rfl, rfl, rfl⟩ rfl (by omega) fun x214 H lx214 s215 => Bq (by omega) (by omega) ?_
  have e216 : (Bc z7t4 (pre ++ [y])) = (Ay (Ah (Bc z7t4 pre) y.fFilter) (y.fQos % 256)) := by
   try simp only [bne_iff_ne, beq_iff_eq, beq_eq_false_iff_ne, Ea] at h3
   simp only [Bc, zbp, zbj, zb5, h3, if_true, if_false, zaa]
  exact Qe n hn p hp hb1 hb2 hb3 h3 z4t4 f4t3 hz40 z7t4 f7t3 hz70 t (pre ++ [y]) m _ i1 x214 _ (by rw [he]; simp) (by rw [hi]; simp) (by simpa using hm) lx214 (by rw [e216]; exact (s215.sel (.cons (.here) (.cons Cl .nil))))
theorem AbL (n : Nat) (hn : 1048576 < n) (p : PacketV) (hp : H5 p) (hb1 : p.fWBody.size ≤ 1048576) (hb2 : p.fPass.size ≤ 1048576) (hb3 : p.fBody.size ≤ 1048576) : Cb E0 (n + 11) 22 66 [.agg (Ag p)] = some (Ae (Fx p)) := by
 rw [At, Anb, f66]
 refine B8 (G := (· = some (Ae (Fx p)))) ?_
 have hl1 := hp.l1
 have hl2 := hp.l2
 have hl3 := hp.l3
 try simp only [Fa, E9]
 have s0 : Sep [] [] := B4
 refine Ka s0 (Ez (Dg _)) fun i1 H s2 => Av s2 (.here) rfl (Bm (v := (.bool (A7 p))) s2 rfl (.aggF (Dg _) .nil) (T0 n (by omega) p hp) (Cv (Ac ((A7 p)) (fun h3 => ?_) fun h3 => ?_)))
 have hf := Il h3
 obtain ⟨ht, hq, hwq, hi⟩ := hf
 refine A6 (nF h3) (Q9 (Bd (c := si p.fType) s2 (.here) rfl (Sd (by omega) (by omega) (Q9 (Bd (c := si p.fType) s2 (.here) rfl (Ce (Oq (P := fun j => ∀ (x4 : AV) (z4t4 : ByteArray) (f4t3 : Int) (H : Ab), A2 x4 = true → (z4t4.size ≤ 1100000) → Sep H [.own x4 22 (Ae z4t4), .blk i1 (Ag p) true] → Gd (· = some (Ae (Gu f4t3 (Cu p z4t4)))) (j (.ptr i1 0) (si f4t3) x4 H)) ?_ fun j4 hj4 => ?_)))))))
 intro x4 z4t4 f4t3 H lx4 hz40 s5
 refine Q9 (Bd (c := si p.fType) s5 Cl rfl (My ?_))
 apply Qp ((!(decide (p.fType = 3))) && (decide (0 < p.fId)))
 intro b6 q6
 refine Ac ((decide (p.fType = 3))) (fun h6 => ?_) fun h6 => ?_
 exact Am (nF h6) (Am (nF h6) (Am (nF h6) (Zb (nF h6) (Nt q6 (nF h6)) Ky)))
 exact Ao (nT h6) (gf4 (Ao (nT h6) (Bd (c := si p.fId) s5 Cl rfl (Ao (nT h6) (D5 (Zc (nT h6) (Nu q6 (nT h6)) Ky))))))
 intro b6 q6
 refine Oq (P := fun j => ∀ (x7 : AV) (z7t4 : ByteArray) (f7t3 : Int) (H : Ab), A2 x7 = true → (z7t4.size ≤ 1100100) → Sep H [.own x7 22 (Ae z7t4), .blk i1 (Ag p) true] → Gd (· = some (Ae (Gu f7t3 (Hs p z7t4)))) (j (.ptr i1 0) (si f7t3) x7 H)) ?_ fun j7 hj7 => ?_
 intro x7 z7t4 f7t3 H lx7 hz70 s8
 have s9 : Sep _ [.own x7 22 (Ae (Bc z7t4 [])), .blk i1 (Ag p) true] := s8.sel (.cons (.here) (.cons (.here) .nil))
 exact Qe n hn p hp hb1 hb2 hb3 h3 z4t4 f4t3 (by assumption) z7t4 f7t3 (by assumption) p.fWants [] _ 0 i1 x7 _ rfl rfl (by omega) lx7 s9
 refine Ac (b6) (fun h10 => ?_) fun h10 => ?_
 refine Au h10 (gf4 (Bd (c := si p.fId) s5 Cl rfl (Bo s5 rfl (.cons (.own (by decide) (.here)) (.cons .sc .nil)) (S3 (n + 9) (by omega) z4t4 p.fId (by omega)) (Ca (Ai z4t4 p.fId)) fun x11 H lx11 s12 => ?_)))
 have e13 : Gu f4t3 (Cu p z4t4) = Gu f4t3 (Hs p (Ai z4t4 p.fId)) := by
  unfold Cu; simp only [← q6, h10, if_true, if_false, zaa]
 rw [e13]
 exact hj7 x11 (Ai z4t4 p.fId) f4t3 _ lx11 (by (simp only [Aq, An, Az, zah]; omega)) (s12.sel (.cons (.here) (.cons Cl .nil)))
 refine A6 h10 ?_
 have e14 : Gu f4t3 (Cu p z4t4) = Gu f4t3 (Hs p z4t4) := by
  unfold Cu; simp only [← q6, h10, if_true, if_false, zaa]
 rw [e14]
 exact hj7 x4 z4t4 f4t3 _ lx4 (by omega) (s5.sel (.cons (.here) (.cons (.here) .nil)))
 refine Ac ((decide (p.fType = 1))) (fun h15 => ?_) fun h15 => ?_
 refine Au h15 (gf8 (Bd (c := si p.fLevel) s2 (.here) rfl (Fp (IntKind.wrap_u8 _) (Oq (P := fun j => ∀ (x16 : AV) (z16t4 : ByteArray) (f16t3 : Int) (H : Ab), A2 x16 = true → (z16t4.size ≤ 100) → Sep H [.own x16 22 (Ae z16t4), .blk i1 (Ag p) true] → Gd (· = some (Ae (Gu f16t3 (Cu p (Ct p (Dk p (Eo p (Ah (Ai (Ay z16t4 (Dv p % 256)) p.fKeep) p.fClient)))))))) (j (.ptr i1 0) (si f16t3) x16 H)) ?_ fun j16 hj16 => ?_))))
 intro x16 z16t4 f16t3 H lx16 hz160 s17
 refine gf9 (Bd (c := sb p.fClean) s17 Cl rfl (Abl (Bd (c := sb p.fHasWill) s17 Cl rfl (Ak4 (Bd (c := si p.fWQos) s17 Cl rfl (Sd (by omega) (by omega) (Ak5 (Bd (c := sb p.fWRetain) s17 Cl rfl (Se (Bd (c := sb p.fHasPass) s17 Cl rfl (Yu (Bd (c := sb p.fHasUser) s17 Cl rfl ?_))))))))))))
 have q18 := Gz p.fClean 2 (by decide)
 refine Bm (v := (.int .i64 (A0 p.fClean 2))) s17 rfl (S8 .nil) (Uf (n + 9) p.fClean 2) ?_
 have q19 := Gz p.fHasWill 4 (by decide)
 refine Bm (v := (.int .i64 (A0 p.fHasWill 4))) s17 rfl (S8 .nil) (Uf (n + 9) p.fHasWill 4) (Bq (by omega) (by omega) (Bq (by omega) (by omega) ?_))
 have q20 := Gz p.fWRetain 32 (by decide)
 refine Bm (v := (.int .i64 (A0 p.fWRetain 32))) s17 rfl (S8 .nil) (Uf (n + 9) p.fWRetain 32) (Bq (by omega) (by omega) ?_)
 have q21 := Gz p.fHasPass 64 (by decide)
 refine Bm (v := (.int .i64 (A0 p.fHasPass 64))) s17 rfl (S8 .nil) (Uf (n + 9) p.fHasPass 64) (Bq (by omega) (by omega) ?_)
 have q22 := Gz p.fHasUser 128 (by decide)
 refine Bm (v := (.int .i64 (A0 p.fHasUser 128))) s17 rfl (S8 .nil) (Uf (n + 9) p.fHasUser 128) (Bq (by omega) (by omega) (Fp (IntKind.wrap_u8 _) (Aw (cs := [.sc (.int .u8 (((((((A0 p.fClean 2) + (A0 p.fHasWill 4)) + (8 * p.fWQos)) + (A0 p.fWRetain 32)) + (A0 p.fHasPass 64)) + (A0 p.fHasUser 128)) % 256))]) rfl (Bt s17 fun i23 H s24 => E1 (s := z16t4) (z := (((((((A0 p.fClean 2) + (A0 p.fHasWill 4)) + (8 * p.fWQos)) + (A0 p.fWRetain 32)) + (A0 p.fHasPass 64)) + (A0 p.fHasUser 128)) % 256)) s24 Cl (.here) ⟨_, _, rfl, rfl, rfl, rfl⟩ rfl (by omega) fun x25 H lx25 s26 => Ak1 (Bd (c := .sc (.int .i64 p.fKeep)) s26 Cl rfl (gf7 (Bd (c := .sc (.string p.fClient)) s26 Cl rfl (Bo s26 rfl (.cons (.own (by decide) (.here)) (.cons .sc .nil)) (S3 (n + 9) (by omega) (Ay z16t4 (((((((A0 p.fClean 2) + (A0 p.fHasWill 4)) + (8 * p.fWQos)) + (A0 p.fWRetain 32)) + (A0 p.fHasPass 64)) + (A0 p.fHasUser 128)) % 256)) p.fKeep (by (simp only [Aq, An, Az, zah]; omega))) (Ca (Ai (Ay z16t4 (((((((A0 p.fClean 2) + (A0 p.fHasWill 4)) + (8 * p.fWQos)) + (A0 p.fWRetain 32)) + (A0 p.fHasPass 64)) + (A0 p.fHasUser 128)) % 256)) p.fKeep)) fun x27 H lx27 s28 => ?_))))))))
 have z29 := Cc (Ai (Ay z16t4 (((((((A0 p.fClean 2) + (A0 p.fHasWill 4)) + (8 * p.fWQos)) + (A0 p.fWRetain 32)) + (A0 p.fHasPass 64)) + (A0 p.fHasUser 128)) % 256)) p.fKeep) p.fClient
 simp only [Aq, An, Az, zah] at z29
 refine Bo s28 rfl (.cons (.own (by decide) (.here)) (.cons .sc .nil)) (Lm (n + 5) (by omega) (Ai (Ay z16t4 (((((((A0 p.fClean 2) + (A0 p.fHasWill 4)) + (8 * p.fWQos)) + (A0 p.fWRetain 32)) + (A0 p.fHasPass 64)) + (A0 p.fHasUser 128)) % 256)) p.fKeep) p.fClient (by (simp only [Aq, An, Az, zah]; omega)) hp.t2) (Ca (Ah (Ai (Ay z16t4 (((((((A0 p.fClean 2) + (A0 p.fHasWill 4)) + (8 * p.fWQos)) + (A0 p.fWRetain 32)) + (A0 p.fHasPass 64)) + (A0 p.fHasUser 128)) % 256)) p.fKeep) p.fClient)) fun x30 H lx30 s31 => Abl (Bd (c := .sc (.bool p.fHasWill)) s31 Ls rfl (Oq (P := fun j => ∀ (x32 : AV) (z32t4 : ByteArray) (f32t3 : Int) (H : Ab), A2 x32 = true → (z32t4.size ≤ 400) → Sep H [.own x32 22 (Ae z32t4), .blk i1 (Ag p) true] → Gd (· = some (Ae (Gu f32t3 (Cu p (Ct p (Dk p z32t4)))))) (j (.ptr i1 0) (.sc (.int .i64 f32t3)) x32 H)) ?_ fun j32 hj32 => ?_))
 intro x32 z32t4 f32t3 H lx32 hz320 s33
 refine Yu (Bd (c := sb p.fHasUser) s33 Cl rfl (Oq (P := fun j => ∀ (x34 : AV) (z34t4 : ByteArray) (f34t3 : Int) (H : Ab), A2 x34 = true → (z34t4.size ≤ 600) → Sep H [.own x34 22 (Ae z34t4), .blk i1 (Ag p) true] → Gd (· = some (Ae (Gu f34t3 (Cu p (Ct p z34t4))))) (j (.ptr i1 0) (si f34t3) x34 H)) ?_ fun j34 hj34 => ?_))
 intro x34 z34t4 f34t3 H lx34 hz340 s35
 refine Se (Bd (c := sb p.fHasPass) s35 Cl rfl (Ac (p.fHasPass) (fun h36 => ?_) fun h36 => ?_))
 refine Au h36 (Yv (Bd (c := Ae p.fPass) s35 Cl rfl ?_))
 have z37 := Io z34t4 p.fPass
 refine Bo s35 rfl (.cons (.own (by decide) (.here)) (.cons .ro .nil)) (Aea (n + 8) (by omega) z34t4 p.fPass (by omega) hb2) (Ca (Cq z34t4 p.fPass)) fun x38 H lx38 s39 => ?_
 have e40 : Gu f34t3 (Cu p (Ct p z34t4)) = Gu f34t3 (Cu p (Cq z34t4 p.fPass)) := by
  simp only [Ea] at h15
  simp only [Cu, Ep, Gt, Eo, Dk, Ct, Dv, Gf, h3, h15, h36, if_true, if_false, zaa]
 rw [e40]
 exact hj4 x38 (Cq z34t4 p.fPass) f34t3 _ lx38 (by omega) (s39.sel (.cons (.here) (.cons Cl .nil)))
 refine A6 h36 ?_
 have e41 : Gu f34t3 (Cu p (Ct p z34t4)) = Gu f34t3 (Cu p z34t4) := by
  simp only [Ea] at h15
  simp only [Cu, Ep, Gt, Eo, Dk, Ct, Dv, Gf, h3, h15, h36, if_true, if_false, zaa]
 rw [e41]
 exact hj4 x34 z34t4 f34t3 _ lx34 (by omega) (s35.sel (.cons (.here) (.cons (.here) .nil)))
 refine Ac (p.fHasUser) (fun h42 => ?_) fun h42 => ?_
 refine Au h42 (Afz (Bd (c := ss p.fUser) s33 Cl rfl ?_))
 have z43 := Cc z32t4 p.fUser
 refine Bo s33 rfl (.cons (.own (by decide) (.here)) (.cons .sc .nil)) (Lm (n + 5) (by omega) z32t4 p.fUser (by omega) hp.t4) (Ca (Ah z32t4 p.fUser)) fun x44 H lx44 s45 => ?_
 have e46 : Gu f32t3 (Cu p (Ct p (Dk p z32t4))) = Gu f32t3 (Cu p (Ct p (Ah z32t4 p.fUser))) := by
  simp only [Ea] at h15
  simp only [Cu, Ep, Gt, Eo, Dk, Ct, Dv, Gf, h3, h15, h42, if_true, if_false, zaa]
 rw [e46]
 exact hj34 x44 (Ah z32t4 p.fUser) f32t3 _ lx44 (by omega) (s45.sel (.cons (.here) (.cons Cl .nil)))
 refine A6 h42 ?_
 have e47 : Gu f32t3 (Cu p (Ct p (Dk p z32t4))) = Gu f32t3 (Cu p (Ct p z32t4)) := by
  simp only [Ea] at h15
  simp only [Cu, Ep, Gt, Eo, Dk, Ct, Dv, Gf, h3, h15, h42, if_true, if_false, zaa]
 rw [e47]
 exact hj34 x32 z32t4 f32t3 _ lx32 (by omega) (s33.sel (.cons (.here) (.cons (.here) .nil)))
 refine Ac (p.fHasWill) (fun h48 => ?_) fun h48 => ?_
 refine Au h48 (Ak2 (Bd (c := ss p.fWTopic) s31 Ls rfl (Ak3 (Bd (c := Ae p.fWBody) s31 Ls rfl ?_))))
 have z49 := Cc (Ah (Ai (Ay z16t4 (((((((A0 p.fClean 2) + (A0 p.fHasWill 4)) + (8 * p.fWQos)) + (A0 p.fWRetain 32)) + (A0 p.fHasPass 64)) + (A0 p.fHasUser 128)) % 256)) p.fKeep) p.fClient) p.fWTopic
 refine Bo s31 rfl (.cons (.own (by decide) (.here)) (.cons .sc .nil)) (Lm (n + 5) (by omega) (Ah (Ai (Ay z16t4 (((((((A0 p.fClean 2) + (A0 p.fHasWill 4)) + (8 * p.fWQos)) + (A0 p.fWRetain 32)) + (A0 p.fHasPass 64)) + (A0 p.fHasUser 128)) % 256)) p.fKeep) p.fClient) p.fWTopic (by omega) hp.t3) (Ca (Ah (Ah (Ai (Ay z16t4 (((((((A0 p.fClean 2) + (A0 p.fHasWill 4)) + (8 * p.fWQos)) + (A0 p.fWRetain 32)) + (A0 p.fHasPass 64)) + (A0 p.fHasUser 128)) % 256)) p.fKeep) p.fClient) p.fWTopic)) fun x50 H lx50 s51 => ?_
 have z52 := Io (Ah (Ah (Ai (Ay z16t4 (((((((A0 p.fClean 2) + (A0 p.fHasWill 4)) + (8 * p.fWQos)) + (A0 p.fWRetain 32)) + (A0 p.fHasPass 64)) + (A0 p.fHasUser 128)) % 256)) p.fKeep) p.fClient) p.fWTopic) p.fWBody
 refine Bo s51 rfl (.cons (.own (by decide) (.here)) (.cons .ro .nil)) (Aea (n + 8) (by omega) (Ah (Ah (Ai (Ay z16t4 (((((((A0 p.fClean 2) + (A0 p.fHasWill 4)) + (8 * p.fWQos)) + (A0 p.fWRetain 32)) + (A0 p.fHasPass 64)) + (A0 p.fHasUser 128)) % 256)) p.fKeep) p.fClient) p.fWTopic) p.fWBody (by omega) hb1) (Ca (Cq (Ah (Ah (Ai (Ay z16t4 (((((((A0 p.fClean 2) + (A0 p.fHasWill 4)) + (8 * p.fWQos)) + (A0 p.fWRetain 32)) + (A0 p.fHasPass 64)) + (A0 p.fHasUser 128)) % 256)) p.fKeep) p.fClient) p.fWTopic) p.fWBody)) fun x53 H lx53 s54 => ?_
 have e55 : Gu f16t3 (Cu p (Ct p (Dk p (Eo p (Ah (Ai (Ay z16t4 (Dv p % 256)) p.fKeep) p.fClient))))) = Gu f16t3 (Cu p (Ct p (Dk p (Cq (Ah (Ah (Ai (Ay z16t4 (((((((A0 p.fClean 2) + (A0 p.fHasWill 4)) + (8 * p.fWQos)) + (A0 p.fWRetain 32)) + (A0 p.fHasPass 64)) + (A0 p.fHasUser 128)) % 256)) p.fKeep) p.fClient) p.fWTopic) p.fWBody)))) := by
  simp only [Ea] at h15
  simp only [Cu, Ep, Gt, Eo, Dk, Ct, Dv, Gf, h3, h15, h48, if_true, if_false, zaa]
 rw [e55]
 exact hj32 x53 (Cq (Ah (Ah (Ai (Ay z16t4 (((((((A0 p.fClean 2) + (A0 p.fHasWill 4)) + (8 * p.fWQos)) + (A0 p.fWRetain 32)) + (A0 p.fHasPass 64)) + (A0 p.fHasUser 128)) % 256)) p.fKeep) p.fClient) p.fWTopic) p.fWBody) f16t3 _ lx53 (by omega) (s54.sel (.cons (.here) (.cons Mm .nil)))
 refine A6 h48 ?_
 have e56 : Gu f16t3 (Cu p (Ct p (Dk p (Eo p (Ah (Ai (Ay z16t4 (Dv p % 256)) p.fKeep) p.fClient))))) = Gu f16t3 (Cu p (Ct p (Dk p (Ah (Ai (Ay z16t4 (((((((A0 p.fClean 2) + (A0 p.fHasWill 4)) + (8 * p.fWQos)) + (A0 p.fWRetain 32)) + (A0 p.fHasPass 64)) + (A0 p.fHasUser 128)) % 256)) p.fKeep) p.fClient)))) := by
  simp only [Ea] at h15
  simp only [Cu, Ep, Gt, Eo, Dk, Ct, Dv, Gf, h3, h15, h48, if_true, if_false, zaa]
 rw [e56]
 exact hj32 x30 (Ah (Ai (Ay z16t4 (((((((A0 p.fClean 2) + (A0 p.fHasWill 4)) + (8 * p.fWQos)) + (A0 p.fWRetain 32)) + (A0 p.fHasPass 64)) + (A0 p.fHasUser 128)) % 256)) p.fKeep) p.fClient) f16t3 _ lx30 (by omega) (s31.sel (.cons (.here) (.cons Fy .nil)))
 refine Gd.bothE ?_ ?_
 have z57 := Cc bs0 mqtt
 simp only [Aq, An, Az, zah] at z57
 refine Bo s2 rfl (.cons .nl (.cons .sc .nil)) (Lm (n + 5) (by omega) bs0 mqtt (by (simp only [Aq, An, Az, zah]; omega)) (by decide)) (Ca (Ah bs0 mqtt)) fun x58 H lx58 s59 => Aw (cs := [.sc (.int .u8 (p.fLevel % 256))]) rfl (Bt s59 fun i60 H s61 => E1 (s := (Ah bs0 mqtt)) (z := (p.fLevel % 256)) s61 Cl (.here) ⟨_, _, rfl, rfl, rfl, rfl⟩ rfl (by omega) fun x62 H lx62 s63 => ?_)
 have e64 : Fx p = Gu (16 * p.fType) (Cu p (Ct p (Dk p (Eo p (Ah (Ai (Ay (Ay (Ah bs0 mqtt) (p.fLevel % 256)) (Dv p % 256)) p.fKeep) p.fClient))))) := by
  simp only [Ea] at h15
  rw [AiB h3 h15]; (rfl)
 rw [e64]
 exact hj16 x62 (Ay (Ah bs0 mqtt) (p.fLevel % 256)) (16 * p.fType) _ lx62 (by (simp only [Aq, An, Az, zah]; omega)) (s63.sel (.cons (.here) (.cons (.here) .nil)))
 refine Aw (cs := [su (p.fLevel % 256)]) rfl (Bt s2 fun i65 H s66 => ?_)
 have z67 := Cc bs0 mqtt
 simp only [Aq, An, Az, zah] at z67
 refine Bo s66 rfl (.cons .nl (.cons .sc .nil)) (Lm (n + 5) (by omega) bs0 mqtt (by (simp only [Aq, An, Az, zah]; omega)) (by decide)) (Ca (Ah bs0 mqtt)) fun x68 H lx68 s69 => E1 (s := (Ah bs0 mqtt)) (z := (p.fLevel % 256)) s69 (.here) (.here) ⟨_, _, rfl, rfl, rfl, rfl⟩ rfl (by omega) fun x70 H lx70 s71 => ?_
 have e72 : Fx p = Gu (16 * p.fType) (Cu p (Ct p (Dk p (Eo p (Ah (Ai (Ay (Ay (Ah bs0 mqtt) (p.fLevel % 256)) (Dv p % 256)) p.fKeep) p.fClient))))) := by
  simp only [Ea] at h15
  rw [AiB h3 h15]; (rfl)
 rw [e72]
 exact hj16 x70 (Ay (Ah bs0 mqtt) (p.fLevel % 256)) (16 * p.fType) _ lx70 (by (simp only [Aq, An, Az, zah]; omega)) (s71.sel (.cons (.here) (.cons (.here) .nil)))
 refine A6 h15 (Ce (Ac ((decide (p.fType = 2))) (fun h73 => ?_) fun h73 => ?_))
 refine Au h73 (Ak7 (Bd (c := sb p.fPresent) s2 (.here) rfl (Ak6 (Bd (c := si p.fCode) s2 (.here) rfl (Fp (IntKind.wrap_u8 _) ?_)))))
 have q74 := Gz p.fPresent 1 (by decide)
 refine Bm (v := (.int .i64 (A0 p.fPresent 1))) s2 rfl (S8 .nil) (Uf (n + 9) p.fPresent 1) (Fp (IntKind.wrap_u8 _) (Aw (cs := [su ((A0 p.fPresent 1) % 256), su (p.fCode % 256)]) rfl (Bt s2 fun i75 H s76 => ?_)))
 have s77 := s76.nl (ty := 22) ⟨_, _, rfl, rfl⟩
 refine U9 (s := bs0) (z := ((A0 p.fPresent 1) % 256)) (w := (p.fCode % 256)) s77 (.here) (.here) ⟨_, _, rfl, rfl, rfl, rfl⟩ (by (simp only [Aq, Az]; omega)) fun x78 H lx78 s79 => ?_
 have e80 : Fx p = Gu (16 * p.fType) (Cu p (Ay (Ay bs0 ((A0 p.fPresent 1) % 256)) (p.fCode % 256))) := by
  simp only [Ea] at h15 h73
  rw [AnL h3 h73]
 rw [e80]
 exact hj4 x78 (Ay (Ay bs0 ((A0 p.fPresent 1) % 256)) (p.fCode % 256)) (16 * p.fType) _ lx78 (by (simp only [Aq, An, Az, zah]; omega)) (s79.sel (.cons (.here) (.cons (.here) .nil)))
 refine A6 h73 (Ce (Ac ((decide (p.fType = 3))) (fun h81 => ?_) fun h81 => ?_))
 refine Au h81 (gf1 (Bd (c := sb p.fDup) s2 (.here) rfl (Wy (Bd (c := si p.fQos) s2 (.here) rfl (Sd (by omega) (by omega) (gf3 (Bd (c := sb p.fRetain) s2 (.here) rfl ?_)))))))
 have q82 := Gz p.fDup 8 (by decide)
 refine Bm (v := (.int .i64 (A0 p.fDup 8))) s2 rfl (S8 .nil) (Uf (n + 9) p.fDup 8) (Bq (by omega) (by omega) (Bq (by omega) (by omega) ?_))
 have q83 := Gz p.fRetain 1 (by decide)
 refine Bm (v := (.int .i64 (A0 p.fRetain 1))) s2 rfl (S8 .nil) (Uf (n + 9) p.fRetain 1) (Bq (by omega) (by omega) (gf5 (Bd (c := ss p.fTopic) s2 (.here) rfl ?_)))
 have z84 := Cc bs0 p.fTopic
 simp only [Aq, An, Az, zah] at z84
 refine Bo s2 rfl (.cons .nl (.cons .sc .nil)) (Lm (n + 5) (by omega) bs0 p.fTopic (by (simp only [Aq, An, Az, zah]; omega)) hp.t1) (Ca (Ah bs0 p.fTopic)) fun x85 H lx85 s86 => Wy (Bd (c := .sc (.int .i64 p.fQos)) s86 Cl rfl (D5 (Oq (P := fun j => ∀ (x87 : AV) (z87t4 : ByteArray) (f87t3 : Int) (H : Ab), A2 x87 = true → (z87t4.size ≤ 200) → Sep H [.own x87 22 (Ae z87t4), .blk i1 (Ag p) true] → Gd (· = some (Ae (Gu f87t3 (Cu p (z87t4 ++ p.fBody))))) (j (.ptr i1 0) (.sc (.int .i64 f87t3)) x87 H)) ?_ fun j87 hj87 => ?_)))
 intro x87 z87t4 f87t3 H lx87 hz870 s88
 refine gf6 (Bd (c := Ae p.fBody) s88 Cl rfl (Ki (s := z87t4) s88 ⟨_, _, rfl, rfl, rfl, rfl⟩ (.here) O2 (by omega) fun x89 H lx89 s90 => ?_))
 have e91 : Gu f87t3 (Cu p (z87t4 ++ p.fBody)) = Gu f87t3 (Cu p (z87t4 ++ p.fBody)) := by
  simp only [Ea] at h15 h73 h81
  rfl
 rw [e91]
 exact hj4 x89 (z87t4 ++ p.fBody) f87t3 _ lx89 (by (simp only [Aq, An, Az, zah]; omega)) (s90.sel (.cons (.here) (.cons (.here) .nil)))
 refine Ac ((decide (0 < p.fQos))) (fun h92 => ?_) fun h92 => ?_
 refine Au h92 (gf4 (Bd (c := si p.fId) s86 Cl rfl (Bo s86 rfl (.cons (.own (by decide) (.here)) (.cons .sc .nil)) (S3 (n + 9) (by omega) (Ah bs0 p.fTopic) p.fId (by omega)) (Ca (Ai (Ah bs0 p.fTopic) p.fId)) fun x93 H lx93 s94 => ?_)))
 have e95 : Fx p = Gu ((((16 * p.fType) + (A0 p.fDup 8)) + (2 * p.fQos)) + (A0 p.fRetain 1)) (Cu p ((Ai (Ah bs0 p.fTopic) p.fId) ++ p.fBody)) := by
  simp only [Ea] at h15 h73 h81 h92
  rw [AiC h3 h81]; ((simp only [Cu, Ep, Gt, Eo, Dk, Ct, Dv, Gf, h3, h15, h73, h81, h92, if_true, if_false, zaa]; done))
 rw [e95]
 exact hj87 x93 (Ai (Ah bs0 p.fTopic) p.fId) ((((16 * p.fType) + (A0 p.fDup 8)) + (2 * p.fQos)) + (A0 p.fRetain 1)) _ lx93 (by (simp only [Aq, An, Az, zah]; omega)) (s94.sel (.cons (.here) (.cons Cl .nil)))
 refine A6 h92 ?_
 have e96 : Fx p = Gu ((((16 * p.fType) + (A0 p.fDup 8)) + (2 * p.fQos)) + (A0 p.fRetain 1)) (Cu p ((Ah bs0 p.fTopic) ++ p.fBody)) := by
  simp only [Ea] at h15 h73 h81 h92
  rw [AiC h3 h81]; ((simp only [Cu, Ep, Gt, Eo, Dk, Ct, Dv, Gf, h3, h15, h73, h81, h92, if_true, if_false, zaa]; done))
 rw [e96]
 exact hj87 x85 (Ah bs0 p.fTopic) ((((16 * p.fType) + (A0 p.fDup 8)) + (2 * p.fQos)) + (A0 p.fRetain 1)) _ lx85 (by omega) (s86.sel (.cons (.here) (.cons (.here) .nil)))
 refine A6 h81 (Ce (D1 (Ac ((decide (p.fType = 6))) (fun h97 => ?_) fun h97 => ?_)))
 refine Au h97 (Au h97 (Bq (by omega) (by omega) ?_))
 have s98 := s2.nl (ty := 22) ⟨_, _, rfl, rfl⟩
 have e99 : Fx p = Gu ((16 * p.fType) + 2) (Cu p bs0) := by
  clear hj4 s0 s2 s98
  simp only [Ea] at h15 h73 h81 h97
  exact Aa4 h3 h15 h73 h81 (by unfold Ci; (repeat' split) <;> omega)
 rw [e99]
 exact hj4 .nl bs0 ((16 * p.fType) + 2) _ rfl (by (simp only [Aq, An, Az, zah]; omega)) (s98.sel (.cons (.here) (.cons (.here) .nil)))
 refine A6 h97 (Ce (Ac ((decide (p.fType = 8))) (fun h100 => ?_) fun h100 => ?_))
 refine Au h100 (Au h100 (Bq (by omega) (by omega) ?_))
 have s101 := s2.nl (ty := 22) ⟨_, _, rfl, rfl⟩
 have e102 : Fx p = Gu ((16 * p.fType) + 2) (Cu p bs0) := by
  clear hj4 s0 s2 s101
  simp only [Ea] at h15 h73 h81 h97 h100
  exact Aa4 h3 h15 h73 h81 (by unfold Ci; (repeat' split) <;> omega)
 rw [e102]
 exact hj4 .nl bs0 ((16 * p.fType) + 2) _ rfl (by (simp only [Aq, An, Az, zah]; omega)) (s101.sel (.cons (.here) (.cons (.here) .nil)))
 refine A6 h100 (Ce (Ac ((decide (p.fType = 10))) (fun h103 => ?_) fun h103 => ?_))
 refine Au h103 (Bq (by omega) (by omega) ?_)
 have s104 := s2.nl (ty := 22) ⟨_, _, rfl, rfl⟩
 have e105 : Fx p = Gu ((16 * p.fType) + 2) (Cu p bs0) := by
  clear hj4 s0 s2 s104
  simp only [Ea] at h15 h73 h81 h97 h100 h103
  exact Aa4 h3 h15 h73 h81 (by unfold Ci; (repeat' split) <;> omega)
 rw [e105]
 exact hj4 .nl bs0 ((16 * p.fType) + 2) _ rfl (by (simp only [Aq, An, Az, zah]; omega)) (s104.sel (.cons (.here) (.cons (.here) .nil)))
 refine A6 h103 ?_
 have s106 := s2.nl (ty := 22) ⟨_, _, rfl, rfl⟩
 have e107 : Fx p = Gu (16 * p.fType) (Cu p bs0) := by
  clear hj4 s0 s2 s106
  simp only [Ea] at h15 h73 h81 h97 h100 h103
  exact Aa4 h3 h15 h73 h81 (by unfold Ci; (repeat' split) <;> omega)
 rw [e107]
 exact hj4 .nl bs0 (16 * p.fType) _ rfl (by (simp only [Aq, An, Az, zah]; omega)) (s106.sel (.cons (.here) (.cons (.here) .nil)))
 refine Au (nT h3) ?_
 have s108 := s2.nl (ty := 22) ⟨_, _, rfl, rfl⟩
 refine Al (C3 s108 .here) ?_
 have e : Fx p = bs0 := by
  simp only [Fx, Gu, Hs, h3, if_true, if_false, zaa]
 rw [e]
 rfl
end
section
open Go
theorem AdE (n : Nat) (hn : 1048576 < n) (B : ByteArray) (a : Int) (hB : B.size ≤ 1099511627776) (ha : -1152921504606846976 ≤ a ∧ a ≤ 1152921504606846976) : Cb E0 (n + 1) 110 130 [Ae B, .sc (.int .i64 a)] = some (.tup [.sc (.int .i64 (Bg B a).1), .sc (.int .i64 (Bg B a).2.1), .sc (.bool (Bg B a).2.2)]) := by
 rw [At, AjD, f130]
 refine B8 (G := (· = some (.tup [.sc (.int .i64 (Bg B a).1), .sc (.int .i64 (Bg B a).2.1), .sc (.bool (Bg B a).2.2)]))) ?_
 try simp only [Fa, E9]
 have s0 : Sep [] [] := B4
 refine Dq (Ac ((decide (a < 0))) (fun h1 => ?_) fun h1 => ?_)
 have dh1 := of_decide_eq_true h1
 refine Am h1 (Am h1 (Am h1 (Am h1 (Am h1 (D7 h1 (Au rfl (Al (Bj s0 rfl (Yn .nil) (Yo trivial)) ?_)))))))
 have e : Bg B a = (0, 0, false) := by
  clear s0
  simp only [Ea] at h1
  unfold Bg; rw [if_pos (by omega)]
 rw [e]
 have dh1 := of_decide_eq_false h1
 refine Ao h1 (Ao h1 (Ao h1 (Dd (Ao h1 (Px (by omega) (by omega) (Ao h1 (D5 (D3 h1 (Ac ((decide ((((B.size : Nat) : Int) - 2) < a))) (fun h2 => ?_) fun h2 => ?_)))))))))
 have dh2 := of_decide_eq_true h2
 refine Au h2 (Al (Bj s0 rfl (Yn .nil) (Yo trivial)) ?_)
 have e : Bg B a = (0, 0, false) := by
  clear s0
  simp only [Ea] at h1 h2
  unfold Bg; rw [if_pos (by omega)]
 rw [e]
 have dh2 := of_decide_eq_false h2
 refine A6 h2 ?_
 have w3 := Dw B a
 refine Gp (by omega) (by omega) fun _ => Fq (c := su (Ax B a)) rfl (K4 (by omega) (by omega) (AhZ 256 rfl (by decide) (by omega) (by omega) (Bq (by omega) (by omega) ?_)))
 have w4 := Dw B (a + 1)
 refine Gp (by omega) (by omega) fun _ => Fq (c := su (Ax B (a + 1))) rfl (K4 (by omega) (by omega) (An6 (Vg 8 _ _ (by omega) (by omega) (by omega) (by omega) (by omega) (by omega)) (Bq (by omega) (by omega) (Al (Bj s0 rfl (Yn .nil) (Yo trivial)) ?_))))
 have e : Bg B a = ((((Ax B a) * 256) + (Ax B (a + 1))), (a + 2), true) := by
  clear s0
  simp only [Ea] at h1 h2
  unfold Bg; rw [if_neg (by omega)]
 rw [e]
theorem Q3 (n : Nat) (hn : 1048576 < n) (B : ByteArray) (a : Int) (hB : B.size ≤ 1099511627776) (ha : -1152921504606846976 ≤ a ∧ a ≤ 1152921504606846976) : Cb E0 (n + 1) 110 88 [Ae B, .sc (.int .i64 a)] = some (.tup [.sc (.int .i64 (Bg B a).1), .sc (.int .i64 (Bg B a).2.1), .sc (.bool (Bg B a).2.2)]) := by
 rw [At, Anq, f88]
 refine B8 (G := (· = some (.tup [.sc (.int .i64 (Bg B a).1), .sc (.int .i64 (Bg B a).2.1), .sc (.bool (Bg B a).2.2)]))) ?_
 try simp only [Fa, E9]
 have s0 : Sep [] [] := B4
 refine Dq (Ac ((decide (a < 0))) (fun h1 => ?_) fun h1 => ?_)
 have dh1 := of_decide_eq_true h1
 refine Am h1 (Am h1 (Am h1 (Am h1 (Am h1 (D7 h1 (Au rfl (Al (Bj s0 rfl (Yn .nil) (Yo trivial)) ?_)))))))
 have e : Bg B a = (0, 0, false) := by
  clear s0
  simp only [Ea] at h1
  unfold Bg; rw [if_pos (by omega)]
 rw [e]
 have dh1 := of_decide_eq_false h1
 refine Ao h1 (Ao h1 (Ao h1 (Dd (Ao h1 (Px (by omega) (by omega) (Ao h1 (D5 (D3 h1 (Ac ((decide ((((B.size : Nat) : Int) - 2) < a))) (fun h2 => ?_) fun h2 => ?_)))))))))
 have dh2 := of_decide_eq_true h2
 refine Au h2 (Al (Bj s0 rfl (Yn .nil) (Yo trivial)) ?_)
 have e : Bg B a = (0, 0, false) := by
  clear s0
  simp only [Ea] at h1 h2
  unfold Bg; rw [if_pos (by omega)]
 rw [e]
 have dh2 := of_decide_eq_false h2
 refine A6 h2 ?_
 have w3 := Dw B a
 refine Gp (by omega) (by omega) fun _ => Fq (c := su (Ax B a)) rfl (K4 (by omega) (by omega) (Sd (by omega) (by omega) (Bq (by omega) (by omega) ?_)))
 have w4 := Dw B (a + 1)
 refine Gp (by omega) (by omega) fun _ => Fq (c := su (Ax B (a + 1))) rfl (K4 (by omega) (by omega) (Bq (by omega) (by omega) (Bq (by omega) (by omega) (Al (Bj s0 rfl (Yn .nil) (Yo trivial)) ?_))))
 have e : Bg B a = ((((Ax B a) * 256) + (Ax B (a + 1))), (a + 2), true) := by
  clear s0
  simp only [Ea] at h1 h2
  unfold Bg; rw [if_neg (by omega)]
 rw [e]
theorem AkC (n : Nat) (hn : 1048576 < n) (B : ByteArray) (a : Int) (hB : B.size ≤ 1099511627776) (ha : -1152921504606846976 ≤ a ∧ a ≤ 1152921504606846976) : Cb E0 (n + 5) 131 146 [Ae B, .sc (.int .i64 a)] = some (.tup [Ae (A8 B a).1, .sc (.int .i64 (A8 B a).2.1), .sc (.bool (A8 B a).2.2)]) := by
 rw [At, AjP, f146]
 refine B8 (G := (· = some (.tup [Ae (A8 B a).1, .sc (.int .i64 (A8 B a).2.1), .sc (.bool (A8 B a).2.2)]))) ?_
 try simp only [Fa, E9]
 have s0 : Sep [] [] := B4
 obtain ⟨wq1, yq1, oq1, q1⟩ : ∃ w y o, Bg B a = (w, y, o) := ⟨_, _, _, rfl⟩
 have bq1 := F2 q1
 refine Do s0 rfl (.cons .ro (.cons .sc .nil)) (by have h := AdE (n + 3) (by omega) B a (by omega) (by omega); rw [q1] at h; exact h) rfl (A1 (A1 (A1 C2))) ?_
 rintro _ _ H ⟨_, rfl, ⟨_, rfl, ⟨_, rfl, ⟨rfl, rfl⟩⟩⟩⟩ s2
 simp only [zai] at s2
 refine A9 (v := si wq1) rfl (A9 (v := si yq1) rfl (A9 (v := sb oq1) rfl (Cv (Ac (oq1) (fun h3 => ?_) fun h3 => ?_))))
 refine Ao (nF h3) (Ao (nF h3) (D5 (D3 (nF h3) (Ac ((decide (60 < wq1))) (fun h4 => ?_) fun h4 => ?_))))
 have dh4 := of_decide_eq_true h4
 refine Am h4 (Am h4 (Am h4 (Am h4 (Am h4 (Am h4 (D7 h4 (Au rfl (Al (Bj s2 rfl (.nl (.sc (.sc .nil))) ⟨A3, (E8 trivial)⟩) ?_))))))))
 have e : A8 B a = (bs0, 0, false) := by
  clear s0 s2
  simp only [Ea] at h4
  unfold A8; rw [q1]; show (if oq1 = false ∨ 60 < wq1 ∨ ((B.size : Nat) : Int) - yq1 < wq1 then _ else _) = _; rw [if_pos (by exact Or.inr (Or.inl (by assumption)))]
 rw [e]
 rfl
 have dh4 := of_decide_eq_false h4
 refine Ao h4 (Ao h4 (Ao h4 (Dd (Ao h4 (Ao h4 (Px (by omega) (by omega) (Ao h4 (D5 (D3 h4 (Ac ((decide ((((B.size : Nat) : Int) - yq1) < wq1))) (fun h5 => ?_) fun h5 => ?_))))))))))
 have dh5 := of_decide_eq_true h5
 refine Au h5 (Al (Bj s2 rfl (.nl (.sc (.sc .nil))) ⟨A3, (E8 trivial)⟩) ?_)
 have e : A8 B a = (bs0, 0, false) := by
  clear s0 s2
  simp only [Ea] at h4 h5
  unfold A8; rw [q1]; show (if oq1 = false ∨ 60 < wq1 ∨ ((B.size : Nat) : Int) - yq1 < wq1 then _ else _) = _; rw [if_pos (by exact Or.inr (Or.inr (by assumption)))]
 rw [e]
 rfl
 have dh5 := of_decide_eq_false h5
 refine A6 h5 (Bq (by omega) (by omega) (F7 yq1 (yq1 + wq1) rfl rfl (by omega) (by omega) (by omega) ?_))
 have z6 := zap (a := B) (b := yq1.toNat) (e := (yq1 + wq1).toNat)
 refine Aw (cs := [Ae (B.extract yq1.toNat (yq1 + wq1).toNat)]) rfl (Bt s2 fun i7 H s8 => Bo s8 rfl (.sl (.here) rfl (.cons .ro .nil) .nil) (Ko n (by omega) (B.extract yq1.toNat (yq1 + wq1).toNat) (by omega)) (Ca (B.extract yq1.toNat (yq1 + wq1).toNat)) fun x9 H lx9 s10 => Bq (by omega) (by omega) (Al (Bj s10 rfl (.own (.here) (.sc (.sc .nil))) ⟨(Bh (Ca (B.extract yq1.toNat (yq1 + wq1).toNat)) (by decide)), (E8 trivial)⟩) ?_))
 have e : A8 B a = ((B.extract yq1.toNat (yq1 + wq1).toNat), (yq1 + wq1), true) := by
  clear s0 s2 s8 s10
  simp only [Ea] at h4 h5
  unfold A8; rw [q1]; show (if oq1 = false ∨ 60 < wq1 ∨ ((B.size : Nat) : Int) - yq1 < wq1 then _ else _) = _; rw [if_neg (by rintro (k | k | k) <;> first | omega | (simp_all; done))]
 rw [e]
 refine Am (nT h3) (Am (nT h3) (D7 (nT h3) (Am rfl (Am rfl (Am rfl (Am rfl (Am rfl (Am rfl (D7 rfl (Au rfl (Al (Bj s2 rfl (.nl (.sc (.sc .nil))) ⟨A3, (E8 trivial)⟩) ?_)))))))))))
 have e : A8 B a = (bs0, 0, false) := by
  clear s0 s2
  unfold A8; rw [q1]; show (if oq1 = false ∨ 60 < wq1 ∨ ((B.size : Nat) : Int) - yq1 < wq1 then _ else _) = _; rw [if_pos (by exact Or.inl (by assumption))]
 rw [e]
 rfl
theorem Q2 (n : Nat) (hn : 1048576 < n) (B : ByteArray) (a : Int) (hB : B.size ≤ 1099511627776) (ha : -1152921504606846976 ≤ a ∧ a ≤ 1152921504606846976) : Cb E0 (n + 2) 131 126 [Ae B, .sc (.int .i64 a)] = some (.tup [Ae (A8 B a).1, .sc (.int .i64 (A8 B a).2.1), .sc (.bool (A8 B a).2.2)]) := by
 rw [At, Aj9, f126]
 refine B8 (G := (· = some (.tup [Ae (A8 B a).1, .sc (.int .i64 (A8 B a).2.1), .sc (.bool (A8 B a).2.2)]))) ?_
 try simp only [Fa, E9]
 have s0 : Sep [] [] := B4
 obtain ⟨wq1, yq1, oq1, q1⟩ : ∃ w y o, Bg B a = (w, y, o) := ⟨_, _, _, rfl⟩
 have bq1 := F2 q1
 refine Do s0 rfl (.cons .ro (.cons .sc .nil)) (by have h := Q3 n (by omega) B a (by omega) (by omega); rw [q1] at h; exact h) rfl (A1 (A1 (A1 C2))) ?_
 rintro _ _ H ⟨_, rfl, ⟨_, rfl, ⟨_, rfl, ⟨rfl, rfl⟩⟩⟩⟩ s2
 simp only [zai] at s2
 refine A9 (v := si wq1) rfl (A9 (v := si yq1) rfl (A9 (v := sb oq1) rfl (Cv (Ac (oq1) (fun h3 => ?_) fun h3 => ?_))))
 refine Ao (nF h3) (Ao (nF h3) (D5 (D3 (nF h3) (Ac ((decide (60 < wq1))) (fun h4 => ?_) fun h4 => ?_))))
 have dh4 := of_decide_eq_true h4
 refine Am h4 (Am h4 (Am h4 (Am h4 (Am h4 (Am h4 (D7 h4 (Au rfl (Al (Bj s2 rfl (.nl (.sc (.sc .nil))) ⟨A3, (E8 trivial)⟩) ?_))))))))
 have e : A8 B a = (bs0, 0, false) := by
  clear s0 s2
  simp only [Ea] at h4
  unfold A8; rw [q1]; show (if oq1 = false ∨ 60 < wq1 ∨ ((B.size : Nat) : Int) - yq1 < wq1 then _ else _) = _; rw [if_pos (by exact Or.inr (Or.inl (by assumption)))]
 rw [e]
 rfl
 have dh4 := of_decide_eq_false h4
 refine Ao h4 (Ao h4 (Ao h4 (Dd (Ao h4 (Ao h4 (Px (by omega) (by omega) (Ao h4 (D5 (D3 h4 (Ac ((decide ((((B.size : Nat) : Int) - yq1) < wq1))) (fun h5 => ?_) fun h5 => ?_))))))))))
 have dh5 := of_decide_eq_true h5
 refine Au h5 (Al (Bj s2 rfl (.nl (.sc (.sc .nil))) ⟨A3, (E8 trivial)⟩) ?_)
 have e : A8 B a = (bs0, 0, false) := by
  clear s0 s2
  simp only [Ea] at h4 h5
  unfold A8; rw [q1]; show (if oq1 = false ∨ 60 < wq1 ∨ ((B.size : Nat) : Int) - yq1 < wq1 then _ else _) = _; rw [if_pos (by exact Or.inr (Or.inr (by assumption)))]
 rw [e]
 rfl
 have dh5 := of_decide_eq_false h5
 refine A6 h5 (Bq (by omega) (by omega) (F7 yq1 (yq1 + wq1) rfl rfl (by omega) (by omega) (by omega) ?_))
 have z6 := zap (a := B) (b := yq1.toNat) (e := (yq1 + wq1).toNat)
 refine Js s2 (by omega) fun x7 H lx7 s8 => Bq (by omega) (by omega) (Al (Bj s8 rfl (.own (.here) (.sc (.sc .nil))) ⟨(Bh (Ca (B.extract yq1.toNat (yq1 + wq1).toNat)) (by decide)), (E8 trivial)⟩) ?_)
 have e : A8 B a = ((B.extract yq1.toNat (yq1 + wq1).toNat), (yq1 + wq1), true) := by
  clear s0 s2 s8
  simp only [Ea] at h4 h5
  unfold A8; rw [q1]; show (if oq1 = false ∨ 60 < wq1 ∨ ((B.size : Nat) : Int) - yq1 < wq1 then _ else _) = _; rw [if_neg (by rintro (k | k | k) <;> first | omega | (simp_all; done))]
 rw [e]
 refine Am (nT h3) (Am (nT h3) (D7 (nT h3) (Am rfl (Am rfl (Am rfl (Am rfl (Am rfl (Am rfl (D7 rfl (Au rfl (Al (Bj s2 rfl (.nl (.sc (.sc .nil))) ⟨A3, (E8 trivial)⟩) ?_)))))))))))
 have e : A8 B a = (bs0, 0, false) := by
  clear s0 s2
  unfold A8; rw [q1]; show (if oq1 = false ∨ 60 < wq1 ∨ ((B.size : Nat) : Int) - yq1 < wq1 then _ else _) = _; rw [if_pos (by exact Or.inl (by assumption))]
 rw [e]
 rfl
theorem Ll (n : Nat) (hn : 1048576 < n) (B : ByteArray) (a : Int) (hB : B.size ≤ 1099511627776) (ha : -1152921504606846976 ≤ a ∧ a ≤ 1152921504606846976) : Cb E0 (n + 5) 108 87 [Ae B, .sc (.int .i64 a)] = some (.tup [.sc (.string (Bn B a).1), .sc (.int .i64 (Bn B a).2.1), .sc (.bool (Bn B a).2.2)]) := by
 rw [At, Anp, f87]
 refine B8 (G := (· = some (.tup [.sc (.string (Bn B a).1), .sc (.int .i64 (Bn B a).2.1), .sc (.bool (Bn B a).2.2)]))) ?_
 try simp only [Fa, E9]
 have s0 : Sep [] [] := B4
 obtain ⟨vq1, yq1, oq1, q1⟩ : ∃ w y o, A8 B a = (w, y, o) := ⟨_, _, _, rfl⟩
 have bq1 := Fe q1
 refine Do s0 rfl (.cons .ro (.cons .sc .nil)) (by have h := Q2 (n + 2) (by omega) B a (by omega) (by omega); rw [q1] at h; exact h) rfl (Hx (ty := 22) rfl (Ca vq1) (A1 (A1 C2))) ?_
 rintro _ _ H ⟨x2, _, _, lx2, rfl, rfl, ⟨_, rfl, ⟨_, rfl, ⟨rfl, rfl⟩⟩⟩⟩ s3
 simp only [zai, zaq] at s3
 refine A9 (v := x2) rfl (A9 (v := si yq1) rfl (A9 (v := sb oq1) rfl (Cv (Ac (oq1) (fun h4 => ?_) fun h4 => ?_))))
 refine Ao (nF h4) (Ao (nF h4) (M8 s3 ⟨_, _, rfl, rfl, rfl, rfl⟩ (.here) (Ao (nF h4) (Bm (v := (.bool (Bv vq1))) s3 rfl (.cons .sc .nil) (N0 n (by omega) _ vq1) (Ao (nF h4) (Cv (D3 (nF h4) (Ac ((Bv vq1)) (fun h5 => ?_) fun h5 => ?_))))))))
 refine A6 (nF h5) (M8 s3 ⟨_, _, rfl, rfl, rfl, rfl⟩ (.here) (Al (Bj s3 rfl (Yn .nil) (Yo trivial)) ?_))
 have e : Bn B a = (vq1, yq1, true) := by
  unfold Bn; rw [q1]; simp only [h4, h5, za2, za6, za4, zaL, if_true, if_false, zaa]
 rw [e]
 refine Au (nT h5) (Al (Bj s3 rfl (Yn .nil) (Yo trivial)) ?_)
 have e : Bn B a = (⟨#[]⟩, 0, false) := by
  unfold Bn; rw [q1]; simp only [h4, h5, za2, za6, za4, zaL, if_true, if_false, zaa]
 rw [e]
 refine Am (nT h4) (Am (nT h4) (Am (nT h4) (Am (nT h4) (D7 (nT h4) (Au rfl (Al (Bj s3 rfl (Yn .nil) (Yo trivial)) ?_))))))
 have e : Bn B a = (⟨#[]⟩, 0, false) := by
  unfold Bn; rw [q1]; simp only [h4, za2, za6, za4, zaL, if_true, if_false, zaa]
 rw [e]
theorem Ze (n : Nat) (hn : 1048576 < n) (B : ByteArray) (a : Int) (hB : B.size ≤ 1099511627776) (ha : 0 ≤ a) : ∀ (f m : Nat) (i z : Int) (H : Ab), f < m → i + f = 4 → 0 ≤ i → a + i ≤ ((B.size : Nat) : Int) → Gd (· = some (.tup [.sc (.int .i64 (De B a f i z).1), .sc (.int .i64 (De B a f i z).2.1), .sc (.int .i64 (De B a f i z).2.2)])) (Rj (PR (n + 1) AV) (n + 1) (fun x H => A4 Ak E0.tp 85 H x) m (Ae B) (.sc (.int .i64 a)) (.sc (.int .i64 z)) (.sc (.int .i64 i)) H)
 | 0, m + 1, i, z, H, hm, hi, h0, hs => by
  have s0 : Sep H [] := B4
  rw [Rj]
  try simp only [Fa, E9]
  have hk : decide (i < 4) = false := by simp; omega
  refine Dq (A6 hk (Al (Bj s0 rfl (Yn .nil) (Yo trivial)) ?_))
  have e : De B a 0 i z = (0, 0, 2) := by
   rw [De]
  rw [e]
 | f + 1, m + 1, i, z, H, hm, hi, h0, hs => by
  have s0 : Sep H [] := B4
  rw [Rj]
  try simp only [Fa, E9]
  have hk : decide (i < 4) = true := by simp; omega
  refine Dq (Au hk (Bq (by omega) (by omega) (Dd (Ce (Ac ((decide ((a + i) = ((B.size : Nat) : Int)))) (fun h1 => ?_) fun h1 => ?_)))))
  have dh1 := of_decide_eq_true h1
  refine Au h1 (Al (Bj s0 rfl (Yn .nil) (Yo trivial)) ?_)
  have e : De B a (f + 1) i z = (0, 0, 1) := by
   clear s0
   rw [De]
   (repeat' split) <;> first | rfl | (exfalso; omega)
  rw [e]
  have dh1 := of_decide_eq_false h1
  refine A6 h1 (Bq (by omega) (by omega) ?_)
  have w2 := Dw B (a + i)
  refine Gp (by omega) (by omega) fun _ => Fq (c := .sc (.int .u8 (Ax B (a + i)))) rfl (K4 (by omega) (by omega) (Gn rfl (Sd (by omega) (by omega) (AhZ (2 ^ (7 * i).toNat) rfl (by omega) (by have h := X8 (x := (bits .and .i64 (Ax B (a + i)) 127)) (i := i) (by rw [Pg (by omega) (by omega)]; omega) (by omega); omega) (by have h := X8 (x := (bits .and .i64 (Ax B (a + i)) 127)) (i := i) (by rw [Pg (by omega) (by omega)]; omega) (by omega); omega) (An6 rfl (D5 (Ac ((decide (127 < (Ax B (a + i))))) (fun h3 => ?_) fun h3 => ?_)))))))
  have dh3 := of_decide_eq_true h3
  refine Au h3 (Bq (by omega) (by omega) ?_)
  have e : De B a (f + 1) i z = De B a f (i + 1) (bits .or .i64 z ((bits .and .i64 (Ax B (a + i)) 127) * 2 ^ (7 * i).toNat)) := by
   rw [De, if_neg (by omega), if_neg (by omega)]
  rw [e]
  exact Ze n hn B a hB ha f m _ _ _ (by omega) (by omega) (by omega) (by omega)
  have dh3 := of_decide_eq_false h3
  refine A6 h3 (D5 (Ac ((decide (0 < i))) (fun h4 => ?_) fun h4 => ?_))
  have dh4 := of_decide_eq_true h4
  refine Ao h4 (Ao h4 (Ce (D7 h4 (Ac ((decide ((Ax B (a + i)) = 0))) (fun h5 => ?_) fun h5 => ?_))))
  have dh5 := of_decide_eq_true h5
  refine Au h5 (Al (Bj s0 rfl (Yn .nil) (Yo trivial)) ?_)
  have e : De B a (f + 1) i z = (0, 0, 2) := by
   clear s0
   rw [De]
   (repeat' split) <;> first | rfl | (exfalso; omega)
  rw [e]
  have dh5 := of_decide_eq_false h5
  refine A6 h5 (Bq (by omega) (by omega) (Bq (by omega) (by omega) (Al (Bj s0 rfl (Yn .nil) (Yo trivial)) ?_)))
  have e : De B a (f + 1) i z = ((bits .or .i64 z ((bits .and .i64 (Ax B (a + i)) 127) * 2 ^ (7 * i).toNat)), ((a + i) + 1), 0) := by
   clear s0
   rw [De]
   (repeat' split) <;> first | rfl | (exfalso; omega)
  rw [e]
  have dh4 := of_decide_eq_false h4
  refine Am h4 (Am h4 (D3 h4 (A6 rfl (Bq (by omega) (by omega) (Bq (by omega) (by omega) (Al (Bj s0 rfl (Yn .nil) (Yo trivial)) ?_))))))
  have e : De B a (f + 1) i z = ((bits .or .i64 z ((bits .and .i64 (Ax B (a + i)) 127) * 2 ^ (7 * i).toNat)), ((a + i) + 1), 0) := by
   clear s0
   rw [De]
   (repeat' split) <;> first | rfl | (exfalso; omega)
  rw [e]
theorem AkD (n : Nat) (hn : 1048576 < n) (B : ByteArray) (a : Int) (hB : B.size ≤ 1099511627776) (ha : -1152921504606846976 ≤ a ∧ a ≤ 1152921504606846976) : Cb E0 (n + 2) 85 68 [Ae B, .sc (.int .i64 a)] = some (.tup [.sc (.int .i64 (B6 B a).1), .sc (.int .i64 (B6 B a).2.1), .sc (.int .i64 (B6 B a).2.2)]) := by
 rw [At, And, f68]
 refine B8 (G := (· = some (.tup [.sc (.int .i64 (B6 B a).1), .sc (.int .i64 (B6 B a).2.1), .sc (.int .i64 (B6 B a).2.2)]))) ?_
 try simp only [Fa, E9]
 have s0 : Sep [] [] := B4
 refine Dd (Bm (v := (.bool (Eg a 0 ((B.size : Nat) : Int)))) s0 rfl (vS3 .nil) (Lq n _ a 0 ((B.size : Nat) : Int)) (Cv (Ac ((Eg a 0 ((B.size : Nat) : Int))) (fun h1 => ?_) fun h1 => ?_)))
 refine A6 (nF h1) ?_
 have e : B6 B a = De B a 4 0 0 := by
  clear s0
  simp only [Eg, zag, decide_eq_true_eq] at h1; unfold B6; rw [if_neg (by omega)]
 rw [e]
 have hv := h1; simp only [Eg, zag, decide_eq_true_eq] at hv; exact Ze n hn B a hB (by omega) 4 _ 0 0 _ (by omega) (by omega) (by omega) (by omega)
 refine Au (nT h1) (Al (Bj s0 rfl (Yn .nil) (Yo trivial)) ?_)
 have e : B6 B a = (0, 0, 2) := by
  clear s0
  simp only [Eg, Bool.and_eq_false_iff, decide_eq_false_iff_not] at h1; unfold B6; rw [if_pos (by omega)]
 rw [e]
theorem Zx (n : Nat) (hn : 1048576 < n) (B : ByteArray) (a : Int) (hB : B.size ≤ 1099511627776) (ha : 0 ≤ a) : ∀ (f m : Nat) (i z : Int) (H : Ab), f < m → i + f = 4 → 0 ≤ i → a + i ≤ ((B.size : Nat) : Int) → Gd (· = some (.tup [.sc (.int .i64 (De B a f i z).1), .sc (.int .i64 (De B a f i z).2.1), .sc (.int .i64 (De B a f i z).2.2)])) (Rh (PR (n + 1) AV) (n + 1) (fun x H => A4 Ak E0.tp 85 H x) m (Ae B) (.sc (.int .i64 a)) (.sc (.int .i64 z)) (.sc (.int .i64 i)) H)
 | 0, m + 1, i, z, H, hm, hi, h0, hs => by
  have s0 : Sep H [] := B4
  rw [Rh]
  try simp only [Fa, E9]
  have hk : decide (i < 4) = false := by simp; omega
  refine Dq (A6 hk (Al (Bj s0 rfl (Yn .nil) (Yo trivial)) ?_))
  have e : De B a 0 i z = (0, 0, 2) := by
   rw [De]
  rw [e]
 | f + 1, m + 1, i, z, H, hm, hi, h0, hs => by
  have s0 : Sep H [] := B4
  rw [Rh]
  try simp only [Fa, E9]
  have hk : decide (i < 4) = true := by simp; omega
  refine Dq (Au hk (Bq (by omega) (by omega) (Dd (AlV (Ac ((decide (((B.size : Nat) : Int) ≤ (a + i)))) (fun h1 => ?_) fun h1 => ?_)))))
  have dh1 := of_decide_eq_true h1
  refine Au h1 (Al (Bj s0 rfl (Yn .nil) (Yo trivial)) ?_)
  have e : De B a (f + 1) i z = (0, 0, 1) := by
   rw [De]
   (repeat' split) <;> (rfl)
  rw [e]
  have dh1 := of_decide_eq_false h1
  refine A6 h1 (Bq (by omega) (by omega) ?_)
  have w2 := Dw B (a + i)
  refine Gp (by omega) (by omega) fun _ => Fq (c := .sc (.int .u8 (Ax B (a + i)))) rfl (K4 (by omega) (by omega) (Gn rfl (Sd (by omega) (by omega) (AhZ (2 ^ (7 * i).toNat) rfl (by omega) (by have h := X8 (x := (bits .and .i64 (Ax B (a + i)) 127)) (i := i) (by rw [Pg (by omega) (by omega)]; omega) (by omega); omega) (by have h := X8 (x := (bits .and .i64 (Ax B (a + i)) 127)) (i := i) (by rw [Pg (by omega) (by omega)]; omega) (by omega); omega) (An6 rfl (Dq (Ac ((decide ((Ax B (a + i)) < 128))) (fun h3 => ?_) fun h3 => ?_)))))))
  have dh3 := of_decide_eq_true h3
  refine Au h3 (D5 (Ac ((decide (0 < i))) (fun h4 => ?_) fun h4 => ?_))
  have dh4 := of_decide_eq_true h4
  refine Ao h4 (Ao h4 (Ce (D7 h4 (Ac ((decide ((Ax B (a + i)) = 0))) (fun h5 => ?_) fun h5 => ?_))))
  have dh5 := of_decide_eq_true h5
  refine Au h5 (Al (Bj s0 rfl (Yn .nil) (Yo trivial)) ?_)
  have e : De B a (f + 1) i z = (0, 0, 2) := by
   clear s0
   rw [De]
   (repeat' split) <;> first | rfl | (exfalso; omega)
  rw [e]
  have dh5 := of_decide_eq_false h5
  refine A6 h5 (Bq (by omega) (by omega) (Bq (by omega) (by omega) (Al (Bj s0 rfl (Yn .nil) (Yo trivial)) ?_)))
  have e : De B a (f + 1) i z = ((bits .or .i64 z ((bits .and .i64 (Ax B (a + i)) 127) * 2 ^ (7 * i).toNat)), ((a + i) + 1), 0) := by
   clear s0
   rw [De]
   (repeat' split) <;> first | rfl | (exfalso; omega)
  rw [e]
  have dh4 := of_decide_eq_false h4
  refine Am h4 (Am h4 (D3 h4 (A6 rfl (Bq (by omega) (by omega) (Bq (by omega) (by omega) (Al (Bj s0 rfl (Yn .nil) (Yo trivial)) ?_))))))
  have e : De B a (f + 1) i z = ((bits .or .i64 z ((bits .and .i64 (Ax B (a + i)) 127) * 2 ^ (7 * i).toNat)), ((a + i) + 1), 0) := by
   clear s0
   rw [De]
   (repeat' split) <;> first | rfl | (exfalso; omega)
  rw [e]
  have dh3 := of_decide_eq_false h3
  refine A6 h3 (Bq (by omega) (by omega) ?_)
  have e : De B a (f + 1) i z = De B a f (i + 1) (bits .or .i64 z ((bits .and .i64 (Ax B (a + i)) 127) * 2 ^ (7 * i).toNat)) := by
   rw [De, if_neg (by omega), if_neg (by omega)]
  rw [e]
  exact Zx n hn B a hB ha f m _ _ _ (by omega) (by omega) (by omega) (by omega)
theorem Aln (n : Nat) (hn : 1048576 < n) (B : ByteArray) (a : Int) (hB : B.size ≤ 1099511627776) (ha : -1152921504606846976 ≤ a ∧ a ≤ 1152921504606846976) : Cb E0 (n + 2) 85 62 [Ae B, .sc (.int .i64 a)] = some (.tup [.sc (.int .i64 (B6 B a).1), .sc (.int .i64 (B6 B a).2.1), .sc (.int .i64 (B6 B a).2.2)]) := by
 rw [At, AmX, f62]
 refine B8 (G := (· = some (.tup [.sc (.int .i64 (B6 B a).1), .sc (.int .i64 (B6 B a).2.1), .sc (.int .i64 (B6 B a).2.2)]))) ?_
 try simp only [Fa, E9]
 have s0 : Sep [] [] := B4
 refine Dq (Ac ((decide (a < 0))) (fun h1 => ?_) fun h1 => ?_)
 have dh1 := of_decide_eq_true h1
 refine Am h1 (Am h1 (Am h1 (Am h1 (D7 h1 (Au rfl (Al (Bj s0 rfl (Yn .nil) (Yo trivial)) ?_))))))
 have e : B6 B a = (0, 0, 2) := by
  clear s0
  unfold B6; rw [if_pos (by omega)]
 rw [e]
 have dh1 := of_decide_eq_false h1
 refine Ao h1 (Ao h1 (Ao h1 (Dd (Ao h1 (D5 (D3 h1 (Ac ((decide (((B.size : Nat) : Int) < a))) (fun h2 => ?_) fun h2 => ?_)))))))
 have dh2 := of_decide_eq_true h2
 refine Au h2 (Al (Bj s0 rfl (Yn .nil) (Yo trivial)) ?_)
 have e : B6 B a = (0, 0, 2) := by
  clear s0
  unfold B6; rw [if_pos (by omega)]
 rw [e]
 have dh2 := of_decide_eq_false h2
 refine A6 h2 ?_
 have e : B6 B a = De B a 4 0 0 := by
  clear s0
  unfold B6; rw [if_neg (by omega)]
 rw [e]
 exact Zx n hn B a hB (by omega) 4 _ 0 0 _ (by omega) (by omega) (by omega) (by omega)
theorem AcE (n : Nat) (hn : 1048576 < n) (f : Int) (hf : 0 ≤ f ∧ f < 256) : Cb E0 (n + 2) 4 67 [.sc (.int .i64 f)] = some (.sc (.bool (Du f))) := by
 rw [At, Anc, f67]
 refine B8 (G := (· = some (sb (Du f)))) ?_
 try simp only [Fa, E9]
 have s0 : Sep [] [] := B4
 refine Pw (by omega) (by omega) (by decide) (Q8 (v := .sc (.int .i64 (f % 16))) (fun k => by show k (.sc (.int .i64 (Int.tmod (f) 16))) = _; rw [zaC (by omega)]) (Ce (Ac ((decide ((f / 16) = 3))) (fun h1 => ?_) fun h1 => ?_)))
 have dh1 := of_decide_eq_true h1
 refine Au h1 (Ug 2 rfl (by decide) (Gn rfl (My (Ac ((decide ((bits .and .i64 ((f % 16) / 2) 3) = 3))) (fun h2 => ?_) fun h2 => ?_))))
 have dh2 := of_decide_eq_true h2
 refine Am (nF h2) (Am (nF h2) (Am (nF h2) (Hw (Hw (Hw (Am (nF h2) (D3 (nF h2) (Al rfl ?_))))))))
 have e : Du f = false := by
  simp only [Ea] at h1 h2
  (simp only [Du, h1, h2, if_true, if_false, zaa]; rfl)
 rw [e]
 have dh2 := of_decide_eq_false h2
 refine Ao (nT h2) (Ao (nT h2) (D5 (Ao (nT h2) (Ac ((decide (0 < (bits .and .i64 ((f % 16) / 2) 3)))) (fun h3 => ?_) fun h3 => ?_))))
 have dh3 := of_decide_eq_true h3
 refine Am h3 (Am h3 (Am h3 (Ao (nT h2) (D7 h3 (D7 (nT h2) (Al rfl ?_))))))
 have e : Du f = true := by
  simp only [Ea] at h1 h2 h3
  (simp only [Du, h1, h2, h3, if_true, if_false, zaa]; rfl)
 rw [e]
 have dh3 := of_decide_eq_false h3
 refine Ao h3 (Ao h3 (Gn rfl (Ao h3 (Ce (Ao (nT h2) (D3 h3 (D7 (nT h2) (Al rfl ?_))))))))
 have e : Du f = (decide ((bits .and .i64 (f % 16) 8) = 0)) := by
  simp only [Ea] at h1 h2 h3
  (simp only [Du, h1, h2, h3, if_true, if_false, zaa]; rfl)
 rw [e]
 have dh1 := of_decide_eq_false h1
 refine A6 h1 (Ce (D1 (Ac ((decide ((f / 16) = 6))) (fun h4 => ?_) fun h4 => ?_)))
 have dh4 := of_decide_eq_true h4
 refine Au h4 (Au h4 (Ce (Al rfl ?_)))
 have e : Du f = (decide ((f % 16) = 2)) := by
  simp only [Ea] at h1 h4
  (simp only [Du, h1, h4, if_true, if_false, zaa]; rfl)
 rw [e]
 have dh4 := of_decide_eq_false h4
 refine A6 h4 (Ce (Ac ((decide ((f / 16) = 8))) (fun h5 => ?_) fun h5 => ?_))
 have dh5 := of_decide_eq_true h5
 refine Au h5 (Au h5 (Ce (Al rfl ?_)))
 have e : Du f = (decide ((f % 16) = 2)) := by
  simp only [Ea] at h1 h4 h5
  (simp only [Du, h1, h4, h5, if_true, if_false, zaa]; rfl)
 rw [e]
 have dh5 := of_decide_eq_false h5
 refine A6 h5 (Ce (Ac ((decide ((f / 16) = 10))) (fun h6 => ?_) fun h6 => ?_))
 have dh6 := of_decide_eq_true h6
 refine Au h6 (Ce (Al rfl ?_))
 have e : Du f = (decide ((f % 16) = 2)) := by
  simp only [Ea] at h1 h4 h5 h6
  (simp only [Du, h1, h4, h5, h6, if_true, if_false, zaa]; rfl)
 rw [e]
 have dh6 := of_decide_eq_false h6
 refine A6 h6 (Bm (v := (.bool (Eg (f / 16) 1 14))) s0 rfl (vS3 .nil) (Lq n _ (f / 16) 1 14) (Ac ((Eg (f / 16) 1 14)) (fun h7 => ?_) fun h7 => ?_))
 refine Ao h7 (Ao h7 (Ce (D7 h7 (Al rfl ?_))))
 have e : Du f = (decide ((f % 16) = 0)) := by
  simp only [Ea] at h1 h4 h5 h6
  (simp only [Du, h1, h4, h5, h6, h7, if_true, if_false, zaa]; rfl)
 rw [e]
 refine Am h7 (Am h7 (D3 h7 (Al rfl ?_)))
 have e : Du f = false := by
  simp only [Ea] at h1 h4 h5 h6
  (simp only [Du, h1, h4, h5, h6, h7, if_true, if_false, zaa]; rfl)
 rw [e]
theorem AcV (n : Nat) (hn : 1048576 < n) (f : Int) (hf : 0 ≤ f ∧ f < 256) : Cb E0 (n + 1) 4 61 [.sc (.int .i64 f)] = some (.sc (.bool (E6 f))) := by
 rw [At, AmW, f61]
 refine B8 (G := (· = some (sb (E6 f)))) ?_
 try simp only [Fa, E9]
 have s0 : Sep [] [] := B4
 refine Pw (by omega) (by omega) (by decide) (Q8 (v := .sc (.int .i64 (f % 16))) (fun k => by show k (.sc (.int .i64 (Int.tmod (f) 16))) = _; rw [zaC (by omega)]) (Ce (D1 (Ac ((decide ((f / 16) = 0))) (fun h1 => ?_) fun h1 => ?_))))
 have dh1 := of_decide_eq_true h1
 refine Au h1 (Au h1 (Al rfl ?_))
 have e : E6 f = false := by
  simp only [Ea] at h1
  (simp only [E6, h1, if_true, if_false, zaa]; rfl)
 rw [e]
 have dh1 := of_decide_eq_false h1
 refine A6 h1 (Ce (Ac ((decide ((f / 16) = 15))) (fun h2 => ?_) fun h2 => ?_))
 have dh2 := of_decide_eq_true h2
 refine Au h2 (Al rfl ?_)
 have e : E6 f = false := by
  simp only [Ea] at h1 h2
  (simp only [E6, h1, h2, if_true, if_false, zaa]; rfl)
 rw [e]
 have dh2 := of_decide_eq_false h2
 refine A6 h2 (Ce (Ac ((decide ((f / 16) = 3))) (fun h3 => ?_) fun h3 => ?_))
 have dh3 := of_decide_eq_true h3
 refine Au h3 (Pw (by omega) (by omega) (by decide) (Q8 (v := .sc (.int .i64 (((f % 16) / 2) % 4))) (fun k => by show k (.sc (.int .i64 (Int.tmod (((f % 16) / 2)) 4))) = _; rw [zaC (by omega)]) (Dq (Ac ((decide ((((f % 16) / 2) % 4) < 3))) (fun h4 => ?_) fun h4 => ?_))))
 have dh4 := of_decide_eq_true h4
 refine Ao h4 (Ao h4 (D5 (Ao h4 (Ac ((decide (0 < (((f % 16) / 2) % 4)))) (fun h5 => ?_) fun h5 => ?_))))
 have dh5 := of_decide_eq_true h5
 refine Am h5 (Am h5 (Ao h4 (D7 h5 (D7 h4 (Al rfl ?_)))))
 have e : E6 f = true := by
  simp only [Ea] at h1 h2 h3 h4 h5
  (simp only [E6, h1, h2, h3, h4, h5, if_true, if_false, zaa]; rfl)
 rw [e]
 have dh5 := of_decide_eq_false h5
 refine Ao h5 (Ao h5 (Dq (Ao h4 (D3 h5 (D7 h4 (Al rfl ?_))))))
 have e : E6 f = (decide ((f % 16) < 8)) := by
  simp only [Ea] at h1 h2 h3 h4 h5
  (simp only [E6, h1, h2, h3, h4, h5, if_true, if_false, zaa]; rfl)
 rw [e]
 have dh4 := of_decide_eq_false h4
 refine Am h4 (Am h4 (Am h4 (Hw (Hw (Am h4 (D3 h4 (Al rfl ?_)))))))
 have e : E6 f = false := by
  simp only [Ea] at h1 h2 h3 h4
  (simp only [E6, h1, h2, h3, h4, if_true, if_false, zaa]; rfl)
 rw [e]
 have dh3 := of_decide_eq_false h3
 refine A6 h3 (Ce (D1 (Ac ((decide ((f / 16) = 6))) (fun h6 => ?_) fun h6 => ?_)))
 have dh6 := of_decide_eq_true h6
 refine Au h6 (Au h6 (Ce (Al rfl ?_)))
 have e : E6 f = (decide ((f % 16) = 2)) := by
  simp only [Ea] at h1 h2 h3 h6
  (simp only [E6, h1, h2, h3, h6, if_true, if_false, zaa]; rfl)
 rw [e]
 have dh6 := of_decide_eq_false h6
 refine A6 h6 (Ce (Ac ((decide ((f / 16) = 8))) (fun h7 => ?_) fun h7 => ?_))
 have dh7 := of_decide_eq_true h7
 refine Au h7 (Au h7 (Ce (Al rfl ?_)))
 have e : E6 f = (decide ((f % 16) = 2)) := by
  simp only [Ea] at h1 h2 h3 h6 h7
  (simp only [E6, h1, h2, h3, h6, h7, if_true, if_false, zaa]; rfl)
 rw [e]
 have dh7 := of_decide_eq_false h7
 refine A6 h7 (Ce (Ac ((decide ((f / 16) = 10))) (fun h8 => ?_) fun h8 => ?_))
 have dh8 := of_decide_eq_true h8
 refine Au h8 (Ce (Al rfl ?_))
 have e : E6 f = (decide ((f % 16) = 2)) := by
  simp only [Ea] at h1 h2 h3 h6 h7 h8
  (simp only [E6, h1, h2, h3, h6, h7, h8, if_true, if_false, zaa]; rfl)
 rw [e]
 have dh8 := of_decide_eq_false h8
 refine A6 h8 (Ce (Al rfl ?_))
 have e : E6 f = (decide ((f % 16) = 0)) := by
  simp only [Ea] at h1 h2 h3 h6 h7 h8
  (simp only [E6, h1, h2, h3, h6, h7, h8, if_true, if_false, zaa]; rfl)
 rw [e]
end
end Go.Proofs.YtlcpigdmekgajaaGreatDoor.Abs
