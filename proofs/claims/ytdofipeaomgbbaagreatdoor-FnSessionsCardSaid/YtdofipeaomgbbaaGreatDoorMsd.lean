/- What the proof needs, part 4: a sound evaluator over trees, the program's functions on it, and what they come to. -/
import Derived.Test.YtdofipeaomgbbaaGreatDoorMsc
set_option linter.unusedVariables false
set_option linter.unusedSimpArgs false
set_option maxRecDepth 100000
namespace Go.Proofs.YtdofipeaomgbbaaGreatDoor.Abs
open _root_.Option renaming bind_eq_some_iff → zaa, bind_some → zab, getD_some → za5
open _root_.List renaming getElem?_eq_some_iff → zac, replicate → zad, length_append → zae, getElem?_append_right → zaf, getElem?_append_left → zag, nil_append → zah, append_assoc → zaj, length_singleton → zal, append_nil → zam, length_cons → zao, mem_append_right → zaq, length_nil → zat, mem_append_left → zau, mem_cons_of_mem → zaw, cons_append → zax, mem_cons → zay, map_cons → za0, flatten_append → za1, take_length → za3, getElem?_set_ne → za4, mem_cons_self → za6, drop_zero → za7, map_append → za8, replicate_append_replicate → zaA, mem_append → zaB, flatten_cons → zaD, all_eq_true → zaF, nodup_cons → zaG, length_drop → zaH, nodup_append → zaI, mem_range'_1 → zaJ, length_take → zaK, nodup_range' → zaP, take_append_drop → zaR, range' → zaV, drop_of_length_le → zaW, getElem?_set_self → zaX, all_cons → zaY, drop_drop → zbb, length_set → zbf, take_of_length_le → zbh, any_cons → zbt, map_nil → zbv, length_map → zb0, Perm → zb1, nodup_nil → zb3, headD_cons → zb9, drop_left' → zbA, tail_cons → zbC, take_zero → zbF
open _root_.Nat renaming le_refl → zai, le_trans → zar, zero_add → zav, sub_self → zaL, add_assoc → zaO, min_eq_left → zaQ, add_mul → zaU, add_zero → zaZ, mul_le_mul_right → zbd, zero_le → zbm, one_mul → zbw, add_comm → zbD, succ_mul → zbG
open _root_.Bool renaming false_eq_true → zan, eq_iff_iff → zaM, false_or → zbp
open _root_.Int renaming natCast_zero → zbg, toNat_natCast → zbi
section
open Go
theorem Aek {s : ByteArray} (h : s.size ≤ 1048576) : Iq s := zar h (by decide)
theorem Zr (n : Nat) (hn : 1048576 < n) (ty : Nat) (s : ByteArray) (hs : s.size ≤ 1048576) : C1 E0 (n + 5) ty 92 [.sc (.string s)] = some (.sc (.bool (Fb s))) := by
 rw [A6, Aid, f92]
 try simp only [C4, Cj, Br, A5, Bf, Ba, Db, Da, Ea, A0, Bs, Pr.gT, Pr.gF, Pr.hT, Pr.hF, Pr.kT, Pr.kF, B7, Bw, C2, Bx, Du, Cw, Cc, Bh, Bj, Dn, Cp, Di, Dh]
 refine Dr rfl (Bl (Cu _ _) Ds) (Uj (n + 0) (by omega) _ s) ?_
 apply A8 ((D9 s) && (!(s.toList == (⟨#[]⟩ : ByteArray).toList)))
 intro b1 q1
 refine Ah ((D9 s)) (fun h1 => ?_) fun h1 => ?_
 exact As h1 (As h1 (A2 (v := sb (!(s.toList == (⟨#[]⟩ : ByteArray).toList))) (fun k => rfl) (Ch h1 (Hs q1 h1) rfl)))
 exact Av h1 (Av h1 (Cg h1 (Hr q1 h1) rfl))
 intro b1 q1
 apply A8 (b1 && (!(O0 s 43)))
 intro b2 q2
 refine Ah (b1) (fun h2 => ?_) fun h2 => ?_
 exact As h2 (As h2 (Dr rfl (Bl (Cu _ _) (Bl (Cu _ _) Ds)) (AjC (n + 3) (by omega) _ s hs) (As h2 (Gw (Ch h2 (Hs q2 h2) rfl)))))
 exact Av h2 (Av h2 (Av h2 (Cg h2 (Hr q2 h2) rfl)))
 intro b2 q2
 apply A8 (b2 && (!(O0 s 35)))
 intro b3 q3
 refine Ah (b2) (fun h3 => ?_) fun h3 => ?_
 exact As h3 (As h3 (Dr rfl (Bl (Cu _ _) (Bl (Cu _ _) Ds)) (AjB (n + 3) (by omega) _ s hs) (As h3 (Gw (Ch h3 (Hs q3 h3) rfl)))))
 exact Av h3 (Av h3 (Av h3 (Cg h3 (Hr q3 h3) rfl)))
 intro b3 q3
 apply A8 (b3 && (decide (((Ed s).length : Int) ≤ 6)))
 intro b4 q4
 refine Ah (b3) (fun h4 => ?_) fun h4 => ?_
 exact As h4 (As h4 (Aav rfl (Bl (Cu _ _) Ds) (Xi (n + 3) (by omega) s hs) fun N5 X5 z5 => As h4 (AeC (As h4 (A2 (v := sb (decide (((Ed s).length : Int) ≤ 6))) (fun k => rfl) (Ch h4 (Hs q4 h4) rfl))))))
 exact Av h4 (Av h4 (Av h4 (Av h4 (Cg h4 (Hr q4 h4) rfl))))
 intro b4 q4
 exact AeB (by subst_vars; unfold Fb; first | rfl | (unfold vPH; cases D9 s <;> cases O0 s 43 <;> cases O0 s 35 <;> simp))
theorem Y5 (n : Nat) (hn : 1048576 < n) (ty : Nat) (s : ByteArray) (hs : s.size ≤ 1048576) : C1 E0 (n + 5) ty 57 [.sc (.string s)] = some (.sc (.bool (Fb s))) := by
 rw [A6, AhF, f57]
 try simp only [C4, Cj, Br, A5, Bf, Ba, Db, Da, Ea, A0, Bs, Pr.gT, Pr.gF, Pr.hT, Pr.hF, Pr.kT, Pr.kF, B7, Bw, C2, Bx, Du, Cw, Cc, Bh, Bj, Dn, Cp, Di, Dh]
 refine Zc rfl (Bl (Cu _ _) Ds) (Ts _ s (Aek hs)) ?_
 apply A8 ((D9 s) && (!(s.toList == (⟨#[]⟩ : ByteArray).toList)))
 intro b1 q1
 refine Ah ((D9 s)) (fun h1 => ?_) fun h1 => ?_
 exact As h1 (As h1 (A2 (v := sb (!(s.toList == (⟨#[]⟩ : ByteArray).toList))) (fun k => rfl) (Ch h1 (Hs q1 h1) rfl)))
 exact Av h1 (Av h1 (Cg h1 (Hr q1 h1) rfl))
 intro b1 q1
 apply A8 (b1 && (!(vPH s)))
 intro b2 q2
 refine Ah (b1) (fun h2 => ?_) fun h2 => ?_
 exact As h2 (As h2 (Zc rfl (Bl (Cu _ _) (Bl (Cu _ _) Ds)) (AaL _ s hs) (As h2 (Gw (Ch h2 (Hs q2 h2) rfl)))))
 exact Av h2 (Av h2 (Av h2 (Cg h2 (Hr q2 h2) rfl)))
 intro b2 q2
 apply A8 (b2 && (decide (((Ed s).length : Int) ≤ 6)))
 intro b3 q3
 refine Ah (b2) (fun h3 => ?_) fun h3 => ?_
 exact As h3 (As h3 (Aav rfl (Bl (Cu _ _) Ds) (Wj (n + 3) s hs) fun N4 X4 z4 => As h3 (AeC (As h3 (A2 (v := sb (decide (((Ed s).length : Int) ≤ 6))) (fun k => rfl) (Ch h3 (Hs q3 h3) rfl))))))
 exact Av h3 (Av h3 (Av h3 (Av h3 (Cg h3 (Hr q3 h3) rfl))))
 intro b3 q3
 exact AeB (by subst_vars; unfold Fb; first | rfl | (unfold vPH; cases D9 s <;> cases O0 s 43 <;> cases O0 s 35 <;> simp))
def Dl (m : Cz) : Bool := Fb m.fTopic && decide ((m.fBody.size : Int) ≤ 40) && Ga m.fQos 0 2
theorem Aio (n : Nat) (ty : Nat) (x : Int) : C1 E0 (n + 2) ty 56 [.sc (.int .i64 x)] = some (.sc (.bool (Ga x 0 2))) := by
 rw [A6, AhE, f56]
 try simp only [C4, Cj, Br, A5, Bf, Ba, Db, Da, Ea, A0, Bs, Pr.gT, Pr.gF, Pr.hT, Pr.hF, Pr.kT, Pr.kF, B7, Bw, C2, Bx, Du, Cw, Cc, Bh, Bj, Dn, Cp, Di, Dh]
 exact Dr rfl (Bl (Cu _ _) (Bl (Cu _ _) (Bl (Cu _ _) Ds))) (O4 (n + 0) _ x 0 2) (Dv (by first | (simp_all [Ga, Fb, Dl]; done) | (rw [zaM]; simp [Ga, Fb, Dl] at *; omega)))
theorem Sn (n : Nat) (hn : 1048576 < n) (ty : Nat) (m : Cz) (hs : m.fTopic.size ≤ 1048576) : C1 E0 (n + 6) ty 51 [.agg (Ao m)] = some (.sc (.bool (Dl m))) := by
 rw [A6, AhB, f51]
 try simp only [C4, Cj, Br, A5, Bf, Ba, Db, Da, Ea, A0, Bs, Pr.gT, Pr.gF, Pr.hT, Pr.hF, Pr.kT, Pr.kF, B7, Bw, C2, Bx, Du, Cw, Cc, Bh, Bj, Dn, Cp, Di, Dh]
 refine Lr (Gb _) fun iB1 eB1 B1 => Ak (B3 (c := ss m.fTopic) B1 (Bb rfl) rfl (Dr rfl (Bl (Cu _ _) Ds) (Zr (n + 0) (by omega) _ m.fTopic (by assumption)) ?_))
 apply A8 ((Fb m.fTopic) && (decide ((m.fBody.size : Int) ≤ 40)))
 intro b2 q2
 refine Ah ((Fb m.fTopic)) (fun h2 => ?_) fun h2 => ?_
 exact As h2 (Ak (As h2 (B3 (c := Bt m.fBody) B1 (Bb rfl) rfl (As h2 (Do (As h2 (A2 (v := sb (decide ((m.fBody.size : Int) ≤ 40))) (fun k => rfl) (Ch h2 (Hs q2 h2) rfl))))))))
 exact Av h2 (Av h2 (Av h2 (Av h2 (Cg h2 (Hr q2 h2) rfl))))
 intro b2 q2
 apply A8 (b2 && (Ga m.fQos 0 2))
 intro b3 q3
 refine Ah (b2) (fun h3 => ?_) fun h3 => ?_
 exact As h3 (Ak (As h3 (B3 (c := si m.fQos) B1 (Bb rfl) rfl (As h3 (Dr rfl (Bl (Cu _ _) (Bl (Cu _ _) (Bl (Cu _ _) Ds))) (Ma (n + 4) _ m.fQos 0 2) (Ch h3 (Hs q3 h3) rfl))))))
 exact Av h3 (Av h3 (Av h3 (Cg h3 (Hr q3 h3) rfl)))
 intro b3 q3
 exact Dv (by subst_vars; first | rfl | (simp only [Dl]; done) | (simp only [Dl]; ac_rfl))
theorem Wk (n : Nat) (hn : 1048576 < n) (ty : Nat) (m : Cz) (hs : m.fTopic.size ≤ 1048576) : C1 E0 (n + 6) ty 46 [.agg (Ao m)] = some (.sc (.bool (Dl m))) := by
 rw [A6, Ah6, f46]
 try simp only [C4, Cj, Br, A5, Bf, Ba, Db, Da, Ea, A0, Bs, Pr.gT, Pr.gF, Pr.hT, Pr.hF, Pr.kT, Pr.kF, B7, Bw, C2, Bx, Du, Cw, Cc, Bh, Bj, Dn, Cp, Di, Dh]
 refine Lr (Gb _) fun iB1 eB1 B1 => Ak (B3 (c := ss m.fTopic) B1 (Bb rfl) rfl (Dr rfl (Bl (Cu _ _) Ds) (Y5 (n + 0) (by omega) _ m.fTopic (by assumption)) ?_))
 apply A8 ((Fb m.fTopic) && (decide ((m.fBody.size : Int) ≤ 40)))
 intro b2 q2
 refine Ah ((Fb m.fTopic)) (fun h2 => ?_) fun h2 => ?_
 exact As h2 (Ak (As h2 (B3 (c := Bt m.fBody) B1 (Bb rfl) rfl (As h2 (Do (As h2 (A2 (v := sb (decide ((m.fBody.size : Int) ≤ 40))) (fun k => rfl) (Ch h2 (Hs q2 h2) rfl))))))))
 exact Av h2 (Av h2 (Av h2 (Av h2 (Cg h2 (Hr q2 h2) rfl))))
 intro b2 q2
 apply A8 (b2 && (Ga m.fQos 0 2))
 intro b3 q3
 refine Ah (b2) (fun h3 => ?_) fun h3 => ?_
 exact As h3 (Ak (As h3 (B3 (c := si m.fQos) B1 (Bb rfl) rfl (As h3 (Dr rfl (Bl (Cu _ _) Ds) (Aio (n + 3) _ m.fQos) (Ch h3 (Hs q3 h3) rfl))))))
 exact Av h3 (Av h3 (Av h3 (Cg h3 (Hr q3 h3) rfl)))
 intro b3 q3
 exact Dv (by subst_vars; first | rfl | (simp only [Dl]; done) | (simp only [Dl]; ac_rfl))
def Et (l : List Cz) : Bool := l.all Dl && decide ((l.length : Int) ≤ 6)
theorem Xu {α : Type} (p : α → Bool) (e : Bool) (go : List α → List α → Bool) (h0 : ∀ pre, go pre [] = e) (h1 : ∀ pre x r, go pre (x :: r) = (p x && go (pre ++ [x]) r)) : ∀ (r pre : List α), go pre r = (r.all p && e)
 | [], pre => by rw [h0]; simp
 | x :: r, pre => by rw [h1, Xu p e go h0 h1 r, zaY, Bool.and_assoc]
def U8 (l : List Cz) : List Cz → List Cz → Bool
 | pre, [] => decide ((l.length : Int) ≤ 6)
 | pre, x :: r => Dl x && U8 l (pre ++ [x]) r
theorem Sp (n : Nat) (hn : 1048576 < n) (ty : Nat) (l : List Cz) (hlen : l.length ≤ 1048576) (hsl : ∀ x ∈ l, x.fTopic.size ≤ 1048576) : ∀ (r pre : List Cz) (m : Nat) (H : Ab), l = pre ++ r → r.length < m → Rb (PR (n + 6) AV) (n + 6) (fun x H => A4 Aq E0.tp ty H x) m (Am Ao l) (.sc (.int .i64 pre.length)) H = some (.sc (.bool (U8 l pre r)))
 | [], pre, m + 1, H, hl, hm => by
  have hlt : decide ((pre.length : Int) < (l.length : Int)) = false := by
   rw [hl]
   simp
  show (PR (n + 6) AV).len _ _ = _
  simp only [C4, Cj, Br, A5, Bf, Ba, Db, Da, Ea, A0, Bs, Pr.gT, Pr.gF, Pr.hT, Pr.hF, Pr.kT, Pr.kF, B7, Bw, C2, Bx, Du, Cw, Cc, Bh, Bj, Dn, Cp, Di, Dh]
  exact Do (A2 (v := .sc (.bool (decide ((pre.length : Int) < (l.length : Int))))) (fun k => rfl) (Fc hlt (Do (A2 (v := .sc (.bool (decide ((l.length : Int) ≤ 6)))) (fun k => rfl) (Dv (by first | (subst_vars; simp only [U8]; simp_all; done) | (subst_vars; unfold U8; simp_all)))))))
 | x :: r, pre, m + 1, H, hl, hm => by
  have hpl : pre.length < l.length := by rw [hl]; simp
  have hlt : decide ((pre.length : Int) < (l.length : Int)) = true := by simpa using hpl
  have hmem : x ∈ l := by rw [hl]; simp
  have hix : IntKind.i64.wrap ((pre.length : Int) + 1) = (((pre ++ [x]).length : Nat) : Int) := by
   rw [Fd _ (by omega) (by omega), zae, zal]
   rfl
  try have hs : x.fTopic.size ≤ 1048576 := hsl x (by assumption)
  show (PR (n + 6) AV).len _ _ = _
  simp only [C4, Cj, Br, A5, Bf, Ba, Db, Da, Ea, A0, Bs, Pr.gT, Pr.gF, Pr.hT, Pr.hF, Pr.kT, Pr.kF, B7, Bw, C2, Bx, Du, Cw, Cc, Bh, Bj, Dn, Cp, Di, Dh]
  refine Do (A2 (v := sb (decide ((pre.length : Int) < (l.length : Int)))) (fun k => rfl) (E2 hlt (Hd Eg (by decide) hl (Jv (ds := Ao x) (Bb rfl) rfl (Dr rfl (Bl (Fo _ (Gb _)) Ds) (Sn (n + 0) (by omega) _ x (by assumption)) (Gw (Ah ((Dl x)) (fun h1 => ?_) fun h1 => ?_)))))))
  ·refine Fc (nF h1) (A2 (v := si (IntKind.i64.wrap ((pre.length : Int) + 1))) (fun k => rfl) ?_)
   rw [hix]
   refine (Sp n hn ty l hlen hsl r (pre ++ [x]) m _  (by rw [hl]; simp) (by simpa using hm)).trans (congrArg (fun b => some (AV.sc (Value.bool b))) ?_)
   first | (subst_vars; simp only [U8]; simp_all; done) | (subst_vars; unfold U8; simp_all)
  ·exact E2 (nT h1) (Dv (by first | (subst_vars; simp only [U8]; simp_all; done) | (subst_vars; unfold U8; simp_all)))
def U7 : List Cz → List Cz → Bool
 | pre, [] => true
 | pre, x :: r => Dl x && U7 (pre ++ [x]) r
theorem Rl (n : Nat) (hn : 1048576 < n) (ty : Nat) (l : List Cz) (hlen : l.length ≤ 1048576) (hsl : ∀ x ∈ l, x.fTopic.size ≤ 1048576) : ∀ (r pre : List Cz) (m : Nat) (H : Ab), l = pre ++ r → r.length < m → Rf (PR (n + 6) AV) (n + 6) (fun x H => A4 Aq E0.tp ty H x) m (Am Ao l) (.sc (.int .i64 (l.length : Int))) (.sc (.int .i64 pre.length)) H = some (.sc (.bool (U7 pre r)))
 | [], pre, m + 1, H, hl, hm => by
  have hlt : decide ((pre.length : Int) < (l.length : Int)) = false := by
   rw [hl]
   simp
  show (PR (n + 6) AV).bin _ _ _ _ = _
  simp only [C4, Cj, Br, A5, Bf, Ba, Db, Da, Ea, A0, Bs, Pr.gT, Pr.gF, Pr.hT, Pr.hF, Pr.kT, Pr.kF, B7, Bw, C2, Bx, Du, Cw, Cc, Bh, Bj, Dn, Cp, Di, Dh]
  exact A2 (v := .sc (.bool (decide ((pre.length : Int) < (l.length : Int))))) (fun k => rfl) (Fc hlt (Dv (by first | (subst_vars; simp only [U7]; simp_all; done) | (subst_vars; unfold U7; simp_all))))
 | x :: r, pre, m + 1, H, hl, hm => by
  have hpl : pre.length < l.length := by rw [hl]; simp
  have hlt : decide ((pre.length : Int) < (l.length : Int)) = true := by simpa using hpl
  have hmem : x ∈ l := by rw [hl]; simp
  have hix : IntKind.i64.wrap ((pre.length : Int) + 1) = (((pre ++ [x]).length : Nat) : Int) := by
   rw [Fd _ (by omega) (by omega), zae, zal]
   rfl
  try have hs : x.fTopic.size ≤ 1048576 := hsl x (by assumption)
  show (PR (n + 6) AV).bin _ _ _ _ = _
  simp only [C4, Cj, Br, A5, Bf, Ba, Db, Da, Ea, A0, Bs, Pr.gT, Pr.gF, Pr.hT, Pr.hF, Pr.kT, Pr.kF, B7, Bw, C2, Bx, Du, Cw, Cc, Bh, Bj, Dn, Cp, Di, Dh]
  refine A2 (v := sb (decide ((pre.length : Int) < (l.length : Int)))) (fun k => rfl) (E2 hlt (Hd Eg (by decide) hl (Jv (ds := Ao x) (Bb rfl) rfl (Ve rfl (Eg _) (Nz (Gb _)) fun iB1 B1 => F1 (ds := Ao x) B1 (Bb rfl) rfl (Dr rfl (Bl (Fo _ (Gb _)) Ds) (Wk (n + 0) (by omega) _ x (by assumption)) (Gw (Ah ((Dl x)) (fun h2 => ?_) fun h2 => ?_)))))))
  ·refine Fc (nF h2) (A2 (v := si (IntKind.i64.wrap ((pre.length : Int) + 1))) (fun k => rfl) ?_)
   rw [hix]
   refine (Rl n hn ty l hlen hsl r (pre ++ [x]) m _  (by rw [hl]; simp) (by simpa using hm)).trans (congrArg (fun b => some (AV.sc (Value.bool b))) ?_)
   first | (subst_vars; simp only [U7]; simp_all; done) | (subst_vars; unfold U7; simp_all)
  ·exact E2 (nT h2) (Dv (by first | (subst_vars; simp only [U7]; simp_all; done) | (subst_vars; unfold U7; simp_all)))
theorem Sq (n : Nat) (hn : 1048576 < n) (ty : Nat) (l : List Cz) (hlen : l.length ≤ 1048576) (hsl : ∀ x ∈ l, x.fTopic.size ≤ 1048576) : C1 E0 (n + 7) ty 53 [Am Ao l] = some (.sc (.bool (Et l))) := by
 rw [A6, AhD, f53]
 have key := Sp n hn ty l hlen hsl l [] (n + 6) [] rfl (by omega)
 rw [Xu Dl (decide ((l.length : Int) ≤ 6)) (U8 l) (fun _ => rfl) (fun _ _ _ => rfl) l []] at key
 exact key
theorem AbF (n : Nat) (hn : 1048576 < n) (ty : Nat) (l : List Cz) (hlen : l.length ≤ 1048576) (hsl : ∀ x ∈ l, x.fTopic.size ≤ 1048576) : C1 E0 (n + 7) ty 91 [Am Ao l] = some (.sc (.bool (l.all Dl))) := by
 rw [A6, Aic, f91]
 simp only [Bw]
 refine Do ?_
 have key := Rl n hn ty l hlen hsl l [] (n + 6) [] rfl (by omega)
 rw [Xu Dl true U7 (fun _ => rfl) (fun _ _ _ => rfl) l [], Bool.and_true] at key
 exact key
theorem Y4 (n : Nat) (hn : 1048576 < n) (ty : Nat) (l : List Cz) (hlen : l.length ≤ 1048576) (hsl : ∀ x ∈ l, x.fTopic.size ≤ 1048576) : C1 E0 (n + 8) ty 49 [Am Ao l] = some (.sc (.bool (Et l))) := by
 rw [A6, Ah9, f49]
 try simp only [C4, Cj, Br, A5, Bf, Ba, Db, Da, Ea, A0, Bs, Pr.gT, Pr.gF, Pr.hT, Pr.hF, Pr.kT, Pr.kF, B7, Bw, C2, Bx, Du, Cw, Cc, Bh, Bj, Dn, Cp, Di, Dh]
 refine Do (A2 (v := sb (decide ((l.length : Int) ≤ 6))) (fun k => rfl) ?_)
 apply A8 ((decide ((l.length : Int) ≤ 6)) && (l.all Dl))
 intro b1 q1
 refine Ah ((decide ((l.length : Int) ≤ 6))) (fun h1 => ?_) fun h1 => ?_
 exact As h1 (As h1 (Dr rfl (Bl (Gk _ _ _) Ds) (AbF (n + 0) (by omega) _ l (by assumption) (by assumption)) (Ch h1 (Hs q1 h1) rfl)))
 exact Av h1 (Av h1 (Cg h1 (Hr q1 h1) rfl))
 intro b1 q1
 exact Dv (by subst_vars; unfold Et; rw [Bool.and_comm])
theorem Ue (l : List Cz) (b0 : Ft B4 l ≤ 1048576) : l.length ≤ 1048576 ∧ ∀ x ∈ l, x.fTopic.size ≤ 1048576 := by
 have h1 := Kl B4 l
 refine ⟨by omega, fun x hx => ?_⟩
 have h2 := O5 (wt := B4) hx
 have h3 : B4 x = x.fTopic.size + (x.fBody.size + 0) := rfl
 omega
def Xr (x : Aj) : Bool := if x.fM.fQos == 1 then x.fSt == 1 else (x.fM.fQos == 2 && (x.fSt == 2 || x.fSt == 3))
theorem Aip (n : Nat) (ty : Nat) (x : Aj) : C1 E0 (n + 1) ty 52 [.agg (Ar x)] = some (.sc (.bool (Xr x))) := by
 rw [A6, AhC, f52]
 try simp only [C4, Cj, Br, A5, Bf, Ba, Db, Da, Ea, A0, Bs, Pr.gT, Pr.gF, Pr.hT, Pr.hF, Pr.kT, Pr.kF, B7, Bw, C2, Bx, Du, Cw, Cc, Bh, Bj, Dn, Cp, Di, Dh]
 refine Lr (E6 _) fun iB1 eB1 B1 => Ak (Ak (B3 (c := si x.fM.fQos) B1 (Bb rfl) rfl (A2 (v := sb (x.fM.fQos == 1)) (fun k => rfl) (Ah ((x.fM.fQos == 1)) (fun h2 => ?_) fun h2 => ?_))))
 exact E2 h2 (Ak (B3 (c := .sc (.int .i64 x.fSt)) B1 (Bb rfl) rfl (A2 (v := .sc (.bool (x.fSt == 1))) (fun k => rfl) (Dv (by subst_vars; unfold Xr; simp_all)))))
 refine Fc h2 (Ak (Ak (B3 (c := si x.fM.fQos) B1 (Bb rfl) rfl (A2 (v := sb (x.fM.fQos == 2)) (fun k => rfl) ?_))))
 apply A8 ((x.fM.fQos == 2) && ((x.fSt == 2) || (x.fSt == 3)))
 intro b3 q3
 refine Ah ((x.fM.fQos == 2)) (fun h3 => ?_) fun h3 => ?_
 refine As h3 (Ak (As h3 (B3 (c := si x.fSt) B1 (Bb rfl) rfl (As h3 (A2 (v := sb (x.fSt == 2)) (fun k => rfl) (As h3 ?_))))))
 apply A8 ((x.fSt == 2) || (x.fSt == 3))
 intro b4 q4
 refine Ah ((x.fSt == 2)) (fun h4 => ?_) fun h4 => ?_
 exact C8 h4 (C8 h4 (C8 h4 (As h3 (Ch h4 (mOT q4 h4) rfl))))
 exact Cy h4 (Ak (Cy h4 (B3 (c := si x.fSt) B1 (Bb rfl) rfl (Cy h4 (A2 (v := sb (x.fSt == 3)) (fun k => rfl) (As h3 (Cg h4 (mOF q4 h4) rfl)))))))
 intro b4 q4
 exact Ch h3 (by subst q4; exact Hs q3 h3) rfl
 exact Av h3 (Av h3 (Av h3 (Av h3 (Pz (Pz (Pz (Av h3 (Cg h3 (Hr q3 h3) rfl))))))))
 intro b3 q3
 exact Dv (by subst_vars; unfold Xr; simp_all)
theorem AgK (n : Nat) (ty : Nat) (x : Int) : C1 E0 (n + 2) ty 44 [.sc (.int .i64 x)] = some (.sc (.bool (Ga x 1 65535))) := by
 rw [A6, Ah4, f44]
 try simp only [C4, Cj, Br, A5, Bf, Ba, Db, Da, Ea, A0, Bs, Pr.gT, Pr.gF, Pr.hT, Pr.hF, Pr.kT, Pr.kF, B7, Bw, C2, Bx, Du, Cw, Cc, Bh, Bj, Dn, Cp, Di, Dh]
 exact Dr rfl (Bl (Cu _ _) (Bl (Cu _ _) (Bl (Cu _ _) Ds))) (O4 (n + 0) _ x 1 65535) (Dv (by first | (simp_all [Ga, Fb, Dl, Et, Xr]; done) | (rw [zaM]; simp [Ga, Fb, Dl, Et, Xr] at *; omega)))
theorem AfM (n : Nat) (ty : Nat) (x : Int) : C1 E0 (n + 2) ty 48 [.sc (.int .i64 x)] = some (.sc (.bool (Ga x 0 65535))) := by
 rw [A6, Ah8, f48]
 try simp only [C4, Cj, Br, A5, Bf, Ba, Db, Da, Ea, A0, Bs, Pr.gT, Pr.gF, Pr.hT, Pr.hF, Pr.kT, Pr.kF, B7, Bw, C2, Bx, Du, Cw, Cc, Bh, Bj, Dn, Cp, Di, Dh]
 exact Dr rfl (Bl (Cu _ _) (Bl (Cu _ _) (Bl (Cu _ _) Ds))) (O4 (n + 0) _ x 0 65535) (Dv (by first | (simp_all [Ga, Fb, Dl, Et, Xr]; done) | (rw [zaM]; simp [Ga, Fb, Dl, Et, Xr] at *; omega)))
def I6 (pre : List Aj) (x : Aj) : Bool := pre.any fun y => y.fId == x.fId
def AdJ : List Aj → List Aj → Bool
 | pre, [] => true
 | pre, x :: r => (Ga x.fId 1 65535 && Dl x.fM && Xr x && !(I6 pre x)) && AdJ (pre ++ [x]) r
def Gs (o : Bv) : Bool := AdJ [] o.fFl && (Ga o.fLast 0 65535 && decide ((o.fFl.length : Int) ≤ 3) && Et o.fQ)
theorem U2 (o : Bv) (b0 : Eu o ≤ 1048576) : (o.fFl.length ≤ 1048576 ∧ ∀ x ∈ o.fFl, x.fM.fTopic.size ≤ 1048576) ∧ (o.fQ.length ≤ 1048576 ∧ ∀ x ∈ o.fQ, x.fTopic.size ≤ 1048576) := by
 have e : Eu o = Ft A1 o.fFl + (Ft B4 o.fQ + 0) := rfl
 refine ⟨?_, Ue _ (by omega)⟩
 have h1 := Kl A1 o.fFl
 refine ⟨by omega, fun x hx => ?_⟩
 have h2 := O5 (wt := A1) hx
 have h3 : A1 x = x.fM.fTopic.size + (x.fM.fBody.size + 0) + 0 := rfl
 omega
theorem Ui (n : Nat) (ty : Nat) (o : Bv) (hlen : o.fFl.length ≤ 1048576) (x : Aj) (g0 : AV → AV → Ab → Option AV) (kk : AV → Ab → Option AV) (i1 : Nat) (H : Ab) (B : H[i1]? = some ⟨A9 o, true, true⟩) (pre r : List Aj) (hl : o.fFl = pre ++ x :: r) : ∀ (s p2 : List Aj) (m : Nat), pre = p2 ++ s → s.length < m →
  Q8 (PR n AV) n g0 kk m (.ptr i1 0) (si pre.length) (si p2.length) H = if I6 s x then kk bF H else g0 (.ptr i1 0) (si (IntKind.i64.wrap ((pre.length : Int) + 1))) H
 | [], p2, m + 1, he, hm => by
  rw [zam] at he
  subst he
  show (PR n AV).bin _ _ _ _ = _
  simp only [Ba, A0, Br, A5, Bx]
  rw [Ej, Ef, if_neg (by simp)]
  rfl
 | y :: s, p2, m + 1, he, hm => by
  have hlt : p2.length < pre.length := by rw [he]; simp
  have hpl : pre.length < o.fFl.length := by rw [hl]; simp
  show (PR n AV).bin _ _ _ _ = _
  simp only [Ba, A0, Br, A5, Bx]
  rw [Ej, Ef, if_pos (by simpa using hlt)]
  refine Ak (B3 (c := Am Ar o.fFl) B (Bb rfl) rfl (Hd (pre := p2) (x := y) (t := s ++ x :: r) Bm (by decide) (by rw [hl, he]; simp) (Hp (He (c := .sc (.int .i64 y.fId)) rfl (Ak (B3 (c := Am Ar o.fFl) B (Bb rfl) rfl (Hd (pre := pre) (x := x) (t := r) Bm (by decide) hl (Hp (He (c := .sc (.int .i64 x.fId)) rfl (A2 (v := .sc (.bool (y.fId == x.fId))) (fun k => rfl) ?_))))))))))
  have ih := Ui n ty o hlen x g0 kk i1 H B pre r hl s (p2 ++ [y]) m (by rw [he]; simp) (by simpa using hm)
  rw [zae, zal] at ih
  have hany : I6 (y :: s) x = (y.fId == x.fId || I6 s x) := rfl
  rw [hany]
  cases hid : (y.fId == x.fId)
  refine Fc rfl ?_
  rw [Ff _ _ (by omega), ih]
  rfl
  exact E2 rfl rfl
theorem Aar (p : Aj → Bool) : ∀ (pre r : List Aj) (x : Aj) (i : Nat), p x = true → I7 p (pre ++ x :: r) i = if pre.any p then I7 p pre i else ((i + pre.length : Nat) : Int)
 | [], r, x, i, h => by simp [I7, h]
 | y :: pre, r, x, i, h => by
  rw [zax, I7, Aar p pre r x (i + 1) h, I7, zbt]
  cases hy : p y
  simp only [zan, if_false, zbp, zao]
  rw [show i + 1 + pre.length = i + (pre.length + 1) by omega]
  simp
theorem AdQ (p : Aj → Bool) : ∀ (pre : List Aj) (i : Nat), pre.any p = true → I7 p pre i < ((i + pre.length : Nat) : Int)
 | [], i, h => by simp at h
 | y :: pre, i, h => by
  rw [I7]
  cases hy : p y
  rw [zbt, hy, zbp] at h
  have := AdQ p pre (i + 1) h
  simp only [zan, if_false, zao]
  omega
  simp only [if_true, zao]
  omega
theorem AdR (o : Bv) (pre r : List Aj) (x : Aj) (hl : o.fFl = pre ++ x :: r) : (I7 (fun y : Aj => y.fId == x.fId) o.fFl 0 != (pre.length : Int)) = I6 pre x := by
 rw [hl, Aar _ pre r x 0 (by simp)]
 unfold I6
 cases h : pre.any fun y => y.fId == x.fId
 simp
 have := AdQ _ pre 0 h
 simp only [if_true]
 rw [bne_iff_ne.2]
 simp at this
 omega
theorem AbC (n : Nat) (ty : Nat) (x : Aj) (z : Int) : C1 E0 (n + 1) ty 90 [.agg (Ar x), .rp [.sc (.int .i64 z)]] = some (.sc (.bool (x.fId == z))) := by
 rw [A6, Aib, f90]
 simp only [C4, Br, A5, Ba]
 refine Lr (E6 _) fun i e hi => Ak (B3 (c := si x.fId) hi (Bb rfl) rfl (He (c := si z) rfl ?_))
 rw [Acq]
 rfl
theorem U3 (n : Nat) (hn : 1048576 < n) (ty : Nat) (l : List Aj) (z : Int) (hl : l.length ≤ 1048576) : C1 E0 (n + 2) ty 89 [Am Ar l, .fn 90 [] [.rp [.sc (.int .i64 z)]]] = some (.sc (.int .i64 (I7 (fun y : Aj => y.fId == z) l 0))) := by
 rw [A6, Aia, f89]
 simp only [Bw]
 rw [Y9]
 have key := Rm (n := n + 1) (tb := 4) (g := 90) (caps := [.rp [si z]]) Ar (fun y : Aj => y.fId == z) (fun x H => A4 Aq E0.tp ty H x) Bm (by decide) E6 rfl (fun H => rfl) (fun m a b c i H => Re (PR (n + 1) AV) (n + 1) (fun x H => A4 Aq E0.tp ty H x) m a b c i H) (fun m a b c i H => rfl) l (fun x _ => AbC n _ x z) hl [] l [] (n + 1) rfl (by omega)
 simp only [zat, zbg] at key
 rw [key]
 rfl
theorem AbB (n : Nat) (hn : 1048576 < n) (ty : Nat) (l : List Aj) (z : Int) (hl : l.length ≤ 1048576) : C1 E0 (n + 3) ty 45 [Am Ar l, .sc (.int .i64 z)] = some (.sc (.int .i64 (I7 (fun y : Aj => y.fId == z) l 0))) := by
 rw [A6, Ah5, f45]
 simp only [C4]
 refine Ai5 rfl fun i2 e2 hi2 => Dr rfl (Bl (Gk _ _ _) (Bl (AgX hi2 rfl) Ds)) (U3 n hn _ l z hl) ?_
 rfl
theorem Agr (x : Aj) (hv : Dl x.fM = true) : Xr x = !((x.fM.fQos == 0) || (!((x.fM.fQos == 1) == (x.fSt == 1)) || !(Ga x.fSt 1 3))) := by
 have hq : 0 ≤ x.fM.fQos ∧ x.fM.fQos ≤ 2 := by
  unfold Dl Ga at hv
  simp at hv
  exact hv.2
 unfold Xr Ga
 obtain h | h | h : x.fM.fQos = 0 ∨ x.fM.fQos = 1 ∨ x.fM.fQos = 2 := by omega
 simp [h]
 rw [h, zaM]
 simp
 intro h1
 omega
 rw [h, zaM]
 simp
 omega
def N7 (o : Bv) : List Aj → List Aj → Bool
 | pre, [] => Ga o.fLast 0 65535 && decide ((o.fFl.length : Int) ≤ 3) && Et o.fQ
 | pre, x :: r => (Ga x.fId 1 65535 && Dl x.fM && Xr x && !(I6 pre x)) && N7 o (pre ++ [x]) r
theorem Qh (n : Nat) (hn : 1048576 < n) (ty : Nat) (o : Bv) (hlen : o.fFl.length ≤ 1048576) (hsl : ∀ x ∈ o.fFl, x.fM.fTopic.size ≤ 1048576) (hqn : o.fQ.length ≤ 1048576) (hqs : ∀ x ∈ o.fQ, x.fTopic.size ≤ 1048576) (i1 : Nat) : ∀ (r pre : List Aj) (m : Nat) (H : Ab) (B : H[i1]? = some ⟨A9 o, true, true⟩), o.fFl = pre ++ r → r.length < m → Nh (PR (n + 8) AV) (n + 8) (fun x H => A4 Aq E0.tp ty H x) m (.ptr i1 0) (.sc (.int .i64 pre.length)) H = some (.sc (.bool (N7 o pre r)))
 | [], pre, m + 1, H, B, hl, hm => by
  have hlt : decide ((pre.length : Int) < (o.fFl.length : Int)) = false := by
   rw [hl]
   simp
  show (PR (n + 8) AV).fadr _ _ _ = _
  simp only [C4, Cj, Br, A5, Bf, Ba, Db, Da, Ea, A0, Bs, Pr.gT, Pr.gF, Pr.hT, Pr.hF, Pr.kT, Pr.kF, B7, Bw, C2, Bx, Du, Cw, Cc, Bh, Bj, Dn, Cp, Di, Dh]
  refine Ak (B3 (c := Am Ar o.fFl) B (Bb rfl) rfl (Do (A2 (v := sb (decide ((pre.length : Int) < (o.fFl.length : Int)))) (fun k => rfl) (Fc hlt (Ak (B3 (c := si o.fLast) B (Bb rfl) rfl (Dr rfl (Bl (Cu _ _) (Bl (Cu _ _) (Bl (Cu _ _) Ds))) (Ma (n + 7) _ o.fLast 0 65535) ?_)))))))
  apply A8 ((Ga o.fLast 0 65535) && (decide ((o.fFl.length : Int) ≤ 3)))
  intro b1 q1
  refine Ah ((Ga o.fLast 0 65535)) (fun h1 => ?_) fun h1 => ?_
  exact As h1 (Ak (As h1 (B3 (c := Am Ar o.fFl) B (Bb rfl) rfl (As h1 (Do (As h1 (A2 (v := sb (decide ((o.fFl.length : Int) ≤ 3))) (fun k => rfl) (Ch h1 (Hs q1 h1) rfl))))))))
  exact Av h1 (Av h1 (Av h1 (Av h1 (Cg h1 (Hr q1 h1) rfl))))
  intro b1 q1
  apply A8 (b1 && (Et o.fQ))
  intro b2 q2
  refine Ah (b1) (fun h2 => ?_) fun h2 => ?_
  exact As h2 (Ak (As h2 (B3 (c := Am Ao o.fQ) B (Bb rfl) rfl (As h2 (Dr rfl (Bl (Gk _ _ _) Ds) (Sq (n + 1) (by omega) _ o.fQ (by assumption) (by assumption)) (Ch h2 (Hs q2 h2) rfl))))))
  exact Av h2 (Av h2 (Av h2 (Cg h2 (Hr q2 h2) rfl)))
  intro b2 q2
  exact Dv (by (try clear ih); (try clear hlt); (try clear hix); (try clear hm); (try clear hmem); (try clear hpl); (try clear hsl); (try clear hlen); (try clear hqn); (try clear hqs); (try clear hs); (try clear B); (try clear B1); (try clear B2); (try clear hl); subst_vars; rw [N7]; first | done | (cases h1 : Ga x.fId 1 65535 <;> cases h2 : Dl x.fM <;> cases h3 : Xr x <;> cases h4 : I6 pre x <;> simp [h1, h2, h3, h4] at *))
 | x :: r, pre, m + 1, H, B, hl, hm => by
  have hpl : pre.length < o.fFl.length := by rw [hl]; simp
  have hlt : decide ((pre.length : Int) < (o.fFl.length : Int)) = true := by simpa using hpl
  have hmem : x ∈ o.fFl := by rw [hl]; simp
  have hix : IntKind.i64.wrap ((pre.length : Int) + 1) = (((pre ++ [x]).length : Nat) : Int) := by
   rw [Fd _ (by omega) (by omega), zae, zal]
   rfl
  try have hs : x.fM.fTopic.size ≤ 1048576 := hsl x (by assumption)
  show (PR (n + 8) AV).fadr _ _ _ = _
  simp only [C4, Cj, Br, A5, Bf, Ba, Db, Da, Ea, A0, Bs, Pr.gT, Pr.gF, Pr.hT, Pr.hF, Pr.kT, Pr.kF, B7, Bw, C2, Bx, Du, Cw, Cc, Bh, Bj, Dn, Cp, Di, Dh]
  refine Ak (B3 (c := Am Ar o.fFl) B (Bb rfl) rfl (Do (A2 (v := sb (decide ((pre.length : Int) < (o.fFl.length : Int)))) (fun k => rfl) (E2 hlt (Ak (B3 (c := Am Ar o.fFl) B (Bb rfl) rfl (Hd Bm (by decide) hl (Hp (He (c := si x.fId) rfl (Dr rfl (Bl (Cu _ _) (Bl (Cu _ _) (Bl (Cu _ _) Ds))) (Ma (n + 7) _ x.fId 1 65535) (Gw ?_)))))))))))
  apply A8 ((!(Ga x.fId 1 65535)) || (!(Dl x.fM)))
  intro b1 q1
  refine Ah ((Ga x.fId 1 65535)) (fun h1 => ?_) fun h1 => ?_
  exact Cy (nF h1) (Ak (Cy (nF h1) (B3 (c := Am Ar o.fFl) B (Bb rfl) rfl (Cy (nF h1) (Cy (nF h1) (Hd Bm (by decide) hl (Cy (nF h1) (Hp (Cy (nF h1) (Jv (ds := Ao x.fM) (Bb rfl) rfl (Cy (nF h1) (Dr rfl (Bl (Fo _ (Gb _)) Ds) (Sn (n + 2) (by omega) _ x.fM (by assumption)) (Cy (nF h1) (Gw (Cg (nF h1) (mOF q1 (nF h1)) rfl)))))))))))))))
  exact C8 (nT h1) (C8 (nT h1) (C8 (nT h1) (C8 (nT h1) (C8 (nT h1) (C8 (nT h1) (C8 (nT h1) (C8 (nT h1) (Ch (nT h1) (mOT q1 (nT h1)) rfl))))))))
  intro b1 q1
  apply A8 (b1 || (!(Xr x)))
  intro b2 q2
  refine Ah (b1) (fun h2 => ?_) fun h2 => ?_
  exact C8 h2 (C8 h2 (C8 h2 (C8 h2 (C8 h2 (C8 h2 (C8 h2 (Ch h2 (mOT q2 h2) rfl)))))))
  exact Cy h2 (Ak (Cy h2 (B3 (c := Am Ar o.fFl) B (Bb rfl) rfl (Cy h2 (Cy h2 (Hd Bm (by decide) hl (Cy h2 (Jv (ds := Ar x) (Bb rfl) rfl (Cy h2 (Dr rfl (Bl (Fo _ (E6 _)) Ds) (Aip (n + 7) _ x) (Cy h2 (Gw (Cg h2 (mOF q2 h2) rfl)))))))))))))
  intro b2 q2
  refine Ah (b2) (fun h3 => ?_) fun h3 => ?_
  ·exact E2 h3 (Dv (by (try clear ih); (try clear hlt); (try clear hix); (try clear hm); (try clear hmem); (try clear hpl); (try clear hsl); (try clear hlen); (try clear hqn); (try clear hqs); (try clear hs); (try clear B); (try clear B1); (try clear B2); (try clear hl); subst_vars; rw [N7]; first | done | (cases h1 : Ga x.fId 1 65535 <;> cases h2 : Dl x.fM <;> cases h3 : Xr x <;> cases h4 : I6 pre x <;> simp [h1, h2, h3, h4] at *)))
  refine Fc h3 ?_
  have key := fun g0 kk => Ui (n + 8) ty o hlen x g0 kk i1 H B pre r hl pre [] (n + 8) rfl (by omega)
  simp only [zat, zbg] at key
  rw [key]
  clear key
  cases hpre : I6 pre x
  ·simp only [zan, if_false]
   rw [hix]
   refine (Qh n hn ty o hlen hsl hqn hqs i1 r (pre ++ [x]) m _ B (by rw [hl]; simp) (by simpa using hm)).trans (congrArg (fun b => some (AV.sc (Value.bool b))) ?_)
   (try clear ih); (try clear hlt); (try clear hix); (try clear hm); (try clear hmem); (try clear hpl); (try clear hsl); (try clear hlen); (try clear hqn); (try clear hqs); (try clear hs); (try clear B); (try clear B1); (try clear B2); (try clear hl); subst_vars; rw [N7]; first | done | (cases h1 : Ga x.fId 1 65535 <;> cases h2 : Dl x.fM <;> cases h3 : Xr x <;> cases h4 : I6 pre x <;> simp [h1, h2, h3, h4] at *)
  ·simp only [if_true]
   exact Dv (by (try clear ih); (try clear hlt); (try clear hix); (try clear hm); (try clear hmem); (try clear hpl); (try clear hsl); (try clear hlen); (try clear hqn); (try clear hqs); (try clear hs); (try clear B); (try clear B1); (try clear B2); (try clear hl); subst_vars; rw [N7]; first | done | (cases h1 : Ga x.fId 1 65535 <;> cases h2 : Dl x.fM <;> cases h3 : Xr x <;> cases h4 : I6 pre x <;> simp [h1, h2, h3, h4] at *))
theorem P7 (n : Nat) (hn : 1048576 < n) (ty : Nat) (o : Bv) (hlen : o.fFl.length ≤ 1048576) (hsl : ∀ x ∈ o.fFl, x.fM.fTopic.size ≤ 1048576) (hqn : o.fQ.length ≤ 1048576) (hqs : ∀ x ∈ o.fQ, x.fTopic.size ≤ 1048576) (i1 : Nat) : ∀ (r pre : List Aj) (m : Nat) (H : Ab) (B : H[i1]? = some ⟨A9 o, true, true⟩), o.fFl = pre ++ r → r.length < m → Q7 (PR (n + 9) AV) (n + 9) (fun x H => A4 Aq E0.tp ty H x) m (.ptr i1 0) (Am Ar o.fFl) (.sc (.int .i64 (o.fFl.length : Int))) (.sc (.int .i64 pre.length)) H = some (.sc (.bool (N7 o pre r)))
 | [], pre, m + 1, H, B, hl, hm => by
  have hlt : decide ((pre.length : Int) < (o.fFl.length : Int)) = false := by
   rw [hl]
   simp
  show (PR (n + 9) AV).bin _ _ _ _ = _
  simp only [C4, Cj, Br, A5, Bf, Ba, Db, Da, Ea, A0, Bs, Pr.gT, Pr.gF, Pr.hT, Pr.hF, Pr.kT, Pr.kF, B7, Bw, C2, Bx, Du, Cw, Cc, Bh, Bj, Dn, Cp, Di, Dh]
  refine A2 (v := sb (decide ((pre.length : Int) < (o.fFl.length : Int)))) (fun k => rfl) (Fc hlt (Ak (B3 (c := si o.fLast) B (Bb rfl) rfl (Dr rfl (Bl (Cu _ _) Ds) (AfM (n + 7) _ o.fLast) ?_))))
  apply A8 ((Ga o.fLast 0 65535) && (decide ((o.fFl.length : Int) ≤ 3)))
  intro b1 q1
  refine Ah ((Ga o.fLast 0 65535)) (fun h1 => ?_) fun h1 => ?_
  exact As h1 (Ak (As h1 (B3 (c := Am Ar o.fFl) B (Bb rfl) rfl (As h1 (Do (As h1 (A2 (v := sb (decide ((o.fFl.length : Int) ≤ 3))) (fun k => rfl) (Ch h1 (Hs q1 h1) rfl))))))))
  exact Av h1 (Av h1 (Av h1 (Av h1 (Cg h1 (Hr q1 h1) rfl))))
  intro b1 q1
  apply A8 (b1 && (Et o.fQ))
  intro b2 q2
  refine Ah (b1) (fun h2 => ?_) fun h2 => ?_
  exact As h2 (Ak (As h2 (B3 (c := Am Ao o.fQ) B (Bb rfl) rfl (As h2 (Dr rfl (Bl (Gk _ _ _) Ds) (Y4 (n + 1) (by omega) _ o.fQ (by assumption) (by assumption)) (Ch h2 (Hs q2 h2) rfl))))))
  exact Av h2 (Av h2 (Av h2 (Cg h2 (Hr q2 h2) rfl)))
  intro b2 q2
  exact Dv (by (try clear ih); (try clear hlt); (try clear hix); (try clear hm); (try clear hmem); (try clear hpl); (try clear hsl); (try clear hlen); (try clear hqn); (try clear hqs); (try clear hs); (try clear B); (try clear B1); (try clear B2); (try clear hl); subst_vars; rw [N7]; first | done | (cases h2 : Dl x.fM <;> (try rw [Agr x h2]) <;> cases h1 : Ga x.fId 1 65535 <;> cases h4 : I6 pre x <;> cases h5 : (x.fM.fQos == 0) <;> cases h6 : ((x.fM.fQos == 1) == (x.fSt == 1)) <;> cases h7 : Ga x.fSt 1 3 <;> simp [h1, h2, h4, h5, h6, h7] at * <;> contradiction))
 | x :: r, pre, m + 1, H, B, hl, hm => by
  have hpl : pre.length < o.fFl.length := by rw [hl]; simp
  have hlt : decide ((pre.length : Int) < (o.fFl.length : Int)) = true := by simpa using hpl
  have hmem : x ∈ o.fFl := by rw [hl]; simp
  have hix : IntKind.i64.wrap ((pre.length : Int) + 1) = (((pre ++ [x]).length : Nat) : Int) := by
   rw [Fd _ (by omega) (by omega), zae, zal]
   rfl
  try have hs : x.fM.fTopic.size ≤ 1048576 := hsl x (by assumption)
  try have hidx := AdR o pre r x hl
  show (PR (n + 9) AV).bin _ _ _ _ = _
  simp only [C4, Cj, Br, A5, Bf, Ba, Db, Da, Ea, A0, Bs, Pr.gT, Pr.gF, Pr.hT, Pr.hF, Pr.kT, Pr.kF, B7, Bw, C2, Bx, Du, Cw, Cc, Bh, Bj, Dn, Cp, Di, Dh]
  refine A2 (v := sb (decide ((pre.length : Int) < (o.fFl.length : Int)))) (fun k => rfl) (E2 hlt (Hd Bm (by decide) hl (Jv (ds := Ar x) (Bb rfl) rfl (Ve rfl (Bm _) (Nz (E6 _)) fun iB1 B1 => ?_))))
  replace B := Lw B [⟨Ar x, true, true⟩]
  refine Ak (B3 (c := si x.fId) B1 (Bb rfl) rfl (Dr rfl (Bl (Cu _ _) Ds) (AgK (n + 7) _ x.fId) (Gw ?_)))
  apply A8 ((!(Ga x.fId 1 65535)) || ((I7 (fun y : Aj => y.fId == x.fId) o.fFl 0) != (pre.length : Int)))
  intro b2 q2
  refine Ah ((Ga x.fId 1 65535)) (fun h2 => ?_) fun h2 => ?_
  exact Cy (nF h2) (Ak (Cy (nF h2) (B3 (c := Am Ar o.fFl) B (Bb rfl) rfl (Cy (nF h2) (Ak (Cy (nF h2) (B3 (c := si x.fId) B1 (Bb rfl) rfl (Cy (nF h2) (Dr rfl (Bl (Gk _ _ _) (Bl (Cu _ _) Ds)) (AbB (n + 6) (by omega) _ o.fFl x.fId hlen) (Cy (nF h2) (Cy (nF h2) (A2 (v := sb ((I7 (fun y : Aj => y.fId == x.fId) o.fFl 0) != (pre.length : Int))) (fun k => rfl) (Cg (nF h2) (mOF q2 (nF h2)) rfl)))))))))))))
  exact C8 (nT h2) (C8 (nT h2) (C8 (nT h2) (C8 (nT h2) (C8 (nT h2) (C8 (nT h2) (C8 (nT h2) (Ch (nT h2) (mOT q2 (nT h2)) rfl)))))))
  intro b2 q2
  apply A8 (b2 || (!(Dl x.fM)))
  intro b3 q3
  refine Ah (b2) (fun h3 => ?_) fun h3 => ?_
  exact C8 h3 (C8 h3 (C8 h3 (C8 h3 (Ch h3 (mOT q3 h3) rfl))))
  exact Cy h3 (Ak (Cy h3 (F1 (ds := Ao x.fM) B1 (Bb rfl) rfl (Cy h3 (Dr rfl (Bl (Fo _ (Gb _)) Ds) (Wk (n + 3) (by omega) _ x.fM (by assumption)) (Cy h3 (Gw (Cg h3 (mOF q3 h3) rfl))))))))
  intro b3 q3
  refine Ah (b3) (fun h4 => ?_) fun h4 => ?_
  ·exact E2 h4 (Dv (by (try clear ih); (try clear hlt); (try clear hix); (try clear hm); (try clear hmem); (try clear hpl); (try clear hsl); (try clear hlen); (try clear hqn); (try clear hqs); (try clear hs); (try clear B); (try clear B1); (try clear B2); (try clear hl); subst_vars; rw [N7]; first | done | (cases h2 : Dl x.fM <;> (try rw [Agr x h2]) <;> cases h1 : Ga x.fId 1 65535 <;> cases h4 : I6 pre x <;> cases h5 : (x.fM.fQos == 0) <;> cases h6 : ((x.fM.fQos == 1) == (x.fSt == 1)) <;> cases h7 : Ga x.fSt 1 3 <;> simp [h1, h2, h4, h5, h6, h7] at * <;> contradiction)))
  refine Fc h4 (Ak (Ak (B3 (c := si x.fM.fQos) B1 (Bb rfl) rfl (A2 (v := sb (x.fM.fQos == 0)) (fun k => rfl) ?_))))
  apply A8 ((x.fM.fQos == 0) || (!((x.fM.fQos == 1) == (x.fSt == 1))))
  intro b5 q5
  refine Ah ((x.fM.fQos == 0)) (fun h5 => ?_) fun h5 => ?_
  exact C8 h5 (C8 h5 (C8 h5 (C8 h5 (C8 h5 (C8 h5 (C8 h5 (C8 h5 (Ch h5 (mOT q5 h5) rfl))))))))
  exact Cy h5 (Ak (Cy h5 (Ak (Cy h5 (B3 (c := si x.fM.fQos) B1 (Bb rfl) rfl (Cy h5 (A2 (v := sb (x.fM.fQos == 1)) (fun k => rfl) (Cy h5 (Ak (Cy h5 (B3 (c := si x.fSt) B1 (Bb rfl) rfl (Cy h5 (A2 (v := sb (x.fSt == 1)) (fun k => rfl) (Cy h5 (Ln (v := sb (!((x.fM.fQos == 1) == (x.fSt == 1)))) (fun k => rfl) (Cg h5 (mOF q5 h5) rfl))))))))))))))))
  intro b5 q5
  apply A8 (b5 || (!(Ga x.fSt 1 3)))
  intro b6 q6
  refine Ah (b5) (fun h6 => ?_) fun h6 => ?_
  exact C8 h6 (C8 h6 (C8 h6 (C8 h6 (Ch h6 (mOT q6 h6) rfl))))
  exact Cy h6 (Ak (Cy h6 (B3 (c := si x.fSt) B1 (Bb rfl) rfl (Cy h6 (Dr rfl (Bl (Cu _ _) (Bl (Cu _ _) (Bl (Cu _ _) Ds))) (O4 (n + 8) _ x.fSt 1 3) (Cy h6 (Gw (Cg h6 (mOF q6 h6) rfl))))))))
  intro b6 q6
  refine Ah (b6) (fun h7 => ?_) fun h7 => ?_
  ·exact E2 h7 (Dv (by (try clear ih); (try clear hlt); (try clear hix); (try clear hm); (try clear hmem); (try clear hpl); (try clear hsl); (try clear hlen); (try clear hqn); (try clear hqs); (try clear hs); (try clear B); (try clear B1); (try clear B2); (try clear hl); subst_vars; rw [N7]; first | done | (cases h2 : Dl x.fM <;> (try rw [Agr x h2]) <;> cases h1 : Ga x.fId 1 65535 <;> cases h4 : I6 pre x <;> cases h5 : (x.fM.fQos == 0) <;> cases h6 : ((x.fM.fQos == 1) == (x.fSt == 1)) <;> cases h7 : Ga x.fSt 1 3 <;> simp [h1, h2, h4, h5, h6, h7] at * <;> contradiction)))
  ·refine Fc h7 (A2 (v := si (IntKind.i64.wrap ((pre.length : Int) + 1))) (fun k => rfl) ?_)
   rw [hix]
   refine (P7 n hn ty o hlen hsl hqn hqs i1 r (pre ++ [x]) m _ B (by rw [hl]; simp) (by simpa using hm)).trans (congrArg (fun b => some (AV.sc (Value.bool b))) ?_)
   (try clear ih); (try clear hlt); (try clear hix); (try clear hm); (try clear hmem); (try clear hpl); (try clear hsl); (try clear hlen); (try clear hqn); (try clear hqs); (try clear hs); (try clear B); (try clear B1); (try clear B2); (try clear hl); subst_vars; rw [N7]; first | done | (cases h2 : Dl x.fM <;> (try rw [Agr x h2]) <;> cases h1 : Ga x.fId 1 65535 <;> cases h4 : I6 pre x <;> cases h5 : (x.fM.fQos == 0) <;> cases h6 : ((x.fM.fQos == 1) == (x.fSt == 1)) <;> cases h7 : Ga x.fSt 1 3 <;> simp [h1, h2, h4, h5, h6, h7] at * <;> contradiction)
theorem U6 (o : Bv) : ∀ (r pre : List Aj), N7 o pre r = (AdJ pre r && (Ga o.fLast 0 65535 && decide ((o.fFl.length : Int) ≤ 3) && Et o.fQ))
 | [], pre => by rw [N7, AdJ, Bool.true_and]
 | x :: r, pre => by
  rw [N7, AdJ, U6 o r]
  simp only [Bool.and_assoc]
def Wq : Cz := ⟨⟨#[]⟩, ⟨#[]⟩, 0, false⟩
theorem Agw {α β : Type} {r : Option β} {w : Nat} {enc : α → List AV} {l : List α} {d : α} {K : AV → Option β} (hw : ∀ x, (enc x).length = w) (h0 : 0 < w) (hl : 0 < l.length) (h : K (.rp (enc (l.headD d) ++ (l.tail.map enc).flatten)) = r) : Es w (Am enc l) (.sc (.int .i64 0)) (fun t => K t) = r := by
 refine Agv hw h0 hl fun x t e => ?_
 subst e
 exact h
theorem Ou (n : Nat) (hn : 1048576 < n) (ty : Nat) (o : Bv) (b0 : Eu o ≤ 1048576) : C1 E0 (n + 10) ty 11 [.agg (A9 o)] = some (.sc (.bool (Gs o))) := by
 obtain ⟨⟨h1, h2⟩, h3, h4⟩ := U2 o b0
 rw [A6, Aho, f11]
 simp only [C4]
 refine Lr (G2 _) fun i e hi => ?_
 have key := Qh (n + 1) (by omega) ty o h1 h2 h3 h4 i o.fFl [] (n + 9) _ hi rfl (by omega)
 rw [U6] at key
 exact key
theorem AdS (n : Nat) (hn : 1048576 < n) (ty : Nat) (o : Bv) (b0 : Eu o ≤ 1048576) : C1 E0 (n + 10) ty 10 [.agg (A9 o)] = some (.sc (.bool (Gs o))) := by
 obtain ⟨⟨h1, h2⟩, h3, h4⟩ := U2 o b0
 rw [A6, Ahn, f10]
 simp only [C4, Br, A5, Bw]
 refine Lr (G2 _) fun i e hi => Ak (B3 (c := Am Ar o.fFl) hi (Bb rfl) rfl (Do ?_))
 have key := P7 n hn ty o h1 h2 h3 h4 i o.fFl [] (n + 9) _ hi rfl (by omega)
 rw [U6] at key
 exact key
theorem Sm (n : Nat) (hn : 1048576 < n) (o : Bv) (k0 : R4 o) (b0 : Eu o ≤ 1048576) : C1 E0 (n + 11) 4 39 [.agg (A9 o)] = some (.sc (.bool ((Gs o && decide ((o.fQ.length : Int) > 0)) && ((o.fQ.headD Wq).fQos == 0 || decide ((o.fFl.length : Int) < 3))))) := by
 rw [A6, Ah1, f39]
 try simp only [C4, Cj, Br, A5, Bf, Ba, Db, Da, Ea, A0, Bs, Pr.gT, Pr.gF, Pr.hT, Pr.hF, Pr.kT, Pr.kF, B7, Bw, C2, Bx, Du, Cw, Cc, Bh, Bj, Dn, Cp, Di, Dh]
 have hwo := b0
 refine Lr (G2 _) fun iB1 eB1 B1 => F1 (ds := A9 o) B1 (Bb rfl) rfl (Dr rfl (Bl (Fo _ (G2 _)) Ds) (Ou (n + 0) (by omega) _ o hwo) ?_)
 apply A8 ((Gs o) && (decide ((o.fQ.length : Int) > 0)))
 intro b2 q2
 refine Ah ((Gs o)) (fun h2 => ?_) fun h2 => ?_
 exact As h2 (Ak (As h2 (B3 (c := Am Ao o.fQ) B1 (Bb rfl) rfl (As h2 (Do (As h2 (A2 (v := sb (decide ((o.fQ.length : Int) > 0))) (fun k => rfl) (Ch h2 (Hs q2 h2) rfl))))))))
 exact Av h2 (Av h2 (Av h2 (Av h2 (Cg h2 (Hr q2 h2) rfl))))
 intro b2 q2
 apply A8 (b2 && ((((o.fQ.headD Wq).fQos) == 0) || (decide ((o.fFl.length : Int) < 3))))
 intro b3 q3
 refine Ah (b2) (fun h3 => ?_) fun h3 => ?_
 ·refine As h3 (Ak (As h3 (B3 (c := Am Ao o.fQ) B1 (Bb rfl) rfl (As h3 (Agw (d := Wq) Eg (by decide) (by first | (simp_all; done) | (simp at *; omega)) (As h3 (Hp (As h3 (He (c := .sc (.int .i64 ((o.fQ.headD Wq).fQos))) rfl (As h3 (A2 (v := .sc (.bool (((o.fQ.headD Wq).fQos) == 0))) (fun k => rfl) (As h3 ?_))))))))))))
  apply A8 ((((o.fQ.headD Wq).fQos) == 0) || (decide ((o.fFl.length : Int) < 3)))
  intro b4 q4
  refine Ah ((((o.fQ.headD Wq).fQos) == 0)) (fun h4 => ?_) fun h4 => ?_
  exact C8 h4 (C8 h4 (C8 h4 (C8 h4 (As h3 (Ch h4 (mOT q4 h4) rfl)))))
  exact Cy h4 (Ak (Cy h4 (B3 (c := Am Ar o.fFl) B1 (Bb rfl) rfl (Cy h4 (Do (Cy h4 (A2 (v := sb (decide ((o.fFl.length : Int) < 3))) (fun k => rfl) (As h3 (Cg h4 (mOF q4 h4) rfl)))))))))
  intro b4 q4
  exact Ch h3 (by subst q4; exact Hs q3 h3) rfl
 exact Av h3 (Av h3 (Av h3 (Av h3 (Av h3 (Av h3 (Av h3 (Pz (Pz (Pz (Pz (Av h3 (Cg h3 (Hr q3 h3) rfl))))))))))))
 intro b3 q3
 exact Dv (by subst_vars; rfl)
end
section
open Go
variable {β : Type} {n : Nat} {r : Option β}
theorem Th (s : ByteArray) (hs : s.size ≤ 140737488355328) (H : Ab) (K : KO β) : G4 1 1 .nl (Bt s) H K = K (.sl H.length 0 s.size 1) (H ++ [⟨Bk s, true, true⟩]) := by
 have e1 : C3 H 1 (Bt s) = some (Bk s) := by
  show (if (Bk s).length = s.size * 1 then some (Bk s) else none) = _
  rw [if_pos (by rw [E4]; omega)]
 have e2 : C3 H 1 .nl = some [] := rfl
 have e3 : Gi (Bt s) = some s.size := rfl
 simp only [G4, Gi, e1, e2, Lt, zab, e3]
 rw [if_pos (by omega), if_pos (Uq s)]
 simp only [E9, zav, zah]
theorem T9 {H : Ab} {id d : Nat} {s : ByteArray} (h : H[id]? = some ⟨Bk s, true, true⟩) : B0 Aq E0.tp H (d + 2) 22 (.sl id 0 s.size 1) = some (Bt s, [id]) := by
 rw [Fj]
 have ha : E7 H id = true := by simp only [E7, h]
 have hr : A3 H id 0 (s.size * 1) = some (Bk s) := by
  have hl := E4 s
  simp only [A3, h, if_true, zav, Nat.mul_one, hl, zai, za7]
  rw [← hl, za3]
 obtain ⟨i, j, h1, h2, h3, h4⟩ := M0
 simp only [h1, h2, zab, h3, if_true, ha, hr]
 have ho := Vg (ti := Aq) (tp := E0.tp) (H := H) (d := d) (zad s.size j.cty).flatten (bv s) (by rw [AgY]; simp [h4])
 rw [Jn, ho, zab, ← Jn]
theorem Aeb (n : Nat) (hn : 1 < n) (s : ByteArray) (hs : s.size ≤ 1048576) : C1 E0 (n + 1) 22 88 [.ro 1 [Bt s]] = some (Bt s) := by
 rw [A6, AhZ, f88]
 simp only [Bw]
 refine Do ?_
 obtain ⟨m, rfl⟩ : ∃ m, n = m + 2 := ⟨n - 2, by omega⟩
 rw [Pe]
 simp only [Ba, A0, Bx, A5, Cp]
 refine A2 (v := bT) (fun k => rfl) (E2 rfl ?_)
 have e1 : ∀ K : AV → Option AV, Es 1 (.ro 1 [Bt s]) (.sc (.int .i64 0)) K = K (.rp [Bt s]) := fun K => Qs 1 1 [Bt s] 0 K (by decide) (by simp)
 rw [e1, Nm, Th s (by omega)]
 refine A2 (v := si 1) (fun k => rfl) ?_
 rw [Pe]
 simp only [Ba, A0]
 refine A2 (v := bF) (fun k => rfl) (Fc rfl ?_)
 rw [A4, T9 (d := 6) (s := s) rfl]
 rfl
theorem Agd {H : Ab} {id d : Nat} {m : Cz} (h : H[id]? = some ⟨Bk m.fBody, true, true⟩) : Ce (B0 Aq E0.tp H (d + 2)) Gy [.sc (.string m.fTopic), .sl id 0 m.fBody.size 1, .sc (.int .i64 m.fQos), .sc (.bool m.fRetain)] = some (Ao m, [id]) := by
 have hb := T9 (d := d) h
 simp only [Gy, Ce, G7, hb, zab, zah, zam]
 rfl
theorem R8 {H : Ab} {id : Nat} {m : Cz} (h : H[id]? = some ⟨Bk m.fBody, true, true⟩) : A4 Aq E0.tp 33 H (.agg [.sc (.string m.fTopic), .sl id 0 m.fBody.size 1, .sc (.int .i64 m.fQos), .sc (.bool m.fRetain)]) = some (.agg (Ao m)) := by
 obtain ⟨i, hi, hc⟩ := Oz
 rw [A4, Ee, hi, zab, hc, Agd (d := 5) h]
 rfl
end
section
open Go
variable {β : Type} {n : Nat} {r : Option β}
theorem Qt (n : Nat) (m : Cz) (hs : m.fBody.size ≤ 1048576) : C1 E0 (n + 1) 33 101 [.agg (Ao m)] = some (.agg (Ao m)) := by
 rw [A6, AeQ, f101]
 simp only [C4, Cj, Br, A5, Cp, Bj, Bf, Je]
 rw [K6 _ _ _ (Gb m)]
 simp only [zat, zah, zao, zav]
 have hH : ([⟨Ao m, true, true⟩] ++ [⟨Hq, true, true⟩] : Ab)[0]? = some ⟨Ao m, true, true⟩ := rfl
 refine Ak (B3 (c := ss m.fTopic) hH (Bb rfl) rfl (Ak (B3 (c := Bt m.fBody) hH (Bb rfl) rfl (Ak (B3 (c := si m.fQos) hH (Bb rfl) rfl (Ak (B3 (c := sb m.fRetain) hH (Bb rfl) rfl ?_)))))))
 rw [Th _ (by omega)]
 refine Nq (cs := [ss m.fTopic, .sl 2 0 m.fBody.size 1, si m.fQos, sb m.fRetain]) rfl ?_
 rw [Fl 4 1 0 _ ⟨Hq, true, true⟩ [.sc (.string m.fTopic), .sl 2 0 m.fBody.size 1, .sc (.int .i64 m.fQos), .sc (.bool m.fRetain)] _ _ rfl rfl rfl (by decide) rfl]
 exact F1 (ds := [ss m.fTopic, .sl 2 0 m.fBody.size 1, si m.fQos, sb m.fRetain]) (cs := [ss m.fTopic, .sl 2 0 m.fBody.size 1, si m.fQos, sb m.fRetain]) rfl (zai _) rfl (R8 rfl)
theorem V9 (n : Nat) (hn : 1 < n) (m : Cz) (hs : m.fBody.size ≤ 1048576) : C1 E0 (n + 2) 33 99 [.agg (Ao m)] = some (.agg (Ao m)) := by
 rw [A6, Aig, f99]
 simp only [C4, Cj, Br, A5, Cp, Bj, Bf, Bh, Je]
 rw [K6 _ _ _ (Gb m)]
 simp only [zat, zah, zao, zav]
 have hH : ([⟨Ao m, true, true⟩] ++ [⟨Hq, true, true⟩] : Ab)[0]? = some ⟨Ao m, true, true⟩ := rfl
 refine Ak (B3 (c := Bt m.fBody) hH (Bb rfl) rfl (Nq (cs := [Bt m.fBody]) rfl ?_))
 simp only [E9]
 rw [Fe (vs := [.ro 1 [Bt m.fBody]]) rfl rfl (Aeb n hn m.fBody hs)]
 obtain ⟨i, j, h1, h2, h3, h4⟩ := M0
 have hi : ∀ N, Bp Aq E0.tp N 22 (Bt m.fBody) = (.sl N 0 m.fBody.size 1, [⟨Bk m.fBody, true, true⟩]) := by
  intro N
  show Bp Aq E0.tp N 22 (.ro m.fBody.size (Bk m.fBody)) = _
  simp only [Bp, h1, zab, h2, za5, h3, Jn, N9]
 rw [hi]
 simp only
 refine Ak ?_
 rw [Fl 1 0 (0 + 1) _ ⟨Ao m, true, true⟩ [.sl 3 0 m.fBody.size 1] _ _ rfl rfl rfl (Bb rfl) rfl]
 refine F1 (ds := [ss m.fTopic, .sl 3 0 m.fBody.size 1, si m.fQos, sb m.fRetain]) (cs := [ss m.fTopic, .sl 3 0 m.fBody.size 1, si m.fQos, sb m.fRetain]) rfl (zai _) rfl ?_
 rw [Fl 4 1 0 _ ⟨Hq, true, true⟩ [.sc (.string m.fTopic), .sl 3 0 m.fBody.size 1, .sc (.int .i64 m.fQos), .sc (.bool m.fRetain)] _ _ rfl rfl rfl (by decide) rfl]
 exact F1 (ds := [ss m.fTopic, .sl 3 0 m.fBody.size 1, si m.fQos, sb m.fRetain]) (cs := [ss m.fTopic, .sl 3 0 m.fBody.size 1, si m.fQos, sb m.fRetain]) rfl (zai _) rfl (R8 rfl)
theorem O9 {d w te g bytes k : Nat} {cty : List Nat} {H X0 : Ab} {x : AV} {cells cs z : List AV} {args vs : List AV} {K : KO β} (hx : OwnS d H w cty x k cells) (hh : Fz g = false) (hv : args.mapM (Dm (H ++ X0) 8) = some vs) (ht : C1 E0 n te g vs = some (.agg cs))
  (hte : ∃ i, Aq te = some i ∧ i.cty = cty) (hok : Eh (Gj Aq E0.tp d) cty cs) (hfl : cs.all Ip = true) (hw : cs.length = w) (hz : z.length = w) (hb : (k + 1) * bytes ≤ 140737488355328) (h : ∀ x' H', OwnS d H' w cty x' (k + 1) (cells ++ cs) → K x' H' = r) :
  ((PR n β).call te (.fn g [] []) args (H ++ X0) fun t G => (Ek z [(0, w, t)]).bind fun ct => E9 1 w ct true G fun y G => G4 w bytes x y G K) = r := by
 obtain ⟨i, hi, rfl⟩ := hte
 rw [Fe hh hv ht, Ge, hi, za5]
 simp only
 have hlen := Jh (ti := Aq) (tp := E0.tp) (H ++ X0).length i.cty cs
 have hleaf := Jp (ti := Aq) (tp := E0.tp) cs (H ++ X0).length i.cty hfl
 have hf : Ek z [(0, w, .agg (Bz Aq E0.tp (H ++ X0).length i.cty cs).1)] = some (Bz Aq E0.tp (H ++ X0).length i.cty cs).1 := by
  have hc : Cq (.agg (Bz Aq E0.tp (H ++ X0).length i.cty cs).1) = some (Bz Aq E0.tp (H ++ X0).length i.cty cs).1 := by
   show (if _ then _ else none) = _
   rw [if_pos hleaf]
  have hs : Cf z 0 (Bz Aq E0.tp (H ++ X0).length i.cty cs).1 = (Bz Aq E0.tp (H ++ X0).length i.cty cs).1 := by
   unfold Cf
   rw [zbF, zah, zaW (by rw [hlen, hw, hz]; omega), zam]
  show ((Cq (.agg _)).bind fun cs => if cs.length = w then (if 0 + w ≤ z.length then Ek (Cf z 0 cs) [] else none) else none) = _
  rw [hc, zab, if_pos (by rw [hlen, hw]), if_pos (by omega), hs]
  rfl
 rw [hf, zab]
 have key := Z3 (H := H) (X := X0 ++ (Bz Aq E0.tp (H ++ X0).length i.cty cs).2) (bytes := bytes) (er := (Bz Aq E0.tp (H ++ X0).length i.cty cs).1) (ec := cs) (eids := zaV (H ++ X0).length (Bz Aq E0.tp (H ++ X0).length i.cty cs).2.length) (K := K) (r := r) hx (by rw [hlen, hw]) hleaf (by
   have := Aa5 (d := d) (H := H ++ X0) hok
   rwa [zaj] at this) zaP (fun j hj => by
   rw [zaJ] at hj
   have := hj.1
   simp at this
   omega) hb h
 rw [← zaj] at key
 exact key
theorem Wm (n : Nat) (hn : 1048576 < n) (l : List Cz) (hl : l.length ≤ 1048576) (hs : ∀ x ∈ l, x.fBody.size ≤ 1048576) : ∀ (t pre : List Cz) (m : Nat) (x : AV) (H : Ab), l = pre ++ t → t.length < m → OwnS 7 H 4 Gy x pre.length (pre.map Ao).flatten →
  K9 (PR (n + 2) AV) (n + 2) (fun x H => A4 Aq E0.tp 25 H x) m (Am Ao l) x (si pre.length) H = some (Am Ao l)
 | [], pre, m + 1, x, H, he, hm, hx => by
  rw [zam] at he
  subst he
  rw [K9]
  simp only [Bw, Ba, A0]
  rw [Y9, Ej, Ef, if_neg (by simp)]
  obtain ⟨ids, ho, hno⟩ := Qu (d := 7) (tyS := 25) Kj hx
  rw [A4, ho, zab, if_pos hno]
 | y :: t, pre, m + 1, x, H, he, hm, hx => by
  have hlt : pre.length < l.length := by rw [he]; simp
  have hy : y ∈ l := by rw [he]; simp
  rw [K9]
  simp only [Bw, Ba, A0, Bx, A5, Bj, Bh, Cp]
  rw [Y9, Ej, Ef, if_pos (by simpa using hlt)]
  have hel := fun k => M4 (β := AV) Eg (by decide) pre y t k
  rw [← he] at hel
  rw [hel, Tw 4 _ _ _ _ (Eg y)]
  have hst := fun K h => O9 (β := AV) (n := n + 2) (X0 := []) (bytes := 56) (z := Hq) (K := K) (r := some (Am Ao l)) hx rfl (Bl (Fo _ (Gb y)) Ds) (Qt (n + 1) y (hs y hy)) Oz (Ic 5 y) (Gb y) (Eg y) rfl (by omega) h
  simp only [zam] at hst
  refine hst _ fun x' H' hx' => ?_
  rw [Ff _ _ (by omega)]
  have ih := Wm n hn l hl hs t (pre ++ [y]) m x' H' (by rw [he]; simp) (by simpa using hm) (by
   rw [zae, zal, za8, za1]
   simpa using hx')
  rw [zae, zal] at ih
  exact ih
theorem Ob (n : Nat) (hn : 1048576 < n) (l : List Cz) (hl : l.length ≤ 1048576) (hs : ∀ x ∈ l, x.fBody.size ≤ 1048576) : C1 E0 (n + 3) 25 100 [Am Ao l] = some (Am Ao l) := by
 rw [A6, AeP, f100]
 exact Wm n hn l hl hs l [] (n + 2) .nl [] rfl (by omega) (OwnS.nil _ _ _ _)
theorem M3 (n : Nat) (hn : 1048576 < n) (l : List Cz) (hl : l.length ≤ 1048576) (hs : ∀ x ∈ l, x.fBody.size ≤ 1048576) : ∀ (t pre : List Cz) (m : Nat) (x : AV) (H : Ab), l = pre ++ t → t.length < m → OwnS 7 H 4 Gy x pre.length (pre.map Ao).flatten →
  Nk (PR (n + 2) AV) (n + 2) (fun x H => A4 Aq E0.tp 25 H x) m x (Am Ao l) (si l.length) (si pre.length) H = some (Am Ao l)
 | [], pre, m + 1, x, H, he, hm, hx => by
  rw [zam] at he
  subst he
  rw [Nk]
  simp only [Bw, Ba, A0]
  rw [Ej, Ef, if_neg (by simp)]
  obtain ⟨ids, ho, hno⟩ := Qu (d := 7) (tyS := 25) Kj hx
  rw [A4, ho, zab, if_pos hno]
 | y :: t, pre, m + 1, x, H, he, hm, hx => by
  have hlt : pre.length < l.length := by rw [he]; simp
  have hy : y ∈ l := by rw [he]; simp
  rw [Nk]
  simp only [Bw, Ba, A0, Bx, A5, Bj, Bh, Cp, Cj, Bf]
  rw [Ej, Ef, if_pos (by simpa using hlt)]
  have hel := fun k => M4 (β := AV) Eg (by decide) pre y t k
  rw [← he] at hel
  rw [hel, Tw 4 _ _ _ _ (Eg y)]
  refine Ve rfl (Eg _) (Nz (Gb _)) fun i hi => Wp hi (Eg _) (O9 (β := AV) (n := n + 2) (X0 := [⟨Ao y, true, true⟩]) (bytes := 56) (z := Hq) (r := some (Am Ao l)) hx rfl (Bl (Fo _ (Gb y)) Ds) (V9 n (by omega) y (hs y hy)) Oz (Ic 5 y) (Gb y) (Eg y) rfl (by omega) fun x' H' hx' => ?_)
  rw [Ff _ _ (by omega)]
  have ih := M3 n hn l hl hs t (pre ++ [y]) m x' H' (by rw [he]; simp) (by simpa using hm) (by
   rw [zae, zal, za8, za1]
   simpa using hx')
  rw [zae, zal] at ih
  exact ih
theorem Tl (n : Nat) (hn : 1048576 < n) (l : List Cz) (hl : l.length ≤ 1048576) (hs : ∀ x ∈ l, x.fBody.size ≤ 1048576) : C1 E0 (n + 3) 25 98 [Am Ao l] = some (Am Ao l) := by
 rw [A6, Aif, f98]
 simp only [Bw]
 exact Do (M3 n hn l hl hs l [] (n + 2) .nl [] rfl (by omega) (OwnS.nil _ _ _ _))
end
section
open Go
def OwnSI (d : Nat) (H : Ab) (w : Nat) (cty : List Nat) (x : AV) (k : Nat) (cells : List AV) (ids : List Nat) : Prop :=
 (x = .nl ∧ k = 0 ∧ cells = [] ∧ ids = []) ∨ ∃ id raw is, ids = id :: is ∧ x = .sl id 0 k w ∧ H[id]? = some ⟨raw, true, true⟩ ∧ raw.length = k * w ∧ OwnC d H (zad k cty).flatten raw cells is ∧ (id :: is).Nodup
theorem OwnSI.nil (d : Nat) (H : Ab) (w : Nat) (cty : List Nat) : OwnSI d H w cty .nl 0 [] [] := .inl ⟨rfl, rfl, rfl, rfl⟩
theorem OwnSI.lt {d : Nat} {H : Ab} {w : Nat} {cty : List Nat} {x : AV} {k : Nat} {cells : List AV} {ids : List Nat} (h : OwnSI d H w cty x k cells ids) : ∀ i ∈ ids, i < H.length := by
 rcases h with ⟨_, _, _, rfl⟩ | ⟨id, raw, is, rfl, _, h2, _, h4, _⟩
 ·intro i hi
  cases hi
 ·intro i hi
  rcases zay.1 hi with rfl | hi
  ·exact (zac.1 h2).1
  ·exact h4.lt i hi
theorem OwnSI.nodup {d : Nat} {H : Ab} {w : Nat} {cty : List Nat} {x : AV} {k : Nat} {cells : List AV} {ids : List Nat} (h : OwnSI d H w cty x k cells ids) : ids.Nodup := by
 rcases h with ⟨_, _, _, rfl⟩ | ⟨id, raw, is, rfl, _, h2, _, h4, h5⟩
 ·exact zb3
 ·exact h5
theorem OwnSI.frame {d : Nat} {H H' : Ab} {w : Nat} {cty : List Nat} {x : AV} {k : Nat} {cells : List AV} {ids : List Nat} (h : OwnSI d H w cty x k cells ids) (hs : ∀ i ∈ ids, H'[i]? = H[i]?) : OwnSI d H' w cty x k cells ids := by
 rcases h with h | ⟨id, raw, is, rfl, h1, h2, h3, h4, h5⟩
 ·exact .inl h
 ·exact .inr ⟨id, raw, is, rfl, h1, by rw [hs id za6]; exact h2, h3, h4.frame fun i hi => hs i (zaw _ hi), h5⟩
theorem OwnSI.grow {d : Nat} {H : Ab} {w : Nat} {cty : List Nat} {x : AV} {k : Nat} {cells : List AV} {ids : List Nat} (h : OwnSI d H w cty x k cells ids) (X : List Gh) : OwnSI d (H ++ X) w cty x k cells ids :=
 h.frame fun i hi => zag (h.lt i hi)
theorem OwnSI.res {H : Ab} {d w tyS k : Nat} {cty : List Nat} {x : AV} {cells : List AV} {ids : List Nat} (h : OwnSI d H w cty x k cells ids) (hty : ∃ i j, Aq tyS = some i ∧ Aq i.elem = some j ∧ j.size = w ∧ j.cty = cty) : B0 Aq E0.tp H (d + 1) tyS x = some (.ro k cells, ids) := by
 rcases h with ⟨rfl, rfl, rfl, rfl⟩ | ⟨id, raw, is, rfl, rfl, h2, h3, h4, h5⟩
 ·rfl
 ·obtain ⟨i, j, e1, e2, rfl, rfl⟩ := hty
  rw [Fj]
  have ha : E7 H id = true := by simp only [E7, h2]
  have hr : A3 H id 0 (k * j.size) = some raw := by
   simp only [A3, h2, if_true, zav, h3, zai, za7]
   rw [← h3, za3]
  have h4' : Ce (B0 Aq E0.tp H d) (zad k j.cty).flatten raw = some (cells, is) := h4
  simp only [e1, e2, zab, if_true, ha, hr, h4']
variable {β : Type} {n : Nat} {r : Option β}
theorem Acj {d : Nat} {H X : Ab} {w bytes : Nat} {cty : List Nat} {x : AV} {k : Nat} {cells er ec : List AV} {ids eids : List Nat} {K : KO β} (hx : OwnSI d H w cty x k cells ids) (hw : er.length = w) (hl : er.all Ap = true)
  (he : OwnC d (H ++ X) cty er ec eids) (hn : eids.Nodup) (hge : ∀ i ∈ eids, H.length ≤ i) (hb : (k + 1) * bytes ≤ 140737488355328)
  (h : ∀ x' H' ids', OwnSI d H' w cty x' (k + 1) (cells ++ ec) ids' → (∀ i ∈ ids', i ∈ ids ∨ H.length ≤ i) → (∀ i, i < H.length → i ∉ ids → H'[i]? = H[i]?) → H.length ≤ H'.length → K x' H' = r) :
  E9 1 w er true (H ++ X) (fun y G => G4 w bytes x y G K) = r := by
 have hy : ∀ G : Ab, C3 (G ++ [⟨er, true, true⟩]) w (.sl G.length 0 1 w) = some er := by
  intro G
  simp only [C3, if_true, zbw, A3, Iu G _ [], zav, hw, zai, za7]
  rw [← hw, za3]
 rcases hx with ⟨rfl, rfl, rfl, rfl⟩ | ⟨id, raw, is, rfl, rfl, h2, h3, h4, h5⟩
 ·simp only [E9, G4, Gi, zab, hy]
  rw [show C3 (H ++ X ++ [⟨er, true, true⟩]) w .nl = some [] from rfl]
  simp only [zab, Lt]
  rw [if_pos hb, if_pos hl]
  refine h _ _ (_ :: eids) (.inr ⟨_, er, eids, rfl, rfl, ?_, by simp [hw], ?_, ?_⟩) (fun i hi => .inr ?_) (fun i hi _ => ?_) (by simp)
  ·rw [zaf (zai _), zaL]
   rfl
  ·simp only [zav, List.replicate_one, zaD, List.flatten_nil, zam, zah]
   exact (he.grow _).grow _
  ·rw [zaG]
   refine ⟨fun hm => ?_, hn⟩
   have := he.lt _ hm
   simp at this
   omega
  ·rcases zay.1 hi with rfl | hi
   ·simp [zaO]
   ·exact hge i hi
  ·rw [zaj, zaj, zag hi]
 ·have hid : id < H.length := (zac.1 h2).1
  have hg : (H ++ X ++ [(⟨er, true, true⟩ : Gh)])[id]? = some ⟨raw, true, true⟩ := by
   rw [zaj, zag hid]
   exact h2
  have hcx : C3 (H ++ X ++ [⟨er, true, true⟩]) w (.sl id 0 k w) = some raw := by
   simp only [C3, if_true, A3, hg, zav, h3, zai, za7]
   rw [← h3, za3]
  simp only [E9, G4, Gi, zab, hy, hcx, Lt, hg, if_true]
  rw [if_pos hb, if_pos hl]
  have hn5 := zaG.1 h5
  have hne : ∀ i ∈ is, i ≠ id := fun i hi e => hn5.1 (e ▸ hi)
  have hne2 : ∀ i ∈ eids, i ≠ id := fun i hi e => by
   have := hge i hi
   omega
  refine h _ _ (_ :: (is ++ eids)) (.inr ⟨_, raw ++ er, is ++ eids, rfl, rfl, ?_, by simp [h3, hw, zbG], ?_, ?_⟩) (fun i hi => ?_) (fun i hi hni => ?_) (by simp; omega)
  ·rw [zaf (zai _), zaL]
   rfl
  ·have e : (zad (k + 1) cty).flatten = (zad k cty).flatten ++ cty := by
    rw [List.replicate_succ', za1]
    simp
   rw [e]
   refine OwnC.append ?_ ?_
   ·refine OwnC.grow (OwnC.frame (H := H ++ X ++ [⟨er, true, true⟩]) ((h4.grow X).grow _) fun i hi => ?_) _
    rw [za4 (fun e => hne i hi e.symm)]
   ·refine OwnC.grow (OwnC.frame (H := H ++ X ++ [⟨er, true, true⟩]) (he.grow _) fun i hi => ?_) _
    rw [za4 (fun e => hne2 i hi e.symm)]
  ·rw [zaG]
   refine ⟨fun hm => ?_, ?_⟩
   ·rcases zaB.1 hm with hm | hm
    ·have := h4.lt _ hm
     simp at this
     omega
    ·have := he.lt _ hm
     simp at this
     omega
   ·rw [zaI]
    refine ⟨hn5.2, hn, fun a ha b hb e => ?_⟩
    have h1 := h4.lt a ha
    have h2 := hge b hb
    omega
  ·rcases zay.1 hi with rfl | hi
   ·right
    simp [zaO]
   ·rcases zaB.1 hi with hi | hi
    ·exact .inl (zaw _ hi)
    ·exact .inr (hge i hi)
  ·have : i ≠ id := fun e => hni (e ▸ za6)
   rw [zag (by simp; omega), za4 (fun e => this e.symm), zaj, zag hi]
theorem AdI {w : Nat} {z ys : List AV} (hz : z.length = w) (hy : ys.length = w) (hl : ys.all Ap = true) : Ek z [(0, w, .agg ys)] = some ys := by
 have hc : Cq (.agg ys) = some ys := by
  show (if ys.all Ap then some ys else none) = _
  rw [if_pos hl]
 have hs : Cf z 0 ys = ys := by
  unfold Cf
  rw [zbF, zah, zaW (by rw [hy, hz]; omega), zam]
 show ((Cq (.agg ys)).bind fun cs => if cs.length = w then (if 0 + w ≤ z.length then Ek (Cf z 0 cs) [] else none) else none) = _
 rw [hc, zab, if_pos hy, if_pos (by omega), hs]
 rfl
end
section
open Go
variable {β : Type} {n : Nat} {r : Option β}
theorem Agu {α : Type} {w : Nat} {enc : α → List AV} {l pre t : List α} {x : α} {K : AV → Option β} (hw : ∀ x, (enc x).length = w) (h0 : 0 < w) (hl : l = pre ++ x :: t) (h : K (.rp (enc x ++ (t.map enc).flatten)) = r) : Es w (Am enc l) (.sc (.int .i64 (pre.length : Int))) (fun t => K t) = r := by
 subst hl
 exact (M4 (β := β) hw h0 pre x t (fun t => K t)).trans h
theorem AdW (N : Nat) (s : ByteArray) : Bp Aq E0.tp N 22 (Bt s) = (.sl N 0 s.size 1, [⟨Bk s, true, true⟩]) := by
 obtain ⟨i, j, h1, h2, h3, h4⟩ := M0
 show Bp Aq E0.tp N 22 (.ro s.size (Bk s)) = _
 simp only [Bp, h1, zab, h2, za5, h3, Jn, N9]
theorem AdX (N : Nat) (m : Cz) : Bz Aq E0.tp N Gy (Ao m) = ([.sc (.string m.fTopic), .sl N 0 m.fBody.size 1, .sc (.int .i64 m.fQos), .sc (.bool m.fRetain)], [⟨Bk m.fBody, true, true⟩]) := by
 have h := AdW N m.fBody
 show Bz Aq E0.tp N [9, 22, 3, 4] [.sc (.string m.fTopic), Bt m.fBody, .sc (.int .i64 m.fQos), .sc (.bool m.fRetain)] = _
 simp only [Bz, zb9, zbC, G3, zat, zaZ, h, zah, zam]
theorem Kb (N : Nat) (f : Aj) : Bz Aq E0.tp N Fv (Ar f) = ([.sc (.int .i64 f.fId), .sc (.string f.fM.fTopic), .sl N 0 f.fM.fBody.size 1, .sc (.int .i64 f.fM.fQos), .sc (.bool f.fM.fRetain), .sc (.int .i64 f.fSt)], [⟨Bk f.fM.fBody, true, true⟩]) := by
 have h := AdW N f.fM.fBody
 show Bz Aq E0.tp N [3, 9, 22, 3, 4, 3] [.sc (.int .i64 f.fId), .sc (.string f.fM.fTopic), Bt f.fM.fBody, .sc (.int .i64 f.fM.fQos), .sc (.bool f.fM.fRetain), .sc (.int .i64 f.fSt)] = _
 simp only [Bz, zb9, zbC, G3, zat, zaZ, h, zah, zam]
theorem P5 {te g k : Nat} {H X0 : Ab} {x : AV} {cells : List AV} {ids : List Nat} {args : List AV} {f : Aj} {K : KO β} (hx : OwnSI 6 H 6 Fv x k cells ids) (hh : Fz g = false) (hv : args.mapM (Dm (H ++ X0) 8) = some [.agg (Ao f.fM)]) (ht : C1 E0 n te g [.agg (Ao f.fM)] = some (.agg (Ao f.fM)))
  (hte : ∃ i, Aq te = some i ∧ i.cty = Gy) (hb : (k + 1) * 72 ≤ 140737488355328)
  (h : ∀ x' H' ids', OwnSI 6 H' 6 Fv x' (k + 1) (cells ++ Ar f) ids' → (∀ i ∈ ids', i ∈ ids ∨ H.length ≤ i) → (∀ i, i < H.length → i ∉ ids → H'[i]? = H[i]?) → H.length ≤ H'.length → K x' H' = r) :
  ((PR n β).call te (.fn g [] []) args (H ++ X0) fun t G => (Ek S5 [(0, 1, si f.fId), (1, 4, t), (5, 1, si f.fSt)]).bind fun c => (Ek S5 [(0, 6, .agg c)]).bind fun ct => E9 1 6 ct true G fun y G => G4 6 72 x y G K) = r := by
 obtain ⟨i, hi, hc⟩ := hte
 rw [Fe hh hv ht, Ge, hi, za5, hc, AdX]
 simp only
 have hf : Ek S5 [(0, 1, si f.fId), (1, 4, .agg [ss f.fM.fTopic, .sl (H ++ X0).length 0 f.fM.fBody.size 1, si f.fM.fQos, sb f.fM.fRetain]), (5, 1, si f.fSt)] = some [si f.fId, ss f.fM.fTopic, .sl (H ++ X0).length 0 f.fM.fBody.size 1, si f.fM.fQos, sb f.fM.fRetain, si f.fSt] := rfl
 rw [hf, zab, AdI (w := 6) rfl rfl rfl, zab]
 have key := Acj (H := H) (X := X0 ++ [⟨Bk f.fM.fBody, true, true⟩]) (bytes := 72) (er := (Bz Aq E0.tp (H ++ X0).length Fv (Ar f)).1) (ec := Ar f) (eids := zaV (H ++ X0).length (Bz Aq E0.tp (H ++ X0).length Fv (Ar f)).2.length) (K := K) (r := r) hx (by rw [Kb]; rfl) (by rw [Kb]; rfl) (by
   have := Aa5 (d := 6) (H := H ++ X0) (Mu 4 f)
   rw [Kb] at this ⊢
   rwa [zaj] at this) zaP (fun j hj => by
   rw [zaJ] at hj
   have := hj.1
   simp at this
   omega) hb h
 rw [Kb, ← zaj] at key
 exact key
structure OutI (H : Ab) (io i2 i1 : Nat) (o : Bv) (x q : AV) (k : Nat) (cells : List AV) (ids qids : List Nat) : Prop where
 ho : H[io]? = some ⟨[si o.fLast, x, q], true, true⟩
 hs : OwnSI 6 H 6 Fv x k cells ids
 hq : B0 Aq E0.tp H 7 25 q = some (Am Ao o.fQ, qids)
 qn : qids.Nodup
 hz : ∃ z2, H[i2]? = some ⟨z2, true, true⟩ ∧ z2.length = 3
 src : H[i1]? = some ⟨A9 o, true, true⟩
 ne : io ≠ i2
 ne1 : i1 ≠ io
 ne2 : i1 ≠ i2
 o1 : io ∉ ids
 o2 : io ∉ qids
 z1 : i2 ∉ ids
 z2 : i2 ∉ qids
 s1 : i1 ∉ ids
 dj : ∀ i ∈ qids, i ∉ ids
theorem OutI.lt {H : Ab} {io i2 i1 : Nat} {o : Bv} {x q : AV} {k : Nat} {cells : List AV} {ids qids : List Nat} (h : OutI H io i2 i1 o x q k cells ids qids) : io < H.length ∧ i2 < H.length ∧ i1 < H.length ∧ ∀ i ∈ qids, i < H.length := by
 obtain ⟨z2, hz, _⟩ := h.hz
 exact ⟨(zac.1 h.ho).1, (zac.1 hz).1, (zac.1 h.src).1, Kf 7 _ _ _ h.hq⟩
theorem OutI.put {H H' : Ab} {io i2 i1 : Nat} {o : Bv} {x x' q : AV} {k : Nat} {cells ec : List AV} {ids ids' qids : List Nat} {K : Ab → Option β} (h : OutI H io i2 i1 o x q k cells ids qids)
  (h1 : OwnSI 6 H' 6 Fv x' (k + 1) (cells ++ ec) ids') (h2 : ∀ i ∈ ids', i ∈ ids ∨ H.length ≤ i) (h3 : ∀ i, i < H.length → i ∉ ids → H'[i]? = H[i]?) (hk : ∀ H'', OutI H'' io i2 i1 o x' q (k + 1) (cells ++ ec) ids' qids → K H'' = r) :
  D7 1 (.ptr io (0 + 1)) x' H' K = r := by
 obtain ⟨l1, l2, l3, l4⟩ := h.lt
 have hlf : Cq x' = some [x'] := by
  rcases h1 with ⟨_, h0, _⟩ | ⟨id, raw, is, _, rfl, _⟩
  omega
  rfl
 have ho : H'[io]? = some ⟨[.sc (.int .i64 o.fLast), x, q], true, true⟩ := by rw [h3 io l1 h.o1]; exact h.ho
 have hio : io < H'.length := (zac.1 ho).1
 rw [Fl 1 io (0 + 1) x' _ [x'] H' K ho hlf rfl (Bb rfl) rfl]
 have hni : io ∉ ids' := fun hm => by
  rcases h2 io hm with h' | h'
  exact h.o1 h'
  omega
 refine hk _ ⟨?_, ?_, ?_, h.qn, ?_, ?_, h.ne, h.ne1, h.ne2, hni, h.o2, ?_, h.z2, ?_, ?_⟩
 rw [zaX hio]
 rfl
 refine h1.frame fun i hi => ?_
 rw [za4 (fun (e : io = i) => hni (e ▸ hi))]
 refine Dg 7 _ _ _ h.hq fun i hi => ?_
 rw [za4 (fun (e : io = i) => h.o2 (e ▸ hi)), h3 i (l4 i hi) (h.dj i hi)]
 obtain ⟨z2, hz, hl⟩ := h.hz
 exact ⟨z2, by rw [za4 h.ne, h3 i2 l2 h.z1]; exact hz, hl⟩
 rw [za4 (fun e => h.ne1 e.symm), h3 i1 l3 h.s1]
 exact h.src
 intro hm
 rcases h2 i2 hm with h' | h'
 exact h.z1 h'
 omega
 intro hm
 rcases h2 i1 hm with h' | h'
 exact h.s1 h'
 omega
 intro i hi hm
 rcases h2 i hm with h' | h'
 exact h.dj i hi h'
 have := l4 i hi
 omega
theorem OutI.fin {H : Ab} {io i2 i1 : Nat} {o : Bv} {x q : AV} {ids qids : List Nat} (h : OutI H io i2 i1 o x q o.fFl.length (o.fFl.map Ar).flatten ids qids) :
  (C6 true 3 (.ptr io 0) H fun t => D7 3 (.ptr i2 0) t H fun H => C6 true 3 (.ptr i2 0) H fun r0 => A4 Aq E0.tp 27 H r0) = some (.agg (A9 o)) := by
 obtain ⟨l1, l2, l3, l4⟩ := h.lt
 obtain ⟨z2, hz, hzl⟩ := h.hz
 have hx : Ap x = true := by
  rcases h.hs with ⟨rfl, _⟩ | ⟨id, raw, is, _, rfl, _⟩ <;> rfl
 have hq : Ap q = true := by
  have := h.hq
  cases q with
  | sc v => cases this
  | nl => rfl
  | sl => rfl
  | agg cs =>
   rw [Ee] at this
   simp only [zaa] at this
   obtain ⟨_, _, _, _, h3⟩ := this
   cases h3
  | tup cs =>
   rw [Fy] at this
   simp only [zaa] at this
   obtain ⟨_, _, _, _, h3⟩ := this
   cases h3
  | _ => simp [B0] at this
 refine F1 (ds := [si o.fLast, x, q]) h.ho (Bb rfl) rfl ?_
 have hc : Cq (.agg [si o.fLast, x, q]) = some [si o.fLast, x, q] := by
  show (if (true && (Ap x && (Ap q && true))) = true then _ else none) = _
  rw [hx, hq]
  rfl
 rw [Fl 3 i2 0 _ ⟨z2, true, true⟩ [.sc (.int .i64 o.fLast), x, q] H _ hz hc rfl (by show 0 + 3 ≤ z2.length; omega) rfl]
 have hs : Cf z2 0 [si o.fLast, x, q] = [si o.fLast, x, q] := by
  unfold Cf
  rw [zbF, zah, zaW (by rw [hzl]; exact zai _), zam]
 simp only [hs]
 refine F1 (ds := [.sc (.int .i64 o.fLast), x, q]) (cs := [.sc (.int .i64 o.fLast), x, q]) (by rw [zaX l2]) (Bb rfl) rfl ?_
 have e1 := (h.hs.frame (H' := H.set i2 ⟨[.sc (.int .i64 o.fLast), x, q], true, true⟩) fun i hi => by rw [za4 (fun (e : i2 = i) => h.z1 (e ▸ hi))]).res Px
 have e2 := Dg (H' := H.set i2 ⟨[.sc (.int .i64 o.fLast), x, q], true, true⟩) 7 _ _ _ h.hq fun i hi => by rw [za4 (fun (e : i2 = i) => h.z2 (e ▸ hi))]
 obtain ⟨i, hi, hcy⟩ := Xo
 rw [A4, Ee, hi, zab, hcy]
 simp only [Gf, Ce, G7, e1, e2, zab, zah, zam]
 rw [if_pos]
 rfl
 rw [zaI]
 exact ⟨h.hs.nodup, h.qn, fun a ha b hb e => h.dj b hb (e ▸ ha)⟩
def Mi (o : Bv) : Prop := (o.fFl.length ≤ 1048576 ∧ ∀ x ∈ o.fFl, x.fM.fBody.size ≤ 1048576) ∧ (o.fQ.length ≤ 1048576 ∧ ∀ x ∈ o.fQ, x.fBody.size ≤ 1048576)
theorem Rs (n : Nat) (hn : 1048576 < n) (o : Bv) (hs : Mi o) (io i2 i1 : Nat) (q : AV) (qids : List Nat) : ∀ (t pre : List Aj) (m : Nat) (x : AV) (H : Ab) (ids : List Nat), o.fFl = pre ++ t → t.length < m → OutI H io i2 i1 o x q pre.length (pre.map Ar).flatten ids qids →
  Pd (PR (n + 3) AV) (n + 3) (fun x H => A4 Aq E0.tp 27 H x) m (.ptr i1 0) (.ptr i2 0) (.ptr io 0) (si pre.length) H = some (.agg (A9 o))
 | [], pre, m + 1, x, H, ids, he, hm, hi => by
  rw [zam] at he
  show (PR (n + 3) AV).fadr _ _ _ = _
  simp only [Br, A5, Bw, Ba, A0, Bf]
  refine Ak (B3 (c := Am Ar o.fFl) hi.src (Bb rfl) rfl (Do ?_))
  rw [Ej, Ef, if_neg (by rw [he]; simp)]
  subst he
  exact hi.fin
 | y :: t, pre, m + 1, x, H, ids, he, hm, hi => by
  have hlt : pre.length < o.fFl.length := by rw [he]; simp
  have hy : y.fM.fBody.size ≤ 1048576 := hs.1.2 y (by rw [he]; simp)
  have hlen := hs.1.1
  show (PR (n + 3) AV).fadr _ _ _ = _
  simp only [Br, A5, Bw, Ba, A0, Bf, Bx, Bj, Bh, Cp]
  refine Ak (B3 (c := Am Ar o.fFl) hi.src (Bb rfl) rfl (Do ?_))
  rw [Ej, Ef, if_pos (by simpa using hlt)]
  refine Ak (B3 (c := x) hi.ho (Bb rfl) rfl (Ak (B3 (c := Am Ar o.fFl) hi.src (Bb rfl) rfl (Agu Bm (by decide) he (Hp (He (c := si y.fId) rfl (Ak (B3 (c := Am Ar o.fFl) hi.src (Bb rfl) rfl (Agu Bm (by decide) he (Hp (Jv (ds := Ao y.fM) (Bb rfl) rfl (Ak (B3 (c := Am Ar o.fFl) hi.src (Bb rfl) rfl (Agu Bm (by decide) he (Hp (He (c := si y.fSt) rfl ?_))))))))))))))))
  have hst := fun K h => P5 (β := AV) (n := n + 3) (X0 := []) (f := y) (K := K) (r := some (.agg (A9 o))) hi.hs rfl (Bl (Fo _ (Gb _)) Ds) (Qt (n + 2) y.fM hy) Oz (by omega) h
  simp only [zam] at hst
  refine hst _ fun x' H' ids' h1 h2 h3 h4 => Ak (hi.put h1 h2 h3 fun H'' hi' => ?_)
  rw [Ff _ _ (by omega)]
  have ih := Rs n hn o hs io i2 i1 q qids t (pre ++ [y]) m x' H'' ids' (by rw [he]; simp) (by simpa using hm) (by
   rw [zae, zal, za8, za1]
   simpa using hi')
  rw [zae, zal] at ih
  exact ih
theorem K8 (n : Nat) (hn : 1048576 < n) (o : Bv) (hs : Mi o) (io i2 i1 : Nat) (q : AV) (qids : List Nat) : ∀ (t pre : List Aj) (m : Nat) (x : AV) (H : Ab) (ids : List Nat), o.fFl = pre ++ t → t.length < m → OutI H io i2 i1 o x q pre.length (pre.map Ar).flatten ids qids →
  Pc (PR (n + 3) AV) (n + 3) (fun x H => A4 Aq E0.tp 27 H x) m (.ptr i2 0) (.ptr io 0) (Am Ar o.fFl) (si o.fFl.length) (si pre.length) H = some (.agg (A9 o))
 | [], pre, m + 1, x, H, ids, he, hm, hi => by
  rw [zam] at he
  show (PR (n + 3) AV).bin _ _ _ _ = _
  simp only [Br, A5, Bw, Ba, A0, Bf]
  rw [Ej, Ef, if_neg (by rw [he]; simp)]
  subst he
  exact hi.fin
 | y :: t, pre, m + 1, x, H, ids, he, hm, hi => by
  have hlt : pre.length < o.fFl.length := by rw [he]; simp
  have hy : y.fM.fBody.size ≤ 1048576 := hs.1.2 y (by rw [he]; simp)
  have hlen := hs.1.1
  obtain ⟨l1, l2, l3, l4⟩ := hi.lt
  show (PR (n + 3) AV).bin _ _ _ _ = _
  simp only [Br, A5, Bw, Ba, A0, Bf, Bx, Bj, Bh, Cp, Cj]
  rw [Ej, Ef, if_pos (by simpa using hlt)]
  refine Agu Bm (by decide) he (Jv (ds := Ar y) (Bb rfl) rfl (Ve rfl (Bm _) (Nz (E6 _)) fun i5 h5 => Ak (B3 (c := x) (Lw hi.ho _) (Bb rfl) rfl (Ak (B3 (c := si y.fId) h5 (Bb rfl) rfl (Ak (F1 (ds := Ao y.fM) h5 (Bb rfl) rfl (Ak (B3 (c := si y.fSt) h5 (Bb rfl) rfl (P5 (β := AV) (n := n + 3) (X0 := [⟨Ar y, true, true⟩]) (f := y) (r := some (.agg (A9 o))) hi.hs rfl (Bl (Fo _ (Gb _)) Ds) (V9 (n + 1) (by omega) y.fM hy) Oz (by omega) fun x' H' ids' h1 h2 h3 h4 => Ak (hi.put h1 h2 h3 fun H'' hi' => ?_)))))))))))
  rw [Ff _ _ (by omega)]
  have ih := K8 n hn o hs io i2 i1 q qids t (pre ++ [y]) m x' H'' ids' (by rw [he]; simp) (by simpa using hm) (by
   rw [zae, zal, za8, za1]
   simpa using hi')
  rw [zae, zal] at ih
  exact ih
theorem Aen (o : Bv) (A : AV × List Gh) (hA : Bp Aq E0.tp 2 25 (Am Ao o.fQ) = A) : OutI (([⟨A9 o, true, true⟩, ⟨Cs, true, true⟩] ++ A.2 ++ [⟨Cs, true, true⟩] : Ab).set (2 + A.2.length) ⟨[.sc (.int .i64 o.fLast), .nl, A.1], true, true⟩) (2 + A.2.length) 1 0 o .nl A.1 0 [] [] (zaV 2 A.2.length) := by
 have hlen : ([⟨A9 o, true, true⟩, ⟨Cs, true, true⟩] ++ A.2 : Ab).length = 2 + A.2.length := by simp; omega
 have e : ([⟨A9 o, true, true⟩, ⟨Cs, true, true⟩] ++ A.2 ++ [⟨Cs, true, true⟩] : Ab).set (2 + A.2.length) ⟨[si o.fLast, .nl, A.1], true, true⟩ = [⟨A9 o, true, true⟩, ⟨Cs, true, true⟩] ++ A.2 ++ [⟨[si o.fLast, .nl, A.1], true, true⟩] := by
  rw [← hlen]
  exact Zn _ _ _ []
 rw [e]
 refine ⟨?_, OwnSI.nil _ _ _ _, ?_, zaP, ⟨Cs, rfl, rfl⟩, rfl, by omega, by omega, by decide, by simp, ?_, by simp, ?_, by simp, by simp⟩
 rw [← hlen]
 exact Iu _ _ []
 rw [← hA]
 refine Fk 7 _ _ 2 (Gp (d := 6) Eg Kj (Ic 4) o.fQ) ?_
 rw [hA]
 exact K2 [(⟨A9 o, true, true⟩ : Gh), ⟨Cs, true, true⟩] A.2 _
 rw [zaJ]; omega
 rw [zaJ]; omega
theorem Aeo (o : Bv) (A : AV × List Gh) (hA : Bp Aq E0.tp 3 25 (Am Ao o.fQ) = A) : OutI (([⟨A9 o, true, true⟩, ⟨Cs, true, true⟩, ⟨Cs, true, true⟩] ++ A.2 : Ab).set 2 ⟨[.sc (.int .i64 o.fLast), .nl, A.1], true, true⟩) 2 1 0 o .nl A.1 0 [] [] (zaV 3 A.2.length) := by
 refine ⟨rfl, OwnSI.nil _ _ _ _, ?_, zaP, ⟨Cs, rfl, rfl⟩, rfl, by decide, by decide, by decide, by simp, ?_, by simp, ?_, by simp, by simp⟩
 rw [← hA]
 refine Fk 7 _ _ 3 (Gp (d := 6) Eg Kj (Ic 4) o.fQ) ?_
 rw [hA]
 exact Jk [(⟨A9 o, true, true⟩ : Gh), ⟨Cs, true, true⟩, (⟨[si o.fLast, .nl, A.1], true, true⟩ : Gh)] A.2
 rw [zaJ]; omega
 rw [zaJ]; omega
theorem Ms (N : Nat) (o : Bv) : Ap (Bp Aq E0.tp N 25 (Am Ao o.fQ)).1 = true := rfl
theorem Od (n : Nat) (hn : 1048576 < n) (o : Bv) (hs : Mi o) : C1 E0 (n + 4) 27 64 [.agg (A9 o)] = some (.agg (A9 o)) := by
 rw [A6, AhJ, f64]
 simp only [C4, Cj, Br, A5, Zy, Bj, Bf, Je]
 rw [K6 _ _ _ (G2 o)]
 simp only [zat, zah, zao, zav]
 have hz : ([⟨[i0, .nl, .nl], true, true⟩] : Ab) = [⟨Cs, true, true⟩] := rfl
 rw [hz]
 have hH : ([⟨A9 o, true, true⟩] ++ [⟨Cs, true, true⟩] : Ab)[0]? = some ⟨A9 o, true, true⟩ := rfl
 refine Ak (B3 (c := si o.fLast) hH (Bb rfl) rfl (Ak (B3 (c := Am Ao o.fQ) hH (Bb rfl) rfl (Ok ?_ ?_))))
 rw [Fe (vs := [Am Ao o.fQ]) rfl (Bl (Gk _ _ _) Ds) (Ob n hn o.fQ hs.2.1 hs.2.2)]
 have hl := Ms 2 o
 generalize hA : Bp Aq E0.tp 2 25 (Am Ao o.fQ) = A at hl
 have hA' : Bp Aq E0.tp ([⟨A9 o, true, true⟩] ++ [⟨Cs, true, true⟩] : Ab).length 25 (Am Ao o.fQ) = A := hA
 rw [hA']
 have hc1 : Cq A.1 = some [A.1] := by
  generalize A.1 = y at hl
  cases y <;> first | (simp [Ap] at hl; done) | (simp only [Cq, hl, if_true]) | rfl
 refine Nq (cs := [.sc (.int .i64 o.fLast), .nl, A.1]) (by simp only [Ek, hc1]; rfl) ?_
 have hlen : ([⟨A9 o, true, true⟩] ++ [⟨Cs, true, true⟩] ++ A.2 : Ab).length = 2 + A.2.length := by simp; omega
 have hg : ([⟨A9 o, true, true⟩] ++ [⟨Cs, true, true⟩] ++ A.2 ++ [⟨Cs, true, true⟩] : Ab)[2 + A.2.length]? = some ⟨Cs, true, true⟩ := by
  rw [← hlen]
  exact Iu _ _ []
 have hc : Cq (.agg [si o.fLast, .nl, A.1]) = some [si o.fLast, .nl, A.1] := by
  show (if (true && (true && (Ap A.1 && true))) = true then _ else none) = _
  rw [hl]
  rfl
 rw [hlen, Fl 3 (2 + A.2.length) 0 _ ⟨Cs, true, true⟩ [.sc (.int .i64 o.fLast), .nl, A.1] _ _ hg hc rfl (Bb rfl) rfl]
 exact Rs n hn o hs (2 + A.2.length) 1 0 A.1 _ o.fFl [] (n + 3) .nl _ [] rfl (by have := hs.1.1; omega) (Aen o A hA)
 rw [Fe (vs := [Am Ao o.fQ]) rfl (Bl (Gk _ _ _) Ds) (Ob n hn o.fQ hs.2.1 hs.2.2)]
 have hl := Ms 3 o
 generalize hA : Bp Aq E0.tp 3 25 (Am Ao o.fQ) = A at hl
 have hA' : Bp Aq E0.tp ([⟨A9 o, true, true⟩] ++ [⟨Cs, true, true⟩] ++ [⟨Cs, true, true⟩] : Ab).length 25 (Am Ao o.fQ) = A := hA
 rw [hA']
 have hc1 : Cq A.1 = some [A.1] := by
  generalize A.1 = y at hl
  cases y <;> first | (simp [Ap] at hl; done) | (simp only [Cq, hl, if_true]) | rfl
 refine Nq (cs := [.sc (.int .i64 o.fLast), .nl, A.1]) (by simp only [Ek, hc1]; rfl) ?_
 have hc : Cq (.agg [si o.fLast, .nl, A.1]) = some [si o.fLast, .nl, A.1] := by
  show (if (true && (true && (Ap A.1 && true))) = true then _ else none) = _
  rw [hl]
  rfl
 rw [show ([⟨A9 o, true, true⟩] ++ [⟨Cs, true, true⟩] : Ab).length = 2 from rfl]
 rw [Fl 3 2 0 _ ⟨Cs, true, true⟩ [.sc (.int .i64 o.fLast), .nl, A.1] _ _ rfl hc rfl (Bb rfl) rfl]
 exact Rs n hn o hs 2 1 0 A.1 _ o.fFl [] (n + 3) .nl _ [] rfl (by have := hs.1.1; omega) (Aeo o A hA)
theorem Acp (n : Nat) (hn : 1048576 < n) (o : Bv) (hs : Mi o) : C1 E0 (n + 4) 27 62 [.agg (A9 o)] = some (.agg (A9 o)) := by
 rw [A6, AhI, f62]
 simp only [C4, Cj, Br, A5, Zy, Bj, Bf, Bw, Je]
 rw [K6 _ _ _ (G2 o)]
 simp only [zat, zah, zao, zav]
 have hz : ([⟨[i0, .nl, .nl], true, true⟩] : Ab) = [⟨Cs, true, true⟩] := rfl
 rw [hz]
 have hH : ([⟨A9 o, true, true⟩] ++ [⟨Cs, true, true⟩] : Ab)[0]? = some ⟨A9 o, true, true⟩ := rfl
 refine Ak (B3 (c := si o.fLast) hH (Bb rfl) rfl (Ak (B3 (c := Am Ao o.fQ) hH (Bb rfl) rfl (Ok ?_ ?_))))
 rw [Fe (vs := [Am Ao o.fQ]) rfl (Bl (Gk _ _ _) Ds) (Tl n hn o.fQ hs.2.1 hs.2.2)]
 have hl := Ms 2 o
 generalize hA : Bp Aq E0.tp 2 25 (Am Ao o.fQ) = A at hl
 have hA' : Bp Aq E0.tp ([⟨A9 o, true, true⟩] ++ [⟨Cs, true, true⟩] : Ab).length 25 (Am Ao o.fQ) = A := hA
 rw [hA']
 have hc1 : Cq A.1 = some [A.1] := by
  generalize A.1 = y at hl
  cases y <;> first | (simp [Ap] at hl; done) | (simp only [Cq, hl, if_true]) | rfl
 refine Nq (cs := [.sc (.int .i64 o.fLast), .nl, A.1]) (by simp only [Ek, hc1]; rfl) ?_
 have hlen : ([⟨A9 o, true, true⟩] ++ [⟨Cs, true, true⟩] ++ A.2 : Ab).length = 2 + A.2.length := by simp; omega
 have hg : ([⟨A9 o, true, true⟩] ++ [⟨Cs, true, true⟩] ++ A.2 ++ [⟨Cs, true, true⟩] : Ab)[2 + A.2.length]? = some ⟨Cs, true, true⟩ := by
  rw [← hlen]
  exact Iu _ _ []
 have hc : Cq (.agg [si o.fLast, .nl, A.1]) = some [si o.fLast, .nl, A.1] := by
  show (if (true && (true && (Ap A.1 && true))) = true then _ else none) = _
  rw [hl]
  rfl
 rw [hlen, Fl 3 (2 + A.2.length) 0 _ ⟨Cs, true, true⟩ [.sc (.int .i64 o.fLast), .nl, A.1] _ _ hg hc rfl (Bb rfl) rfl]
 have hI := Aen o A hA
 exact Ak (B3 (c := Am Ar o.fFl) hI.src (Bb rfl) rfl (Do (K8 n hn o hs (2 + A.2.length) 1 0 A.1 _ o.fFl [] (n + 3) .nl _ [] rfl (by have := hs.1.1; omega) hI)))
 rw [Fe (vs := [Am Ao o.fQ]) rfl (Bl (Gk _ _ _) Ds) (Tl n hn o.fQ hs.2.1 hs.2.2)]
 have hl := Ms 3 o
 generalize hA : Bp Aq E0.tp 3 25 (Am Ao o.fQ) = A at hl
 have hA' : Bp Aq E0.tp ([⟨A9 o, true, true⟩] ++ [⟨Cs, true, true⟩] ++ [⟨Cs, true, true⟩] : Ab).length 25 (Am Ao o.fQ) = A := hA
 rw [hA']
 have hc1 : Cq A.1 = some [A.1] := by
  generalize A.1 = y at hl
  cases y <;> first | (simp [Ap] at hl; done) | (simp only [Cq, hl, if_true]) | rfl
 refine Nq (cs := [.sc (.int .i64 o.fLast), .nl, A.1]) (by simp only [Ek, hc1]; rfl) ?_
 have hc : Cq (.agg [si o.fLast, .nl, A.1]) = some [si o.fLast, .nl, A.1] := by
  show (if (true && (true && (Ap A.1 && true))) = true then _ else none) = _
  rw [hl]
  rfl
 rw [show ([⟨A9 o, true, true⟩] ++ [⟨Cs, true, true⟩] : Ab).length = 2 from rfl]
 rw [Fl 3 2 0 _ ⟨Cs, true, true⟩ [.sc (.int .i64 o.fLast), .nl, A.1] _ _ rfl hc rfl (Bb rfl) rfl]
 have hI := Aeo o A hA
 exact Ak (B3 (c := Am Ar o.fFl) hI.src (Bb rfl) rfl (Do (K8 n hn o hs 2 1 0 A.1 _ o.fFl [] (n + 3) .nl _ [] rfl (by have := hs.1.1; omega) hI)))
end
section
open Go
variable {α : Type}
theorem Ae0 {wt : α → Nat} (sm : α → Prop) (hs : ∀ x, wt x ≤ 1048576 → sm x) (l : List α) (h : Ft wt l ≤ 1048576) : l.length ≤ 1048576 ∧ ∀ y ∈ l, sm y := by
 have h1 := Kl wt l
 refine ⟨by omega, fun y hy => hs y ?_⟩
 have h2 := O5 (wt := wt) hy
 omega
def Sk (x : Cz) : Prop := x.fBody.size ≤ 1048576 ∧ True
theorem Sl (x : Cz) (h : B4 x ≤ 1048576) : Sk x := by
 have h0 := h
 unfold B4 at h0
 exact ⟨by omega, trivial⟩
def Mh (x : Aj) : Prop := x.fM.fBody.size ≤ 1048576 ∧ True
theorem Uh (x : Aj) (h : A1 x ≤ 1048576) : Mh x := by
 have h0 := h
 unfold A1 B4 at h0
 exact ⟨by omega, trivial⟩
def AjP (x : Bv) : Prop := (x.fFl.length ≤ 1048576 ∧ ∀ y ∈ x.fFl, Mh y) ∧ (x.fQ.length ≤ 1048576 ∧ ∀ y ∈ x.fQ, Sk y) ∧ True
theorem Zp (x : Bv) (h : Eu x ≤ 1048576) : AjP x := by
 have e0 := Kl A1 x.fFl
 have e1 := Kl B4 x.fQ
 have h0 := h
 unfold Eu at h0
 exact ⟨Ae0 Mh Uh _ (by omega), Ae0 Sk Sl _ (by omega), trivial⟩
def Ai2 (x : At) : Prop := (x.fO.fFl.length ≤ 1048576 ∧ ∀ y ∈ x.fO.fFl, Mh y) ∧ (x.fO.fQ.length ≤ 1048576 ∧ ∀ y ∈ x.fO.fQ, Sk y) ∧ x.fIn.length ≤ 1048576 ∧ True
theorem Agp (x : At) (h : Kn x ≤ 1048576) : Ai2 x := by
 have e0 := Kl A1 x.fO.fFl
 have e1 := Kl B4 x.fO.fQ
 have h0 := h
 unfold Kn Eu at h0
 exact ⟨Ae0 Mh Uh _ (by omega), Ae0 Sk Sl _ (by omega), by omega, trivial⟩
end
section
open Go
def AjH : Cz := ⟨⟨#[]⟩, ⟨#[]⟩, 0, false⟩
def Ax (l : List Cz) : Cz := l.headD AjH
def AgS (l : List Cz) : Bool := !l.isEmpty
theorem Xm {ty : Nat} {H : Ab} {ts : List Nat} {raw cells : List AV} {ids : List Nat} (hts : E0.tp ty = some ts) (h : Ce (B0 Aq E0.tp H 7) ts raw = some (cells, ids)) (hn : ids.Nodup) : A4 Aq E0.tp ty H (.tup raw) = some (.tup cells) := by
 rw [A4, Fy, hts, zab, h, zab, zab, if_pos hn]
theorem AjL {H : Ab} {t0 t1 t2 : Nat} {x0 x1 : AV} {v : Value} {a b : AV × List Nat} (h0 : B0 Aq E0.tp H 7 t0 x0 = some a) (h1 : B0 Aq E0.tp H 7 t1 x1 = some b) : Ce (B0 Aq E0.tp H 7) [t0, t1, t2] [x0, x1, .sc v] = some ([a.1, b.1, .sc v], a.2 ++ b.2) := by
 simp only [Ce, h0, h1, G7, zab, zam]
theorem Aiy (H : Ab) : B0 Aq E0.tp H 7 33 (.agg Hq) = some (.agg (Ao AjH), []) := by
 obtain ⟨i, hi, hc⟩ := Oz
 rw [Ee, hi, zab, hc]
 rfl
theorem Aeq {H : Ab} {raw cells : List AV} {ids : List Nat} (h : Ce (B0 Aq E0.tp H 6) Gy raw = some (cells, ids)) : B0 Aq E0.tp H 7 33 (.agg raw) = some (.agg cells, ids) := by
 obtain ⟨i, hi, hc⟩ := Oz
 rw [Ee, hi, zab, hc, h]
 rfl
theorem AbS (n : Nat) (hn : 1048576 < n) (x0 : List Cz) (k0 : x0.length ≤ 9223372036854775807 ∧ ∀ z ∈ x0, Dj z) (b0 : Ft B4 x0 ≤ 1048576) : C1 E0 (n + 4) 100 129 [Am Ao x0] = some (.tup [Am Ao x0.tail, .agg (Ao (Ax x0)), .sc (.bool (AgS x0))]) := by
 have hlen : x0.length ≤ 1048576 := by have := Kl B4 x0; omega
 have hs : ∀ x ∈ x0, x.fBody.size ≤ 1048576 := by
  intro x hx
  have h1 := Kl B4 x0
  have h2 := O5 (wt := B4) hx
  have h3 : B4 x = x.fTopic.size + (x.fBody.size + 0) := rfl
  omega
 rw [A6, Afn, f129]
 simp only [Cj, Bw, Ba, A0, Bj, Bf, A5, Cw, Bx, Je, zat, zah]
 have hz : ([⟨[sE, .nl, i0, bF], true, true⟩] : Ab) = [⟨Hq, true, true⟩] := rfl
 rw [hz]
 refine Do ?_
 cases x0 with
 | nil =>
  refine A2 (v := bT) (fun k => rfl) (E2 rfl (Nq (cs := Hq) rfl ?_))
  rw [Fl 4 0 0 _ ⟨Hq, true, true⟩ Hq _ _ rfl rfl rfl (by decide) rfl]
  exact F1 (ds := Hq) (cs := Hq) rfl (zai _) rfl (Xm rfl (AjL (a := (.ro 0 [], [])) rfl (Aiy _)) zb3)
 | cons m l =>
  have hm : m.fBody.size ≤ 1048576 := hs m za6
  refine A2 (v := bF) (fun k => ?_) ?_
  show k (.sc (.bool (((m :: l).length : Int) == 0))) = _
  have e : (((m :: l).length : Int) == 0) = false := by
   rw [beq_eq_false_iff_ne]
   intro h
   have : (m :: l).length = l.length + 1 := rfl
   omega
  rw [e]
  refine Fc rfl ?_
  have hsl := Zo Eg (m :: l) 1 (by simp) (β := AV)
  have hsl' : ∀ k : AV → Option AV, Iv 4 (Am Ao (m :: l)) (some (si 1)) none k = k (Am Ao l) := fun k => hsl k
  rw [hsl']
  have hel := fun k => M4 (β := AV) Eg (by decide) [] m l k
  simp only [zah, zat, zbg] at hel
  rw [hel, Tw 4 _ _ _ _ (Eg m)]
  rw [Fe (vs := [Am Ao l]) rfl (Bl (Gk _ _ _) Ds) (Ob n hn l (by simp at hlen; omega) fun x hx => hs x (zaw _ hx))]
  rw [Fe (vs := [.agg (Ao m)]) rfl (Bl (Fo _ (Gb m)) Ds) (Qt (n + 2) m hm)]
  obtain ⟨i, hi, hc⟩ := Oz
  rw [Ge, hi, za5, hc]
  simp only
  generalize hA : Bp Aq E0.tp ([⟨Hq, true, true⟩] : Ab).length 25 (Am Ao l) = A
  generalize hB : Bz Aq E0.tp ([⟨Hq, true, true⟩] ++ A.2 : Ab).length Gy (Ao m) = B
  have hBl : B.1.length = 4 := by rw [← hB, Jh]; rfl
  have hBc : Cq (.agg B.1) = some B.1 := by
   show (if _ then _ else none) = _
   rw [if_pos (by rw [← hB]; exact Jp _ _ _ (Gb m))]
  have hsp : Cf Hq 0 B.1 = B.1 := by
   unfold Cf
   rw [zbF, zah, zaW (by rw [hBl]; decide), zam]
  rw [Fl 4 0 0 _ ⟨Hq, true, true⟩ B.1 _ _ rfl hBc hBl (by decide) rfl]
  simp only [hsp]
  have hH : ([⟨Hq, true, true⟩] ++ A.2 ++ B.2 : Ab).set 0 ⟨B.1, true, true⟩ = ⟨B.1, true, true⟩ :: (A.2 ++ B.2) := by simp
  rw [hH]
  refine F1 (ds := B.1) (cs := B.1) rfl (by omega) (by rw [za7, ← hBl, za3]) ?_
  have hA1 : A = Bp Aq E0.tp 1 25 (Am Ao l) := hA.symm
  have hNB : ([⟨Hq, true, true⟩] ++ A.2 : Ab).length = 1 + A.2.length := by simp; omega
  rw [hNB] at hB
  have o1 : B0 Aq E0.tp (⟨B.1, true, true⟩ :: (A.2 ++ B.2)) 7 25 A.1 = some (Am Ao l, zaV 1 A.2.length) := by
   rw [hA1]
   refine Fk 7 _ _ 1 (Gp (d := 6) Eg Kj (Ic 4) l) ?_
   have := K2 [⟨B.1, true, true⟩] (Bp Aq E0.tp 1 25 (Am Ao l)).2 B.2
   exact this
  have o2 : Ce (B0 Aq E0.tp (⟨B.1, true, true⟩ :: (A.2 ++ B.2)) 6) Gy B.1 = some (Ao m, zaV (1 + A.2.length) B.2.length) := by
   rw [← hB]
   refine Id (fun ty t N h h' _ => Fk 6 ty t N h h') Gy (Ao m) (1 + A.2.length) (Ic 4 m) ?_ (Er _ _ _)
   have := Jk (⟨B.1, true, true⟩ :: A.2) B.2
   rw [zao, zbD] at this
   rw [hB]
   exact this
  refine Xm rfl (AjL o1 (Aeq o2)) ?_
  have := List.range'_append (s := 1) (m := A.2.length) (n := B.2.length) (step := 1)
  rw [zbw] at this
  rw [this]
  exact zaP
theorem Zm (x0 : List Cz) (b0 : Ft B4 x0 ≤ 1048576) : B4 (Ax x0) ≤ 1048576 ∧ Sk (Ax x0) := by
 have h : B4 (Ax x0) ≤ 1048576 := by
  cases x0 with
  | nil => decide
  | cons m l =>
   have : Ft B4 (m :: l) = 1 + B4 m + Ft B4 l := rfl
   show B4 m ≤ _
   omega
 exact ⟨h, Sl _ h⟩
end
section
open Go
def Qk : B5 := ⟨0, false, 0, false, 0, ⟨#[]⟩, ⟨#[]⟩, ⟨#[]⟩, 0, false, 0, false, ⟨#[]⟩, ⟨#[]⟩, 0, false, false, ⟨#[]⟩, false, ⟨#[]⟩, 0, false, [], [], []⟩
end
end Go.Proofs.YtdofipeaomgbbaaGreatDoor.Abs
set_option maxHeartbeats 1600000
namespace Go.Proofs.YtdofipeaomgbbaaGreatDoor.Abs
open _root_.Option renaming bind_eq_some_iff → zaa, bind_some → zab, getD_some → za5
open _root_.List renaming getElem?_eq_some_iff → zac, replicate → zad, length_append → zae, getElem?_append_right → zaf, getElem?_append_left → zag, nil_append → zah, append_assoc → zaj, length_singleton → zal, append_nil → zam, length_cons → zao, mem_append_right → zaq, length_nil → zat, mem_append_left → zau, mem_cons_of_mem → zaw, cons_append → zax, mem_cons → zay, map_cons → za0, flatten_append → za1, take_length → za3, getElem?_set_ne → za4, mem_cons_self → za6, drop_zero → za7, map_append → za8, replicate_append_replicate → zaA, mem_append → zaB, flatten_cons → zaD, all_eq_true → zaF, nodup_cons → zaG, length_drop → zaH, nodup_append → zaI, mem_range'_1 → zaJ, length_take → zaK, nodup_range' → zaP, take_append_drop → zaR, range' → zaV, drop_of_length_le → zaW, getElem?_set_self → zaX, all_cons → zaY, drop_drop → zbb, length_set → zbf, take_of_length_le → zbh, any_cons → zbt, map_nil → zbv, length_map → zb0, Perm → zb1, nodup_nil → zb3, headD_cons → zb9, drop_left' → zbA, tail_cons → zbC, take_zero → zbF
open _root_.Nat renaming le_refl → zai, le_trans → zar, zero_add → zav, sub_self → zaL, add_assoc → zaO, min_eq_left → zaQ, add_mul → zaU, add_zero → zaZ, mul_le_mul_right → zbd, zero_le → zbm, one_mul → zbw, add_comm → zbD, succ_mul → zbG
open _root_.Bool renaming false_eq_true → zan, eq_iff_iff → zaM, false_or → zbp
open _root_.Int renaming natCast_zero → zbg, toNat_natCast → zbi
section
open Go
def Cm (m : Cz) (i : Int) (d : Bool) : B5 := ⟨3, d, m.fQos, m.fRetain, i, m.fTopic, m.fBody, ⟨#[]⟩, 0, false, 0, false, ⟨#[]⟩, ⟨#[]⟩, 0, false, false, ⟨#[]⟩, false, ⟨#[]⟩, 0, false, [], [], []⟩
theorem Xj (n : Nat) (hn : 1048576 < n) (m : Cz) (i : Int) (d : Bool) (hs : m.fBody.size ≤ 1048576) : C1 E0 (n + 1) 41 130 [.agg (Ao m), .sc (.int .i64 i), .sc (.bool d)] = some (.agg (C7 (Cm m i d))) := by
 rw [A6, Afo, f130]
 refine H0 (G := (· = some (.agg (C7 (Cm m i d))))) ?_
 try simp only [Te, Td]
 have s0 : Sep [] [] := Hz
 refine N3 s0 (G1 (Gb _)) fun i1 H s2 => D1 s2 fun i3 H s4 => An (o' := 2) rfl (Bg (c := si m.fQos) s4 Aw rfl (An (o' := 3) rfl (Bg (c := sb m.fRetain) s4 Aw rfl (An (o' := 0) rfl (Bg (c := ss m.fTopic) s4 Aw rfl (An (o' := 1) rfl (Bg (c := Bt m.fBody) s4 Aw rfl (AfA s4 (by omega) fun x5 H lx5 s6 => ?_))))))))
 refine Az (cs := [si 3, sb d, si m.fQos, sb m.fRetain, si i, ss m.fTopic, x5, sE, i0, bF, i0, bF, sE, .nl, i0, bF, bF, sE, bF, .nl, i0, bF, .nl, .nl, .nl]) (Gl (z' := [si 3, bF, i0, bF, i0, sE, .nl, sE, i0, bF, i0, bF, sE, .nl, i0, bF, bF, sE, bF, .nl, i0, bF, .nl, .nl, .nl]) (D0 rfl) rfl (Bb rfl) rfl (Gl (z' := [si 3, sb d, i0, bF, i0, sE, .nl, sE, i0, bF, i0, bF, sE, .nl, i0, bF, bF, sE, bF, .nl, i0, bF, .nl, .nl, .nl]) (D0 rfl) rfl (Bb rfl) rfl (Gl (z' := [si 3, sb d, si m.fQos, bF, i0, sE, .nl, sE, i0, bF, i0, bF, sE, .nl, i0, bF, bF, sE, bF, .nl, i0, bF, .nl, .nl, .nl]) (D0 rfl) rfl (Bb rfl) rfl (Gl (z' := [si 3, sb d, si m.fQos, sb m.fRetain, i0, sE, .nl, sE, i0, bF, i0, bF, sE, .nl, i0, bF, bF, sE, bF, .nl, i0, bF, .nl, .nl, .nl]) (D0 rfl) rfl (Bb rfl) rfl (Gl (z' := [si 3, sb d, si m.fQos, sb m.fRetain, si i, sE, .nl, sE, i0, bF, i0, bF, sE, .nl, i0, bF, bF, sE, bF, .nl, i0, bF, .nl, .nl, .nl]) (D0 rfl) rfl (Bb rfl) rfl (Gl (z' := [si 3, sb d, si m.fQos, sb m.fRetain, si i, ss m.fTopic, .nl, sE, i0, bF, i0, bF, sE, .nl, i0, bF, bF, sE, bF, .nl, i0, bF, .nl, .nl, .nl]) (D0 rfl) rfl (Bb rfl) rfl (Gl (z' := [si 3, sb d, si m.fQos, sb m.fRetain, si i, ss m.fTopic, x5, sE, i0, bF, i0, bF, sE, .nl, i0, bF, bF, sE, bF, .nl, i0, bF, .nl, .nl, .nl]) (D0 lx5) rfl (Bb rfl) rfl (rfl)))))))) ?_
 refine Bi (cs' := [si 3, sb d, si m.fQos, sb m.fRetain, si i, ss m.fTopic, x5, sE, i0, bF, i0, bF, sE, .nl, i0, bF, bF, sE, bF, .nl, i0, bF, .nl, .nl, .nl]) s6 Aw (Ac (Aa rfl (Aa rfl (Aa rfl (Aa rfl (Aa rfl (Aa rfl (Aa lx5 rfl)))))))) rfl (Bb rfl) rfl fun H s7 => Ag s7 (.here) rfl (D5 (Ha s7 ⟨_, rfl, rfl⟩ (Lh (.own Aw (Lh (.nl (Ws (.nl (.sc (.sc (.nl (.nl (.nl .nil))))))))))) (Lm ⟨(A7 (Jd m.fBody) (by decide)), (Lm ⟨H6, (Vm ⟨H6, (S6 ⟨H6, ⟨H6, ⟨H6, trivial⟩⟩⟩)⟩)⟩)⟩)) ?_)
 have e8 : Cm m i d = (⟨3, d, m.fQos, m.fRetain, i, m.fTopic, m.fBody, ⟨#[]⟩, 0, false, 0, false, ⟨#[]⟩, ⟨#[]⟩, 0, false, false, ⟨#[]⟩, false, ⟨#[]⟩, 0, false, [], [], []⟩ : B5) := by
  clear s0 s2 s4 s6 s7
  first | assumption | (simp only [Cm, if_true, if_false, zan]; first | done | rfl)
 ·rw [e8]
  first | done | rfl
end
section
open Go
def nx (x : Int) : Int := x % 65535 + 1
def Kh (used : List Int) : Nat → Int → Int × Bool
 | 0, _ => (0, false)
 | k + 1, x => if used.contains (nx x) then Kh used k (nx x) else (nx x, true)
def orb : Nat → Int → List Int
 | 0, _ => []
 | k + 1, x => nx x :: orb k (nx x)
theorem Aaz : ∀ (k : Nat) (x : Int), (orb k x).length = k
 | 0, _ => rfl
 | k + 1, x => by rw [orb, zao, Aaz k]
theorem Aa0 : ∀ (k : Nat) (x y : Int), 0 ≤ x → y ∈ orb k x → ∃ i : Nat, i < k ∧ y = (x + i) % 65535 + 1
 | 0, _, _, _, h => by cases h
 | k + 1, x, y, h0, h => by
  rcases zay.1 h with rfl | h
  exact ⟨0, by omega, by unfold nx; simp⟩
  obtain ⟨i, hi, rfl⟩ := Aa0 k (nx x) y (by unfold nx; omega) h
  refine ⟨i + 1, by omega, ?_⟩
  unfold nx
  omega
theorem T4 : ∀ (k : Nat) (x : Int), 0 ≤ x → k ≤ 65535 → (orb k x).Nodup
 | 0, _, _, _ => zb3
 | k + 1, x, h0, hk => by
  rw [orb, zaG]
  refine ⟨fun hm => ?_, T4 k _ (by unfold nx; omega) (by omega)⟩
  obtain ⟨i, hi, e⟩ := Aa0 k (nx x) (nx x) (by unfold nx; omega) hm
  unfold nx at e
  omega
theorem Ug : ∀ (used : List Int) (k : Nat) (x : Int), (Kh used k x).2 = false → ∀ y ∈ orb k x, y ∈ used
 | used, 0, _, _, y, hy => by cases hy
 | used, k + 1, x, h, y, hy => by
  rw [Kh] at h
  split at h
  rename_i hc
  rcases zay.1 hy with rfl | hy
  exact List.contains_iff_mem.1 hc
  exact Ug used k _ h y hy
  cases h
theorem Uf : ∀ (used : List Int) (k j : Nat) (x : Int), (Kh used k x).2 = true → Kh used (k + j) x = Kh used k x
 | used, 0, _, _, h => by cases h
 | used, k + 1, j, x, h => by
  rw [show k + 1 + j = (k + j) + 1 by omega, Kh, Kh]
  rw [Kh] at h
  split
  rename_i hc
  rw [if_pos hc] at h
  exact Uf used k j _ h
  rfl
theorem Tz : ∀ (l u : List Int), l.Nodup → (∀ y ∈ l, y ∈ u) → l.length ≤ u.length
 | [], u, _, _ => zbm _
 | x :: l, u, h, hs => by
  rw [zaG] at h
  have hx : x ∈ u := hs x za6
  have h1 := Tz l (u.erase x) h.2 fun y hy => (List.mem_erase_of_ne (fun (e : y = x) => h.1 (e ▸ hy))).2 (hs y (zaw _ hy))
  rw [List.length_erase_of_mem hx] at h1
  have := List.length_pos_of_mem hx
  rw [zao]
  omega
theorem Agn (used : List Int) (x : Int) (h0 : 0 ≤ x) : Kh used 65535 x = Kh used (min (used.length + 1) 65535) x := by
 by_cases h : used.length + 1 < 65535
 rw [zaQ (by omega)]
 cases hs : (Kh used (used.length + 1) x).2
 exfalso
 have h1 := Tz _ used (T4 (used.length + 1) x h0 (by omega)) (Ug used _ x hs)
 rw [Aaz] at h1
 omega
 have := Uf used (used.length + 1) (65535 - (used.length + 1)) x hs
 rw [show used.length + 1 + (65535 - (used.length + 1)) = 65535 by omega] at this
 exact this
 rw [Nat.min_eq_right (by omega)]
def Co (last : Int) (used : List Int) : Int × Bool := if 0 ≤ last ∧ last ≤ 65535 then Kh used 65535 last else (0, false)
end
section
open Go
variable {β : Type} {n : Nat} {r : Option β}
end
section
open Go
theorem Tr (n : Nat) (u : List Int) (hu : u.length ≤ 1048576) (z : Int) (k : AV → Ab → Option AV) : ∀ (t pre : List Int) (m : Nat) (i : Int) (H : Ab), u = pre ++ t → i = ((pre.length : Nat) : Int) → t.length < m → Le (PR n AV) n k m (Df u) (.sc (.int .i64 z)) (.sc (.int .i64 i)) H = k (.sc (.bool (t.contains z))) H
 | [], pre, m + 1, i, H, he, hi, hm => by
  rw [zam] at he
  subst he
  rw [Le]
  simp only [Bw, Ba, A0]
  refine Do (A2 (v := .sc (.bool (decide (i < (u.length : Nat))))) (fun k => rfl) (Fc (by simp [hi]) ?_))
  rfl
 | y :: t, pre, m + 1, i, H, he, hi, hm => by
  have hlt : pre.length < u.length := by rw [he]; simp
  rw [Le]
  simp only [Bw, Ba, A0, Bx, A5]
  refine Do (A2 (v := .sc (.bool (decide (i < (u.length : Nat))))) (fun k => rfl) (E2 (by simp [hi]; omega) ((show Gd (· = k (.sc (.bool ((y :: t).contains z))) H) _ from ?_))))
  refine Ph hi he (Aap (c := si y) rfl (Cd ?_))
  by_cases hy : y = z
  refine Dk (by simpa using hy) ?_
  show k _ H = k _ H
  simp [hy]
  refine Ci (by simpa using hy) (Hm (by omega) (by omega) ?_)
  have ih := Tr n u hu z k t (pre ++ [y]) m (i + 1) H (by rw [he]; simp) (by rw [hi]; simp) (by simpa using hm)
  refine ih.trans ?_
  have e : (y :: t).contains z = t.contains z := by
   rw [List.contains_cons]
   simp [Ne.symm hy]
  rw [e]
theorem AjE (n ty : Nat) (hn : 1048576 < n) (u : List Int) (hu : u.length ≤ 1048576) (z : Int) : C1 E0 (n + 1) ty 139 [Df u, .sc (.int .i64 z)] = some (.sc (.bool (u.contains z))) := by
 rw [A6, Afr, f139]
 exact Tr n u hu z _ u [] n 0 [] rfl rfl (by omega)
theorem AjK (x : Int) (h0 : 0 ≤ x) (h1 : x ≤ 65535) : nx x = if x + 1 > 65535 then 1 else x + 1 := by
 unfold nx
 split <;> omega
theorem Ze (n : Nat) (hn : 1048576 < n) (u : List Int) (hu : u.length ≤ 1048576) (k : AV → Ab → Option AV) (H : Ab) : ∀ (j m : Nat) (x c : Int), 0 ≤ c → c + j = min ((u.length : Int) + 1) 65535 → j < m → 0 ≤ x → x ≤ 65535 →
  Ka (PR (n + 1) AV) (n + 1) k m (Df u) (si x) (si c) H = k (.tup [.sc (.int .i64 (Kh u j x).1), .sc (.bool (Kh u j x).2)]) H := by
 intro j
 induction j with
 | zero =>
  intro m x c h0 hc hm hx0 hx1
  obtain ⟨m, rfl⟩ : ∃ m', m = m' + 1 := ⟨m - 1, by omega⟩
  rw [Ka]
  simp only [Bw, Ba, A0, Bs, Pr.gT, Pr.gF, Pr.hT, Pr.hF, Pr.kT, Pr.kF, B7]
  refine Do (A2 (v := sb (decide (c ≤ (u.length : Nat)))) (fun k => rfl) ?_)
  by_cases hl : c ≤ (u.length : Nat)
  refine As (by simpa using hl) (As (by simpa using hl) (A2 (v := .sc (.bool (decide (c < 65535)))) (fun k => rfl) (S2 (by simpa using hl) (Fc (by simp; omega) ?_))))
  rfl
  refine Av (by simpa using hl) (Av (by simpa using hl) (Tc (by simpa using hl) (Fc rfl ?_)))
  rfl
 | succ j ih =>
  intro m x c h0 hc hm hx0 hx1
  obtain ⟨m, rfl⟩ : ∃ m', m = m' + 1 := ⟨m - 1, by omega⟩
  rw [Ka]
  simp only [Bw, Ba, A0, Bs, Pr.gT, Pr.gF, Pr.hT, Pr.hF, Pr.kT, Pr.kF, B7, Ea]
  refine Do (A2 (v := sb (decide (c ≤ (u.length : Nat)))) (fun k => rfl) ?_)
  have hl : c ≤ (u.length : Nat) := by omega
  refine As (by simpa using hl) (As (by simpa using hl) (A2 (v := .sc (.bool (decide (c < 65535)))) (fun k => rfl) (S2 (by simpa using hl) (E2 (by simp; omega) (A2 (v := .sc (.int .i64 (x + 1))) (fun k => by rw [Qz, Fd _ (by omega) (by omega)]) (A2 (v := .sc (.bool (decide (x + 1 > 65535)))) (fun k => rfl) (Zx ?_)))))))
  have hnx := AjK x hx0 hx1
  have hr : 0 ≤ nx x ∧ nx x ≤ 65535 := by
   unfold nx
   omega
  have tail : ∀ y, y = nx x → ((PR (n + 1) AV).call 4 (.fn 139 [] []) [Df u, si y] H fun t28 H => pUn .not t28 fun t29 => G5 t29 (k (Bu [si y, bT]) H) (E8 .add (si c) (si 1) fun t21 => Ka (PR (n + 1) AV) (n + 1) k m (Df u) (si y) t21 H)) = k (.tup [.sc (.int .i64 (Kh u (j + 1) x).1), .sc (.bool (Kh u (j + 1) x).2)]) H := by
   rintro y rfl
   refine Dr rfl (Bl (Gk _ _ _) (Bl (Cu _ _) Ds)) (AjE n _ hn u hu (nx x)) (Gw ?_)
   rw [Kh]
   cases hh : u.contains (nx x)
   refine E2 rfl ?_
   rfl
   exact Fc rfl (A2 (v := .sc (.int .i64 (c + 1))) (fun k => by rw [Qz, Fd _ (by omega) (by omega)]) (ih m (nx x) (c + 1) (by omega) (by omega) (by omega) hr.1 hr.2))
  by_cases hg : x + 1 > 65535
  refine E2 (by simpa using hg) ?_
  rw [if_pos hg] at hnx
  exact tail 1 hnx.symm
  refine Fc (by simpa using hg) ?_
  rw [if_neg hg] at hnx
  exact tail (x + 1) hnx.symm
theorem Aa9 {ty : Nat} {H : Ab} {t0 t1 : Nat} {a b : Value} (hts : E0.tp ty = some [t0, t1]) : A4 Aq E0.tp ty H (.tup [.sc a, .sc b]) = some (.tup [.sc a, .sc b]) := by
 rw [A4, Fy, hts, zab]
 simp [Ce, G7]
theorem AbT (n : Nat) (hn : 1048576 < n) (ty : Nat) (hty : ∃ t0 t1, E0.tp ty = some [t0, t1]) (x : Int) (u : List Int) (hu : u.length ≤ 1048576) : C1 E0 (n + 2) ty 131 [.sc (.int .i64 x), Df u] = some (.tup [.sc (.int .i64 (Co x u).1), .sc (.bool (Co x u).2)]) := by
 obtain ⟨t0, t1, hty⟩ := hty
 rw [A6, Afp, f131]
 simp only [Ea, A0]
 refine Dr rfl (Bl (Cu _ _) (Bl (Cu _ _) (Bl (Cu _ _) Ds))) (Ma n _ x 0 65535) (Gw ?_)
 unfold Co
 by_cases h : 0 ≤ x ∧ x ≤ 65535
 rw [if_pos h]
 refine Fc (by simp [Ga, h]) ?_
 rw [Ze n hn u hu _ _ (min (u.length + 1) 65535) (n + 1) x 0 (by omega) (by omega) (by omega) h.1 h.2, Agn u x h.1]
 exact Aa9 hty
 rw [if_neg h]
 exact E2 (by simp [Ga]; omega) (Aa9 hty)
end
section
open Go
theorem Ak0 (o : Bv) (h : Eu o ≤ 1048576) : Mi o := by
 have h1 := Zp o h
 exact ⟨⟨h1.1.1, fun y hy => (h1.1.2 y hy).1⟩, ⟨h1.2.1.1, fun y hy => (h1.2.1.2 y hy).1⟩⟩
def Ig (o : Bv) : Bool := ((Gs o && decide ((o.fQ.length : Int) > 0)) && ((o.fQ.headD Wq).fQos == 0 || decide ((o.fFl.length : Int) < 3)))
def Fm (o : Bv) : Int := (Co o.fLast (o.fFl.map (·.fId))).1
def Ai (o : Bv) : Bv := if Ig o then (if (Ax o.fQ).fQos = 0 then { o with fQ := o.fQ.tail } else ⟨Fm o, o.fFl ++ [⟨Fm o, Ax o.fQ, (Ax o.fQ).fQos⟩], o.fQ.tail⟩) else o
def B9 (o : Bv) : B5 := if Ig o then (if (Ax o.fQ).fQos = 0 then Cm (Ax o.fQ) 0 false else Cm (Ax o.fQ) (Fm o) false) else Qk
theorem AjO (o : Bv) (b : Eu o ≤ 1048576) : Ft B4 o.fQ ≤ 1048576 := by
 unfold Eu at b
 omega
theorem Yx (o : Bv) (b : Eu o ≤ 1048576) : o.fFl.length ≤ 1048576 := (U2 o b).1.1
theorem Sc (o : Bv) (b : Eu o ≤ 1048576) : (Ax o.fQ).fBody.size ≤ 1048576 := (Zm o.fQ (AjO o b)).2.1
theorem K0 (n : Nat) (hn : 1048576 < n) (x0 : Bv) (k0 : R4 x0) (b0 : Eu x0 ≤ 1048576) (h13 : (Ig x0) = true) (h21 : (decide (((Ax x0.fQ).fQos) = 0)) = false)  : ∀ (t pre : List Aj) (m : Nat) (i : Int) (i10 i17 i5 i3 i1 : Nat) (a5 x14 x15 x8 x7 : AV) (H : Ab), x0.fFl = pre ++ t → i = ((pre.length : Nat) : Int) → t.length < m → Ap a5 = true → Ap x14 = true → Ap x15 = true → Ap x8 = true → Ap x7 = true → Sep H [.own a5 39 (Df (pre.map (·.fId))), .blk i10 [.sc (.int .i64 x0.fLast), x7, x15] true, .blk i17 [.sc (.string ((Ax x0.fQ).fTopic)), x14, .sc (.int .i64 ((Ax x0.fQ).fQos)), .sc (.bool (Ax x0.fQ).fRetain)] true, .own x14 22 (Bt ((Ax x0.fQ).fBody)), .own x15 25 (Am Ao x0.fQ.tail), .own x8 25 (Am Ao x0.fQ), .own x7 24 (Am Ar x0.fFl), .blk i5 [.sc (.int .i64 0), .sc (.bool false), .sc (.int .i64 0), .sc (.bool false), .sc (.int .i64 0), .sc (.string (⟨#[]⟩)), .nl, .sc (.string (⟨#[]⟩)), .sc (.int .i64 0), .sc (.bool false), .sc (.int .i64 0), .sc (.bool false), .sc (.string (⟨#[]⟩)), .nl, .sc (.int .i64 0), .sc (.bool false), .sc (.bool false), .sc (.string (⟨#[]⟩)), .sc (.bool false), .nl, .sc (.int .i64 0), .sc (.bool false), .nl, .nl, .nl] true, .blk i3 [.sc (.int .i64 0), .nl, .nl] true, .blk i1 (A9 x0) true] → Gd (· = some (.tup [.agg (A9 (Ai x0)), .agg (C7 (B9 x0)), .sc (.bool (Ig x0))])) (Lc (PR (n + 12) AV) (n + 12) (fun x H => A4 Aq E0.tp 45 H x) m (.ptr i1 0) (.ptr i3 0) (.ptr i5 0) (.ptr i10 0) (.ptr i17 0) (a5) (.sc (.int .i64 i)) H)
 | [], pre, m + 1, i, i10, i17, i5, i3, i1, a5, x14, x15, x8, x7, H, he, hi, hm, la5, lx14, lx15, lx8, lx7, s0 => by
  obtain rfl : pre = x0.fFl := by simpa using he.symm
  have hfl := Yx x0 b0
  have hpb := Sc x0 b0
  rw [Lc]
  try simp only [Te, Td]
  refine An (o' := 1) rfl (Bg (c := Am Ar x0.fFl) s0 D3 rfl (P6 (L8 (Ci (by simp [hi]) (An (o' := 0) rfl (Bg (c := .sc (.int .i64 x0.fLast)) s0 D3 rfl ?_))))))
  have c201 := AbT (n + 10) (by omega) 102 ⟨_, _, rfl⟩ x0.fLast (x0.fFl.map (·.fId)) (by rw [zb0]; omega)
  refine Mp s0 rfl (.cons .sc (.cons (.own (by decide) (.here)) .nil)) (c201) rfl (Dp (Dp Il)) ?_
  rintro _ _ H ⟨_, rfl, ⟨_, rfl, ⟨rfl, rfl⟩⟩⟩ s202
  simp only [zah] at s202
  refine Ez (v := si ((Co x0.fLast (x0.fFl.map (·.fId))).1)) rfl (Ez (v := .sc (.bool (Co x0.fLast (x0.fFl.map (·.fId))).2)) rfl (An (o' := 0) rfl (Cv s202 Aw rfl rfl fun H s203 => An (o' := 1) rfl (Bg (c := x7) s203 (.here) rfl (Ag s203 Ca rfl (An (o' := 2) rfl (Bg (c := si ((Ax x0.fQ).fQos)) s203 Ca rfl (Az (cs := [si ((Co x0.fLast (x0.fFl.map (·.fId))).1), ss ((Ax x0.fQ).fTopic), x14, si ((Ax x0.fQ).fQos), .sc (.bool (Ax x0.fQ).fRetain), si ((Ax x0.fQ).fQos)]) (Gl (z' := [si ((Co x0.fLast (x0.fFl.map (·.fId))).1), sE, .nl, i0, bF, i0]) (D0 rfl) rfl (Bb rfl) rfl (Gl (z' := [si ((Co x0.fLast (x0.fFl.map (·.fId))).1), ss ((Ax x0.fQ).fTopic), x14, si ((Ax x0.fQ).fQos), .sc (.bool (Ax x0.fQ).fRetain), i0]) (Ac (Aa rfl (Aa lx14 rfl))) rfl (Bb rfl) rfl (Gl (z' := [si ((Co x0.fLast (x0.fFl.map (·.fId))).1), ss ((Ax x0.fQ).fTopic), x14, si ((Ax x0.fQ).fQos), .sc (.bool (Ax x0.fQ).fRetain), si ((Ax x0.fQ).fQos)]) (D0 rfl) rfl (Bb rfl) rfl (rfl)))) (Az (cs := [si ((Co x0.fLast (x0.fFl.map (·.fId))).1), ss ((Ax x0.fQ).fTopic), x14, si ((Ax x0.fQ).fQos), .sc (.bool (Ax x0.fQ).fRetain), si ((Ax x0.fQ).fQos)]) (Gl (z' := [si ((Co x0.fLast (x0.fFl.map (·.fId))).1), ss ((Ax x0.fQ).fTopic), x14, si ((Ax x0.fQ).fQos), .sc (.bool (Ax x0.fQ).fRetain), si ((Ax x0.fQ).fQos)]) (Ac (Aa rfl (Aa rfl (Aa lx14 rfl)))) rfl (Bb rfl) rfl (rfl)) (Au s203 fun i204 H s205 => ?_))))))))))
  refine Af9 (cty := [3, 9, 22, 3, 4, 3]) (e := (⟨(Co x0.fLast (x0.fFl.map (·.fId))).1, ⟨(Ax x0.fQ).fTopic, (Ax x0.fQ).fBody, (Ax x0.fQ).fQos, (Ax x0.fQ).fRetain⟩, (Ax x0.fQ).fQos⟩ : Aj)) (k := 2) s205 ⟨_, _, rfl, rfl, rfl, rfl⟩ S4 (.here) rfl (Aa rfl (Aa rfl (Aa lx14 rfl))) (.sc (.sc (.own Bn (oS3 .nil)))) (S6 ⟨(Aej ((Ax x0.fQ).fBody)), (tK3 trivial)⟩) rfl (by omega) Bm rfl rfl rfl rfl (Jd ((Ax x0.fQ).fBody)) fun x206 H lx206 s207 => An (o' := 1) rfl (Cv s207 Aw lx206 rfl fun H s208 => Ag s208 (.here) rfl (Ag s208 Bn rfl ?_))
  have c209 := Xj (n + 11) (by omega) (Ax x0.fQ) ((Co x0.fLast (x0.fFl.map (·.fId))).1) false hpb
  refine Fi s208 rfl (.agg (.cons .sc (.cons (.shr (by decide) Aw) (Nb .nil))) (Nb .nil)) (c209) ⟨_, rfl, rfl⟩ (Ho _) ?_
  rintro _ _ H ⟨x210, x211, x212, x213, x214, x215, lx210, lx211, lx212, lx213, lx214, lx215, rfl, rfl⟩ s216
  simp only [zah, zax] at s216
  refine Bi (cs' := [si ((Co x0.fLast (x0.fFl.map (·.fId))).1), x206, x15]) s216 Vp (Ac (Aa rfl (Aa lx206 (Aa lx15 rfl)))) rfl (Bb rfl) rfl fun H s217 => ?_
  refine Bi (cs' := [.sc (.int .i64 ((Cm (Ax x0.fQ) ((Co x0.fLast (x0.fFl.map (·.fId))).1) false).fType)), .sc (.bool (Cm (Ax x0.fQ) ((Co x0.fLast (x0.fFl.map (·.fId))).1) false).fDup), .sc (.int .i64 ((Cm (Ax x0.fQ) ((Co x0.fLast (x0.fFl.map (·.fId))).1) false).fQos)), .sc (.bool (Cm (Ax x0.fQ) ((Co x0.fLast (x0.fFl.map (·.fId))).1) false).fRetain), .sc (.int .i64 ((Cm (Ax x0.fQ) ((Co x0.fLast (x0.fFl.map (·.fId))).1) false).fId)), .sc (.string ((Cm (Ax x0.fQ) ((Co x0.fLast (x0.fFl.map (·.fId))).1) false).fTopic)), x210, .sc (.string ((Cm (Ax x0.fQ) ((Co x0.fLast (x0.fFl.map (·.fId))).1) false).fClient)), .sc (.int .i64 ((Cm (Ax x0.fQ) ((Co x0.fLast (x0.fFl.map (·.fId))).1) false).fLevel)), .sc (.bool (Cm (Ax x0.fQ) ((Co x0.fLast (x0.fFl.map (·.fId))).1) false).fClean), .sc (.int .i64 ((Cm (Ax x0.fQ) ((Co x0.fLast (x0.fFl.map (·.fId))).1) false).fKeep)), .sc (.bool (Cm (Ax x0.fQ) ((Co x0.fLast (x0.fFl.map (·.fId))).1) false).fHasWill), .sc (.string ((Cm (Ax x0.fQ) ((Co x0.fLast (x0.fFl.map (·.fId))).1) false).fWTopic)), x211, .sc (.int .i64 ((Cm (Ax x0.fQ) ((Co x0.fLast (x0.fFl.map (·.fId))).1) false).fWQos)), .sc (.bool (Cm (Ax x0.fQ) ((Co x0.fLast (x0.fFl.map (·.fId))).1) false).fWRetain), .sc (.bool (Cm (Ax x0.fQ) ((Co x0.fLast (x0.fFl.map (·.fId))).1) false).fHasUser), .sc (.string ((Cm (Ax x0.fQ) ((Co x0.fLast (x0.fFl.map (·.fId))).1) false).fUser)), .sc (.bool (Cm (Ax x0.fQ) ((Co x0.fLast (x0.fFl.map (·.fId))).1) false).fHasPass), x212, .sc (.int .i64 ((Cm (Ax x0.fQ) ((Co x0.fLast (x0.fFl.map (·.fId))).1) false).fCode)), .sc (.bool (Cm (Ax x0.fQ) ((Co x0.fLast (x0.fFl.map (·.fId))).1) false).fPresent), x213, x214, x215]) s217 Vp (Ac (Aa rfl (Aa rfl (Aa rfl (Aa rfl (Aa rfl (Aa rfl (Aa lx210 (Aa rfl (Aa rfl (Aa rfl (Aa rfl (Aa rfl (Aa rfl (Aa lx211 (Aa rfl (Aa rfl (Aa rfl (Aa rfl (Aa rfl (Aa lx212 (Aa rfl (Aa rfl (Aa lx213 (Aa lx214 (Aa lx215 rfl)))))))))))))))))))))))))) rfl (Bb rfl) rfl fun H s218 => Ag s218 Aw rfl (Ag s218 (.here) rfl ?_)
  have s219 := s218.forget D3
  refine D5 (Hb s219 rfl (.agg ⟨_, rfl, rfl⟩ (.sc (.own (.here) (.own Hl .nil))) (.agg ⟨_, rfl, rfl⟩ (Lh (.own S4 (Lh (.own Xq (Ws (.own Fu (.sc (.sc (.own F2 (.own Bn (.own Ca .nil))))))))))) (.sc .nil))) ⟨(Jc ⟨_, rfl, rfl⟩ ⟨trivial, ⟨(A7 (De (x0.fFl ++ [⟨(Co x0.fLast (x0.fFl.map (·.fId))).1, ⟨(Ax x0.fQ).fTopic, (Ax x0.fQ).fBody, (Ax x0.fQ).fQos, (Ax x0.fQ).fRetain⟩, (Ax x0.fQ).fQos⟩])) (by decide)), ⟨(A7 (E1 x0.fQ.tail) (by decide)), trivial⟩⟩⟩), ⟨(Jc ⟨_, rfl, rfl⟩ (Lm ⟨(A7 (Jd ((Cm (Ax x0.fQ) ((Co x0.fLast (x0.fFl.map (·.fId))).1) false).fBody)) (by decide)), (Lm ⟨(A7 (Jd ((Cm (Ax x0.fQ) ((Co x0.fLast (x0.fFl.map (·.fId))).1) false).fWBody)) (by decide)), (Vm ⟨(A7 (Jd ((Cm (Ax x0.fQ) ((Co x0.fLast (x0.fFl.map (·.fId))).1) false).fPass)) (by decide)), (S6 ⟨(A7 (Li ((Cm (Ax x0.fQ) ((Co x0.fLast (x0.fFl.map (·.fId))).1) false).fWants)) (by decide)), ⟨(A7 (Zg ((Cm (Ax x0.fQ) ((Co x0.fLast (x0.fFl.map (·.fId))).1) false).fNames)) (by decide)), ⟨(A7 (Mc ((Cm (Ax x0.fQ) ((Co x0.fLast (x0.fFl.map (·.fId))).1) false).fCodes)) (by decide)), trivial⟩⟩⟩)⟩)⟩)⟩)), ⟨trivial, trivial⟩⟩⟩) ?_
  have e220 : Ai x0 = (⟨(Co x0.fLast (x0.fFl.map (·.fId))).1, (x0.fFl ++ [⟨(Co x0.fLast (x0.fFl.map (·.fId))).1, ⟨(Ax x0.fQ).fTopic, (Ax x0.fQ).fBody, (Ax x0.fQ).fQos, (Ax x0.fQ).fRetain⟩, (Ax x0.fQ).fQos⟩]), x0.fQ.tail⟩ : Bv) := by
   clear s0 s202 s203 s205 s207 s208 s216 s217 s218 s219
   try simp only [bne_iff_ne, beq_iff_eq, beq_eq_false_iff_ne, Jw] at h13 h21
   first | assumption | (simp only [Ai, B9, Fm, h13, h21, if_true, if_false, zan]; first | done | rfl)
  have e221 : B9 x0 = (⟨(Cm (Ax x0.fQ) ((Co x0.fLast (x0.fFl.map (·.fId))).1) false).fType, (Cm (Ax x0.fQ) ((Co x0.fLast (x0.fFl.map (·.fId))).1) false).fDup, (Cm (Ax x0.fQ) ((Co x0.fLast (x0.fFl.map (·.fId))).1) false).fQos, (Cm (Ax x0.fQ) ((Co x0.fLast (x0.fFl.map (·.fId))).1) false).fRetain, (Cm (Ax x0.fQ) ((Co x0.fLast (x0.fFl.map (·.fId))).1) false).fId, (Cm (Ax x0.fQ) ((Co x0.fLast (x0.fFl.map (·.fId))).1) false).fTopic, (Cm (Ax x0.fQ) ((Co x0.fLast (x0.fFl.map (·.fId))).1) false).fBody, (Cm (Ax x0.fQ) ((Co x0.fLast (x0.fFl.map (·.fId))).1) false).fClient, (Cm (Ax x0.fQ) ((Co x0.fLast (x0.fFl.map (·.fId))).1) false).fLevel, (Cm (Ax x0.fQ) ((Co x0.fLast (x0.fFl.map (·.fId))).1) false).fClean, (Cm (Ax x0.fQ) ((Co x0.fLast (x0.fFl.map (·.fId))).1) false).fKeep, (Cm (Ax x0.fQ) ((Co x0.fLast (x0.fFl.map (·.fId))).1) false).fHasWill, (Cm (Ax x0.fQ) ((Co x0.fLast (x0.fFl.map (·.fId))).1) false).fWTopic, (Cm (Ax x0.fQ) ((Co x0.fLast (x0.fFl.map (·.fId))).1) false).fWBody, (Cm (Ax x0.fQ) ((Co x0.fLast (x0.fFl.map (·.fId))).1) false).fWQos, (Cm (Ax x0.fQ) ((Co x0.fLast (x0.fFl.map (·.fId))).1) false).fWRetain, (Cm (Ax x0.fQ) ((Co x0.fLast (x0.fFl.map (·.fId))).1) false).fHasUser, (Cm (Ax x0.fQ) ((Co x0.fLast (x0.fFl.map (·.fId))).1) false).fUser, (Cm (Ax x0.fQ) ((Co x0.fLast (x0.fFl.map (·.fId))).1) false).fHasPass, (Cm (Ax x0.fQ) ((Co x0.fLast (x0.fFl.map (·.fId))).1) false).fPass, (Cm (Ax x0.fQ) ((Co x0.fLast (x0.fFl.map (·.fId))).1) false).fCode, (Cm (Ax x0.fQ) ((Co x0.fLast (x0.fFl.map (·.fId))).1) false).fPresent, ((Cm (Ax x0.fQ) ((Co x0.fLast (x0.fFl.map (·.fId))).1) false).fWants), (Cm (Ax x0.fQ) ((Co x0.fLast (x0.fFl.map (·.fId))).1) false).fNames, (Cm (Ax x0.fQ) ((Co x0.fLast (x0.fFl.map (·.fId))).1) false).fCodes⟩ : B5) := by
   clear s0 s202 s203 s205 s207 s208 s216 s217 s218 s219
   try simp only [bne_iff_ne, beq_iff_eq, beq_eq_false_iff_ne, Jw] at h13 h21
   first | assumption | (simp only [Ai, B9, Fm, h13, h21, if_true, if_false, zan]; first | done | rfl)
  have e222 : Ig x0 = true := by
   clear s0 s202 s203 s205 s207 s208 s216 s217 s218 s219
   try simp only [bne_iff_ne, beq_iff_eq, beq_eq_false_iff_ne, Jw] at h13 h21
   first | assumption | (simp only [Ai, B9, Fm, h13, h21, if_true, if_false, zan]; first | done | rfl)
  ·rw [e220, e221, e222]
   first | done | rfl
 | y :: t, pre, m + 1, i, i10, i17, i5, i3, i1, a5, x14, x15, x8, x7, H, he, hi, hm, la5, lx14, lx15, lx8, lx7, s0 => by
  have hlt : pre.length < x0.fFl.length := by rw [he]; simp
  have hfl := Yx x0 b0
  have hpb := Sc x0 b0
  rw [Lc]
  try simp only [Te, Td]
  exact An (o' := 1) rfl (Bg (c := Am Ar x0.fFl) s0 D3 rfl (P6 (L8 (Dk (by simp [hi]; omega) (An (o' := 1) rfl (Bg (c := Am Ar x0.fFl) s0 D3 rfl (Y0 hi Bm (by decide) he (AfB (Aap (c := .sc (.int .i64 y.fId)) rfl (Az (cs := [.sc (.int .i64 y.fId)]) rfl (Au s0 fun i201 H s202 => U4 s202 Aw (.here) ⟨_, _, rfl, rfl, rfl, rfl⟩ rfl (by first | omega | (simp only [zb0]; omega)) fun x203 H lx203 s204 => Hm (by omega) (by omega) (K0 n hn x0 k0 b0 h13 h21  t (pre ++ [y]) m _ i10 i17 i5 i3 i1 x203 x14 x15 x8 x7 _ (by rw [he]; simp) (by rw [hi]; simp) (by simpa using hm) lx203 lx14 lx15 lx8 lx7 (by simpa only [za8, za0, zbv] using (s204.sel (.cons (.here) (.cons (.here) (.cons (.here) (.cons (.here) (.cons (.here) (.cons (.here) (.cons (.here) (.cons (.here) (.cons (.here) (.cons (.here) .nil))))))))))))))))))))))))
theorem Tb (n : Nat) (hn : 1048576 < n) (x0 : Bv) (k0 : R4 x0) (b0 : Eu x0 ≤ 1048576) : C1 E0 (n + 13) 45 113 [.agg (A9 x0)] = some (.tup [.agg (A9 (Ai x0)), .agg (C7 (B9 x0)), .sc (.bool (Ig x0))]) := by
 rw [A6, Afc, f113]
 refine H0 (G := (· = some (.tup [.agg (A9 (Ai x0)), .agg (C7 (B9 x0)), sb (Ig x0)]))) ?_
 have hfl := Yx x0 b0
 have hpb := Sc x0 b0
 try simp only [Te, Td]
 have s0 : Sep [] [] := Hz
 refine N3 s0 (G1 (G2 _)) fun i1 H s2 => D1 s2 fun i3 H s4 => D1 s4 fun i5 H s6 => Ag s6 Ca rfl (Fi s6 rfl (.aggF (G2 _) .nil) (Od (n + 8) (by omega) x0 (Ak0 x0 b0)) ⟨_, rfl, rfl⟩ (Pf _) ?_)
 rintro _ _ H ⟨x7, x8, lx7, lx8, rfl, rfl⟩ s9
 simp only [zah, zax] at s9
 refine D1 s9 fun i10 H s11 => Bi (cs' := [si x0.fLast, x7, x8]) s11 (.here) (Ac (Aa rfl (Aa lx7 (Aa lx8 rfl)))) rfl (Bb rfl) rfl fun H s12 => Ag s12 Fu rfl (D4 (v := (.bool (Ig x0))) s12 rfl (.aggF (G2 _) .nil) (Sm (n + 1) (by omega) x0 k0 b0) (Hw (Ah ((Ig x0)) (fun h13 => ?_) fun h13 => ?_)))
 refine Ci (nF h13) (An (o' := 2) rfl (Bg (c := Am Ao x0.fQ) s12 Fu rfl (Mp s12 rfl (.cons .ro .nil) (AbS (n + 8) (by omega) x0.fQ k0.2.2 (AjO x0 b0)) rfl (Ib (ty := 25) rfl (E1 x0.fQ.tail) (Lf ⟨_, rfl, rfl⟩ (Aim _) (Dp Il))) ?_)))
 rintro _ _ H ⟨x15, _, _, lx15, rfl, rfl, ⟨_, _, _, _, rfl, rfl, ⟨x14, lx14, rfl, rfl⟩, ⟨_, rfl, ⟨rfl, rfl⟩⟩⟩⟩ s16
 simp only [zah, zax] at s16
 refine Ez (v := x15) rfl (Ez (v := .agg [ss ((Ax x0.fQ).fTopic), x14, si ((Ax x0.fQ).fQos), .sc (.bool (Ax x0.fQ).fRetain)]) rfl (Ez (v := sb (AgS x0.fQ)) rfl (D1 s16 fun i17 H s18 => Bi (cs' := [ss ((Ax x0.fQ).fTopic), x14, si ((Ax x0.fQ).fQos), .sc (.bool (Ax x0.fQ).fRetain)]) s18 (.here) (Ac (Aa rfl (Aa lx14 rfl))) rfl (Bb rfl) rfl fun H s19 => An (o' := 2) rfl (Bi (cs' := [si x0.fLast, x7, x15]) s19 Bn (D0 lx15) rfl (Bb rfl) rfl fun H s20 => An (o' := 2) rfl (Bg (c := si ((Ax x0.fQ).fQos)) s20 Aw rfl (Cd (Ah ((decide (((Ax x0.fQ).fQos) = 0))) (fun h21 => ?_) fun h21 => ?_)))))))
 refine Dk h21 (Ag s20 (.here) rfl (Ag s20 Aw rfl ?_))
 have c22 := Xj (n + 11) (by omega) (Ax x0.fQ) 0 false hpb
 refine Fi s20 rfl (.agg (.cons .sc (.cons (.own (by decide) Ca) (Nb .nil))) (Nb .nil)) (c22) ⟨_, rfl, rfl⟩ (Ho _) ?_
 rintro _ _ H ⟨x23, x24, x25, x26, x27, x28, lx23, lx24, lx25, lx26, lx27, lx28, rfl, rfl⟩ s29
 simp only [zah, zax] at s29
 refine Bi (cs' := [si x0.fLast, x7, x15]) s29 Vp (Ac (Aa rfl (Aa lx7 (Aa lx15 rfl)))) rfl (Bb rfl) rfl fun H s30 => Bi (cs' := [si ((Cm (Ax x0.fQ) 0 false).fType), .sc (.bool (Cm (Ax x0.fQ) 0 false).fDup), si ((Cm (Ax x0.fQ) 0 false).fQos), .sc (.bool (Cm (Ax x0.fQ) 0 false).fRetain), si ((Cm (Ax x0.fQ) 0 false).fId), ss ((Cm (Ax x0.fQ) 0 false).fTopic), x23, ss ((Cm (Ax x0.fQ) 0 false).fClient), si ((Cm (Ax x0.fQ) 0 false).fLevel), .sc (.bool (Cm (Ax x0.fQ) 0 false).fClean), si ((Cm (Ax x0.fQ) 0 false).fKeep), .sc (.bool (Cm (Ax x0.fQ) 0 false).fHasWill), ss ((Cm (Ax x0.fQ) 0 false).fWTopic), x24, si ((Cm (Ax x0.fQ) 0 false).fWQos), .sc (.bool (Cm (Ax x0.fQ) 0 false).fWRetain), .sc (.bool (Cm (Ax x0.fQ) 0 false).fHasUser), ss ((Cm (Ax x0.fQ) 0 false).fUser), .sc (.bool (Cm (Ax x0.fQ) 0 false).fHasPass), x25, si ((Cm (Ax x0.fQ) 0 false).fCode), .sc (.bool (Cm (Ax x0.fQ) 0 false).fPresent), x26, x27, x28]) s30 Vp (Ac (Aa rfl (Aa rfl (Aa rfl (Aa rfl (Aa rfl (Aa rfl (Aa lx23 (Aa rfl (Aa rfl (Aa rfl (Aa rfl (Aa rfl (Aa rfl (Aa lx24 (Aa rfl (Aa rfl (Aa rfl (Aa rfl (Aa rfl (Aa lx25 (Aa rfl (Aa rfl (Aa lx26 (Aa lx27 (Aa lx28 rfl)))))))))))))))))))))))))) rfl (Bb rfl) rfl fun H s31 => Ag s31 Aw rfl (Ag s31 (.here) rfl ?_)
 refine D5 (Hb s31 rfl (.agg ⟨_, rfl, rfl⟩ (.sc (.own Vp (.own Hl .nil))) (.agg ⟨_, rfl, rfl⟩ (Lh (.own S4 (Lh (.own Xq (Ws (.own Fu (.sc (.sc (.own F2 (.own Bn (.own Ca .nil))))))))))) (.sc .nil))) ⟨(Jc ⟨_, rfl, rfl⟩ ⟨trivial, ⟨(A7 (De x0.fFl) (by decide)), ⟨(A7 (E1 x0.fQ.tail) (by decide)), trivial⟩⟩⟩), ⟨(Jc ⟨_, rfl, rfl⟩ (Lm ⟨(A7 (Jd ((Cm (Ax x0.fQ) 0 false).fBody)) (by decide)), (Lm ⟨(A7 (Jd ((Cm (Ax x0.fQ) 0 false).fWBody)) (by decide)), (Vm ⟨(A7 (Jd ((Cm (Ax x0.fQ) 0 false).fPass)) (by decide)), (S6 ⟨(A7 (Li ((Cm (Ax x0.fQ) 0 false).fWants)) (by decide)), ⟨(A7 (Zg ((Cm (Ax x0.fQ) 0 false).fNames)) (by decide)), ⟨(A7 (Mc ((Cm (Ax x0.fQ) 0 false).fCodes)) (by decide)), trivial⟩⟩⟩)⟩)⟩)⟩)), ⟨trivial, trivial⟩⟩⟩) ?_
 have e32 : Ai x0 = (⟨x0.fLast, x0.fFl, x0.fQ.tail⟩ : Bv) := by
  clear s0 s2 s4 s6 s9 s11 s12 s16 s18 s19 s20 s29 s30 s31
  try simp only [bne_iff_ne, beq_iff_eq, beq_eq_false_iff_ne, Jw] at h13 h21
  first | assumption | (simp only [Ai, B9, Fm, h13, h21, if_true, if_false, zan]; first | done | rfl)
 have e33 : B9 x0 = (⟨(Cm (Ax x0.fQ) 0 false).fType, (Cm (Ax x0.fQ) 0 false).fDup, (Cm (Ax x0.fQ) 0 false).fQos, (Cm (Ax x0.fQ) 0 false).fRetain, (Cm (Ax x0.fQ) 0 false).fId, (Cm (Ax x0.fQ) 0 false).fTopic, (Cm (Ax x0.fQ) 0 false).fBody, (Cm (Ax x0.fQ) 0 false).fClient, (Cm (Ax x0.fQ) 0 false).fLevel, (Cm (Ax x0.fQ) 0 false).fClean, (Cm (Ax x0.fQ) 0 false).fKeep, (Cm (Ax x0.fQ) 0 false).fHasWill, (Cm (Ax x0.fQ) 0 false).fWTopic, (Cm (Ax x0.fQ) 0 false).fWBody, (Cm (Ax x0.fQ) 0 false).fWQos, (Cm (Ax x0.fQ) 0 false).fWRetain, (Cm (Ax x0.fQ) 0 false).fHasUser, (Cm (Ax x0.fQ) 0 false).fUser, (Cm (Ax x0.fQ) 0 false).fHasPass, (Cm (Ax x0.fQ) 0 false).fPass, (Cm (Ax x0.fQ) 0 false).fCode, (Cm (Ax x0.fQ) 0 false).fPresent, ((Cm (Ax x0.fQ) 0 false).fWants), (Cm (Ax x0.fQ) 0 false).fNames, (Cm (Ax x0.fQ) 0 false).fCodes⟩ : B5) := by
  clear s0 s2 s4 s6 s9 s11 s12 s16 s18 s19 s20 s29 s30 s31
  try simp only [bne_iff_ne, beq_iff_eq, beq_eq_false_iff_ne, Jw] at h13 h21
  first | assumption | (simp only [Ai, B9, Fm, h13, h21, if_true, if_false, zan]; first | done | rfl)
 have e34 : Ig x0 = true := by
  clear s0 s2 s4 s6 s9 s11 s12 s16 s18 s19 s20 s29 s30 s31
  try simp only [bne_iff_ne, beq_iff_eq, beq_eq_false_iff_ne, Jw] at h13 h21
  first | assumption | (simp only [Ai, B9, Fm, h13, h21, if_true, if_false, zan]; first | done | rfl)
 ·rw [e32, e33, e34]
  first | done | rfl
 refine Ci h21 ?_
 have s35 := s20.nl (ty := 39) ⟨_, _, rfl, rfl⟩
 exact K0 n hn x0 k0 b0 h13 h21  x0.fFl [] _ 0 i10 i17 i5 i3 i1 .nl x14 x15 x8 x7 _ rfl rfl (by omega) rfl lx14 lx15 lx8 lx7 s35
 refine Dk (nT h13) (Ag s12 (.here) rfl (Az (cs := Qp) rfl (Bi (cs' := [si x0.fLast, x7, x8]) s12 F2 (Ac (Aa rfl (Aa lx7 (Aa lx8 rfl)))) rfl (Bb rfl) rfl fun H s36 => Bi (cs' := Qp) s36 F2 (Ac rfl) rfl (Bb rfl) rfl fun H s37 => Ag s37 Aw rfl (Ag s37 (.here) rfl (D5 (Hb s37 rfl (.agg ⟨_, rfl, rfl⟩ (.sc (.own F2 (.own Bn .nil))) (.agg ⟨_, rfl, rfl⟩ (Lh (.nl (Lh (.nl (Ws (.nl (.sc (.sc (.nl (.nl (.nl .nil))))))))))) (.sc .nil))) ⟨(Jc ⟨_, rfl, rfl⟩ ⟨trivial, ⟨(A7 (De x0.fFl) (by decide)), ⟨(A7 (E1 x0.fQ) (by decide)), trivial⟩⟩⟩), ⟨(Jc ⟨_, rfl, rfl⟩ (Lm ⟨H6, (Lm ⟨H6, (Vm ⟨H6, (S6 ⟨H6, ⟨H6, ⟨H6, trivial⟩⟩⟩)⟩)⟩)⟩)), ⟨trivial, trivial⟩⟩⟩) ?_)))))
 have e38 : Ai x0 = (⟨x0.fLast, x0.fFl, x0.fQ⟩ : Bv) := by
  clear s0 s2 s4 s6 s9 s11 s12 s36 s37
  try simp only [bne_iff_ne, beq_iff_eq, beq_eq_false_iff_ne, Jw] at h13
  first | assumption | (simp only [Ai, B9, Fm, h13, if_true, if_false, zan]; first | done | rfl)
 have e39 : B9 x0 = (⟨0, false, 0, false, 0, ⟨#[]⟩, ⟨#[]⟩, ⟨#[]⟩, 0, false, 0, false, ⟨#[]⟩, ⟨#[]⟩, 0, false, false, ⟨#[]⟩, false, ⟨#[]⟩, 0, false, [], [], []⟩ : B5) := by
  clear s0 s2 s4 s6 s9 s11 s12 s36 s37
  try simp only [bne_iff_ne, beq_iff_eq, beq_eq_false_iff_ne, Jw] at h13
  first | assumption | (simp only [Ai, B9, Fm, h13, if_true, if_false, zan]; first | done | rfl)
 have e40 : Ig x0 = false := by
  clear s0 s2 s4 s6 s9 s11 s12 s36 s37
  try simp only [bne_iff_ne, beq_iff_eq, beq_eq_false_iff_ne, Jw] at h13
  first | assumption | (simp only [Ai, B9, Fm, h13, if_true, if_false, zan]; first | done | rfl)
 ·rw [e38, e39, e40]
  first | done | rfl
end
section
open Go
def Ng (x y : Qy) : Bool := x.fFilter.toList == y.fFilter.toList && x.fQos == y.fQos
theorem AaJ (x y : Qy) : J6 [1, 0] (Ey x) (Ey y) = some (Ng x y) := by
 simp only [Ey, J6, Yb, Ng, if_true, zab]
 generalize (x.fFilter.toList == y.fFilter.toList) = b0
 generalize (x.fQos == y.fQos) = b1
 cases b0 <;> cases b1 <;> rfl
def Gt (a b : B5) : Bool := (a.fType == b.fType) && (a.fDup == b.fDup) && (a.fQos == b.fQos) && (a.fRetain == b.fRetain) && (a.fId == b.fId) && (a.fTopic.toList == b.fTopic.toList) && (a.fBody.toList == b.fBody.toList) && (a.fClient.toList == b.fClient.toList) && (a.fLevel == b.fLevel) && (a.fClean == b.fClean) && (a.fKeep == b.fKeep) && (a.fHasWill == b.fHasWill) && (a.fWTopic.toList == b.fWTopic.toList) && (a.fWBody.toList == b.fWBody.toList) && (a.fWQos == b.fWQos) && (a.fWRetain == b.fWRetain) && (a.fHasUser == b.fHasUser) && (a.fUser.toList == b.fUser.toList) && (a.fHasPass == b.fHasPass) && (a.fPass.toList == b.fPass.toList) && (a.fCode == b.fCode) && (a.fPresent == b.fPresent)
def O1 (a b : B5) : Bool := Pa Ng a.fWants b.fWants && Pa Uu a.fNames b.fNames && Pa eqI a.fCodes b.fCodes
def Gu (a b : B5) : Bool := O1 a b && Gt a b
theorem Agj (n : Nat) (hn : 1048576 < n) (ty : Nat) (a b : B5) (H : Ab) (i1 i2 : Nat) (B1 : H[i1]? = some ⟨C7 a, true, true⟩) (B2 : H[i2]? = some ⟨C7 b, true, true⟩) (hl2 : a.fCodes.length ≤ 1048576) (hq2 : a.fCodes.length = b.fCodes.length) : J8 (PR (n + 1) AV) (n + 1) (fun x H => A4 Aq E0.tp ty H x) (n + 1) (.ptr i1 0) (.ptr i2 0) (.sc (.int .i64 0)) H = some (.sc (.bool (if I9 eqI a.fCodes b.fCodes then (Gt a b) else false))) := by
 have hL : ∀ m i, J8 (PR (n + 1) AV) (n + 1) (fun x H => A4 Aq E0.tp ty H x) (m + 1) (.ptr i1 0) (.ptr i2 0) i H = E8 .lss i (si a.fCodes.length) fun t14 => G5 t14 (Es 1 (Am Qj a.fCodes) i fun t19 => C6 false 1 t19 H fun t20 => Es 1 (Am Qj b.fCodes) i fun t23 => C6 false 1 t23 H fun t24 => (fun x y k => E8 .neq x y k) t20 t24 fun t25 => G5 t25 (some bF) (E8 .add i (si 1) fun t16 => J8 (PR (n + 1) AV) (n + 1) (fun x H => A4 Aq E0.tp ty H x) m (.ptr i1 0) (.ptr i2 0) t16 H)) (some (sb (Gt a b))) := by
  intro m i
  show (PR (n + 1) AV).fadr 24 (.ptr i1 0) _ = _
  simp only [Br, A5, Ba, Db, Da, A0, Bs, Pr.gT, Pr.gF, Pr.hT, Pr.hF, Pr.kT, Pr.kF, B7, Bw, Bx]
  refine Ak (B3 (c := Df a.fCodes) B1 (Bb rfl) rfl (Do ?_))
  congr 1
  funext t
  congr 1
  refine Ak (B3 (c := Df a.fCodes) B1 (Bb rfl) rfl ?_)
  rw [Ji]
  congr 1
  funext t2
  congr 1
  funext t3
  refine Ak (B3 (c := Df b.fCodes) B2 (Bb rfl) rfl ?_)
  rw [Ji]
  rfl
  skip
  refine Ak (B3 (c := si a.fType) B1 (Bb rfl) rfl (Ak (B3 (c := si b.fType) B2 (Bb rfl) rfl (A2 (v := sb (a.fType == b.fType)) (fun k => rfl) ?_))))
  apply A8 ((a.fType == b.fType) && (a.fDup == b.fDup))
  intro b1 q1
  refine Ah ((a.fType == b.fType)) (fun h1 => ?_) fun h1 => ?_
  exact As h1 (Ak (As h1 (B3 (c := sb a.fDup) B1 (Bb rfl) rfl (As h1 (Ak (As h1 (B3 (c := sb b.fDup) B2 (Bb rfl) rfl (As h1 (Ln (v := sb (a.fDup == b.fDup)) (fun k => rfl) (Ch h1 (Hs q1 h1) rfl))))))))))
  exact Av h1 (Av h1 (Av h1 (Av h1 (Av h1 (Cg h1 (Hr q1 h1) rfl)))))
  intro b1 q1
  apply A8 (b1 && (a.fQos == b.fQos))
  intro b2 q2
  refine Ah (b1) (fun h2 => ?_) fun h2 => ?_
  exact As h2 (Ak (As h2 (B3 (c := si a.fQos) B1 (Bb rfl) rfl (As h2 (Ak (As h2 (B3 (c := si b.fQos) B2 (Bb rfl) rfl (As h2 (A2 (v := sb (a.fQos == b.fQos)) (fun k => rfl) (Ch h2 (Hs q2 h2) rfl))))))))))
  exact Av h2 (Av h2 (Av h2 (Av h2 (Av h2 (Cg h2 (Hr q2 h2) rfl)))))
  intro b2 q2
  apply A8 (b2 && (a.fRetain == b.fRetain))
  intro b3 q3
  refine Ah (b2) (fun h3 => ?_) fun h3 => ?_
  exact As h3 (Ak (As h3 (B3 (c := sb a.fRetain) B1 (Bb rfl) rfl (As h3 (Ak (As h3 (B3 (c := sb b.fRetain) B2 (Bb rfl) rfl (As h3 (Ln (v := sb (a.fRetain == b.fRetain)) (fun k => rfl) (Ch h3 (Hs q3 h3) rfl))))))))))
  exact Av h3 (Av h3 (Av h3 (Av h3 (Av h3 (Cg h3 (Hr q3 h3) rfl)))))
  intro b3 q3
  apply A8 (b3 && (a.fId == b.fId))
  intro b4 q4
  refine Ah (b3) (fun h4 => ?_) fun h4 => ?_
  exact As h4 (Ak (As h4 (B3 (c := si a.fId) B1 (Bb rfl) rfl (As h4 (Ak (As h4 (B3 (c := si b.fId) B2 (Bb rfl) rfl (As h4 (A2 (v := sb (a.fId == b.fId)) (fun k => rfl) (Ch h4 (Hs q4 h4) rfl))))))))))
  exact Av h4 (Av h4 (Av h4 (Av h4 (Av h4 (Cg h4 (Hr q4 h4) rfl)))))
  intro b4 q4
  apply A8 (b4 && (a.fTopic.toList == b.fTopic.toList))
  intro b5 q5
  refine Ah (b4) (fun h5 => ?_) fun h5 => ?_
  exact As h5 (Ak (As h5 (B3 (c := ss a.fTopic) B1 (Bb rfl) rfl (As h5 (Ak (As h5 (B3 (c := ss b.fTopic) B2 (Bb rfl) rfl (As h5 (A2 (v := sb (a.fTopic.toList == b.fTopic.toList)) (fun k => rfl) (Ch h5 (Hs q5 h5) rfl))))))))))
  exact Av h5 (Av h5 (Av h5 (Av h5 (Av h5 (Cg h5 (Hr q5 h5) rfl)))))
  intro b5 q5
  apply A8 (b5 && (a.fBody.toList == b.fBody.toList))
  intro b6 q6
  refine Ah (b5) (fun h6 => ?_) fun h6 => ?_
  exact As h6 (Ak (As h6 (B3 (c := Bt a.fBody) B1 (Bb rfl) rfl (As h6 (Ak (As h6 (B3 (c := Bt b.fBody) B2 (Bb rfl) rfl (As h6 (Dr rfl (Bl (Gk _ _ _) (Bl (Gk _ _ _) Ds)) (Vb (n + 0) _ a.fBody b.fBody) (Ch h6 (Hs q6 h6) rfl))))))))))
  exact Av h6 (Av h6 (Av h6 (Av h6 (Av h6 (Cg h6 (Hr q6 h6) rfl)))))
  intro b6 q6
  apply A8 (b6 && (a.fClient.toList == b.fClient.toList))
  intro b7 q7
  refine Ah (b6) (fun h7 => ?_) fun h7 => ?_
  exact As h7 (Ak (As h7 (B3 (c := ss a.fClient) B1 (Bb rfl) rfl (As h7 (Ak (As h7 (B3 (c := ss b.fClient) B2 (Bb rfl) rfl (As h7 (A2 (v := sb (a.fClient.toList == b.fClient.toList)) (fun k => rfl) (Ch h7 (Hs q7 h7) rfl))))))))))
  exact Av h7 (Av h7 (Av h7 (Av h7 (Av h7 (Cg h7 (Hr q7 h7) rfl)))))
  intro b7 q7
  apply A8 (b7 && (a.fLevel == b.fLevel))
  intro b8 q8
  refine Ah (b7) (fun h8 => ?_) fun h8 => ?_
  exact As h8 (Ak (As h8 (B3 (c := si a.fLevel) B1 (Bb rfl) rfl (As h8 (Ak (As h8 (B3 (c := si b.fLevel) B2 (Bb rfl) rfl (As h8 (A2 (v := sb (a.fLevel == b.fLevel)) (fun k => rfl) (Ch h8 (Hs q8 h8) rfl))))))))))
  exact Av h8 (Av h8 (Av h8 (Av h8 (Av h8 (Cg h8 (Hr q8 h8) rfl)))))
  intro b8 q8
  apply A8 (b8 && (a.fClean == b.fClean))
  intro b9 q9
  refine Ah (b8) (fun h9 => ?_) fun h9 => ?_
  exact As h9 (Ak (As h9 (B3 (c := sb a.fClean) B1 (Bb rfl) rfl (As h9 (Ak (As h9 (B3 (c := sb b.fClean) B2 (Bb rfl) rfl (As h9 (Ln (v := sb (a.fClean == b.fClean)) (fun k => rfl) (Ch h9 (Hs q9 h9) rfl))))))))))
  exact Av h9 (Av h9 (Av h9 (Av h9 (Av h9 (Cg h9 (Hr q9 h9) rfl)))))
  intro b9 q9
  apply A8 (b9 && (a.fKeep == b.fKeep))
  intro b10 q10
  refine Ah (b9) (fun h10 => ?_) fun h10 => ?_
  exact As h10 (Ak (As h10 (B3 (c := si a.fKeep) B1 (Bb rfl) rfl (As h10 (Ak (As h10 (B3 (c := si b.fKeep) B2 (Bb rfl) rfl (As h10 (A2 (v := sb (a.fKeep == b.fKeep)) (fun k => rfl) (Ch h10 (Hs q10 h10) rfl))))))))))
  exact Av h10 (Av h10 (Av h10 (Av h10 (Av h10 (Cg h10 (Hr q10 h10) rfl)))))
  intro b10 q10
  apply A8 (b10 && (a.fHasWill == b.fHasWill))
  intro b11 q11
  refine Ah (b10) (fun h11 => ?_) fun h11 => ?_
  exact As h11 (Ak (As h11 (B3 (c := sb a.fHasWill) B1 (Bb rfl) rfl (As h11 (Ak (As h11 (B3 (c := sb b.fHasWill) B2 (Bb rfl) rfl (As h11 (Ln (v := sb (a.fHasWill == b.fHasWill)) (fun k => rfl) (Ch h11 (Hs q11 h11) rfl))))))))))
  exact Av h11 (Av h11 (Av h11 (Av h11 (Av h11 (Cg h11 (Hr q11 h11) rfl)))))
  intro b11 q11
  apply A8 (b11 && (a.fWTopic.toList == b.fWTopic.toList))
  intro b12 q12
  refine Ah (b11) (fun h12 => ?_) fun h12 => ?_
  exact As h12 (Ak (As h12 (B3 (c := ss a.fWTopic) B1 (Bb rfl) rfl (As h12 (Ak (As h12 (B3 (c := ss b.fWTopic) B2 (Bb rfl) rfl (As h12 (A2 (v := sb (a.fWTopic.toList == b.fWTopic.toList)) (fun k => rfl) (Ch h12 (Hs q12 h12) rfl))))))))))
  exact Av h12 (Av h12 (Av h12 (Av h12 (Av h12 (Cg h12 (Hr q12 h12) rfl)))))
  intro b12 q12
  apply A8 (b12 && (a.fWBody.toList == b.fWBody.toList))
  intro b13 q13
  refine Ah (b12) (fun h13 => ?_) fun h13 => ?_
  exact As h13 (Ak (As h13 (B3 (c := Bt a.fWBody) B1 (Bb rfl) rfl (As h13 (Ak (As h13 (B3 (c := Bt b.fWBody) B2 (Bb rfl) rfl (As h13 (Dr rfl (Bl (Gk _ _ _) (Bl (Gk _ _ _) Ds)) (Vb (n + 0) _ a.fWBody b.fWBody) (Ch h13 (Hs q13 h13) rfl))))))))))
  exact Av h13 (Av h13 (Av h13 (Av h13 (Av h13 (Cg h13 (Hr q13 h13) rfl)))))
  intro b13 q13
  apply A8 (b13 && (a.fWQos == b.fWQos))
  intro b14 q14
  refine Ah (b13) (fun h14 => ?_) fun h14 => ?_
  exact As h14 (Ak (As h14 (B3 (c := si a.fWQos) B1 (Bb rfl) rfl (As h14 (Ak (As h14 (B3 (c := si b.fWQos) B2 (Bb rfl) rfl (As h14 (A2 (v := sb (a.fWQos == b.fWQos)) (fun k => rfl) (Ch h14 (Hs q14 h14) rfl))))))))))
  exact Av h14 (Av h14 (Av h14 (Av h14 (Av h14 (Cg h14 (Hr q14 h14) rfl)))))
  intro b14 q14
  apply A8 (b14 && (a.fWRetain == b.fWRetain))
  intro b15 q15
  refine Ah (b14) (fun h15 => ?_) fun h15 => ?_
  exact As h15 (Ak (As h15 (B3 (c := sb a.fWRetain) B1 (Bb rfl) rfl (As h15 (Ak (As h15 (B3 (c := sb b.fWRetain) B2 (Bb rfl) rfl (As h15 (Ln (v := sb (a.fWRetain == b.fWRetain)) (fun k => rfl) (Ch h15 (Hs q15 h15) rfl))))))))))
  exact Av h15 (Av h15 (Av h15 (Av h15 (Av h15 (Cg h15 (Hr q15 h15) rfl)))))
  intro b15 q15
  apply A8 (b15 && (a.fHasUser == b.fHasUser))
  intro b16 q16
  refine Ah (b15) (fun h16 => ?_) fun h16 => ?_
  exact As h16 (Ak (As h16 (B3 (c := sb a.fHasUser) B1 (Bb rfl) rfl (As h16 (Ak (As h16 (B3 (c := sb b.fHasUser) B2 (Bb rfl) rfl (As h16 (Ln (v := sb (a.fHasUser == b.fHasUser)) (fun k => rfl) (Ch h16 (Hs q16 h16) rfl))))))))))
  exact Av h16 (Av h16 (Av h16 (Av h16 (Av h16 (Cg h16 (Hr q16 h16) rfl)))))
  intro b16 q16
  apply A8 (b16 && (a.fUser.toList == b.fUser.toList))
  intro b17 q17
  refine Ah (b16) (fun h17 => ?_) fun h17 => ?_
  exact As h17 (Ak (As h17 (B3 (c := ss a.fUser) B1 (Bb rfl) rfl (As h17 (Ak (As h17 (B3 (c := ss b.fUser) B2 (Bb rfl) rfl (As h17 (A2 (v := sb (a.fUser.toList == b.fUser.toList)) (fun k => rfl) (Ch h17 (Hs q17 h17) rfl))))))))))
  exact Av h17 (Av h17 (Av h17 (Av h17 (Av h17 (Cg h17 (Hr q17 h17) rfl)))))
  intro b17 q17
  apply A8 (b17 && (a.fHasPass == b.fHasPass))
  intro b18 q18
  refine Ah (b17) (fun h18 => ?_) fun h18 => ?_
  exact As h18 (Ak (As h18 (B3 (c := sb a.fHasPass) B1 (Bb rfl) rfl (As h18 (Ak (As h18 (B3 (c := sb b.fHasPass) B2 (Bb rfl) rfl (As h18 (Ln (v := sb (a.fHasPass == b.fHasPass)) (fun k => rfl) (Ch h18 (Hs q18 h18) rfl))))))))))
  exact Av h18 (Av h18 (Av h18 (Av h18 (Av h18 (Cg h18 (Hr q18 h18) rfl)))))
  intro b18 q18
  apply A8 (b18 && (a.fPass.toList == b.fPass.toList))
  intro b19 q19
  refine Ah (b18) (fun h19 => ?_) fun h19 => ?_
  exact As h19 (Ak (As h19 (B3 (c := Bt a.fPass) B1 (Bb rfl) rfl (As h19 (Ak (As h19 (B3 (c := Bt b.fPass) B2 (Bb rfl) rfl (As h19 (Dr rfl (Bl (Gk _ _ _) (Bl (Gk _ _ _) Ds)) (Vb (n + 0) _ a.fPass b.fPass) (Ch h19 (Hs q19 h19) rfl))))))))))
  exact Av h19 (Av h19 (Av h19 (Av h19 (Av h19 (Cg h19 (Hr q19 h19) rfl)))))
  intro b19 q19
  apply A8 (b19 && (a.fCode == b.fCode))
  intro b20 q20
  refine Ah (b19) (fun h20 => ?_) fun h20 => ?_
  exact As h20 (Ak (As h20 (B3 (c := si a.fCode) B1 (Bb rfl) rfl (As h20 (Ak (As h20 (B3 (c := si b.fCode) B2 (Bb rfl) rfl (As h20 (A2 (v := sb (a.fCode == b.fCode)) (fun k => rfl) (Ch h20 (Hs q20 h20) rfl))))))))))
  exact Av h20 (Av h20 (Av h20 (Av h20 (Av h20 (Cg h20 (Hr q20 h20) rfl)))))
  intro b20 q20
  apply A8 (b20 && (a.fPresent == b.fPresent))
  intro b21 q21
  refine Ah (b20) (fun h21 => ?_) fun h21 => ?_
  exact As h21 (Ak (As h21 (B3 (c := sb a.fPresent) B1 (Bb rfl) rfl (As h21 (Ak (As h21 (B3 (c := sb b.fPresent) B2 (Bb rfl) rfl (As h21 (Ln (v := sb (a.fPresent == b.fPresent)) (fun k => rfl) (Ch h21 (Hs q21 h21) rfl))))))))))
  exact Av h21 (Av h21 (Av h21 (Av h21 (Av h21 (Cg h21 (Hr q21 h21) rfl)))))
  intro b21 q21
  subst_vars; rfl
 have key := Nu (β := AV) Qj (fun _ => rfl) (by decide) (fun z => si z) (fun p k => C6 false 1 p H k) (fun x r k => ldI x r H k) (fun x y k => E8 .neq x y k) eqI (fun x y k => neI x y k) a.fCodes b.fCodes hq2 hl2 (fun m i => J8 (PR (n + 1) AV) (n + 1) (fun x H => A4 Aq E0.tp ty H x) m (.ptr i1 0) (.ptr i2 0) i H) (some bF) (some (sb (Gt a b))) hL a.fCodes b.fCodes [] [] (n + 1) rfl rfl rfl (by omega)
 simp only [zat, zbg] at key
 refine key.trans ?_
 cases I9 eqI a.fCodes b.fCodes <;> rfl
theorem Agi (n : Nat) (hn : 1048576 < n) (ty : Nat) (a b : B5) (H : Ab) (i1 i2 : Nat) (B1 : H[i1]? = some ⟨C7 a, true, true⟩) (B2 : H[i2]? = some ⟨C7 b, true, true⟩) (hl1 : a.fNames.length ≤ 1048576) (hq1 : a.fNames.length = b.fNames.length) (hl2 : a.fCodes.length ≤ 1048576) (hq2 : a.fCodes.length = b.fCodes.length) : Ik (PR (n + 1) AV) (n + 1) (fun x H => A4 Aq E0.tp ty H x) (n + 1) (.ptr i1 0) (.ptr i2 0) (.sc (.int .i64 0)) H = some (.sc (.bool (if I9 Uu a.fNames b.fNames then (if I9 eqI a.fCodes b.fCodes then (Gt a b) else false) else false))) := by
 have hL : ∀ m i, Ik (PR (n + 1) AV) (n + 1) (fun x H => A4 Aq E0.tp ty H x) (m + 1) (.ptr i1 0) (.ptr i2 0) i H = E8 .lss i (si a.fNames.length) fun t14 => G5 t14 (Es 1 (Am AaR a.fNames) i fun t19 => C6 false 1 t19 H fun t20 => Es 1 (Am AaR b.fNames) i fun t23 => C6 false 1 t23 H fun t24 => (fun x y k => E8 .neq x y k) t20 t24 fun t25 => G5 t25 (some bF) (E8 .add i (si 1) fun t16 => Ik (PR (n + 1) AV) (n + 1) (fun x H => A4 Aq E0.tp ty H x) m (.ptr i1 0) (.ptr i2 0) t16 H)) (some (sb (if I9 eqI a.fCodes b.fCodes then (Gt a b) else false))) := by
  intro m i
  show (PR (n + 1) AV).fadr 23 (.ptr i1 0) _ = _
  simp only [Br, A5, Ba, Db, Da, A0, Bs, Pr.gT, Pr.gF, Pr.hT, Pr.hF, Pr.kT, Pr.kF, B7, Bw, Bx]
  refine Ak (B3 (c := Mj a.fNames) B1 (Bb rfl) rfl (Do ?_))
  congr 1
  funext t
  congr 1
  refine Ak (B3 (c := Mj a.fNames) B1 (Bb rfl) rfl ?_)
  rw [Ul]
  congr 1
  funext t2
  congr 1
  funext t3
  refine Ak (B3 (c := Mj b.fNames) B2 (Bb rfl) rfl ?_)
  rw [Ul]
  rfl
  skip
  exact Agj n hn ty a b H i1 i2 B1 B2 hl2 hq2
 have key := Nu (β := AV) AaR (fun _ => rfl) (by decide) (fun z => ss z) (fun p k => C6 false 1 p H k) (fun x r k => ldS x r H k) (fun x y k => E8 .neq x y k) Uu (fun x y k => neS x y k) a.fNames b.fNames hq1 hl1 (fun m i => Ik (PR (n + 1) AV) (n + 1) (fun x H => A4 Aq E0.tp ty H x) m (.ptr i1 0) (.ptr i2 0) i H) (some bF) (some (sb (if I9 eqI a.fCodes b.fCodes then (Gt a b) else false))) hL a.fNames b.fNames [] [] (n + 1) rfl rfl rfl (by omega)
 simp only [zat, zbg] at key
 refine key.trans ?_
 cases I9 Uu a.fNames b.fNames <;> rfl
theorem Agh (n : Nat) (hn : 1048576 < n) (ty : Nat) (a b : B5) (H : Ab) (i1 i2 : Nat) (B1 : H[i1]? = some ⟨C7 a, true, true⟩) (B2 : H[i2]? = some ⟨C7 b, true, true⟩) (hl0 : a.fWants.length ≤ 1048576) (hq0 : a.fWants.length = b.fWants.length) (hl1 : a.fNames.length ≤ 1048576) (hq1 : a.fNames.length = b.fNames.length) (hl2 : a.fCodes.length ≤ 1048576) (hq2 : a.fCodes.length = b.fCodes.length) : Ij (PR (n + 1) AV) (n + 1) (fun x H => A4 Aq E0.tp ty H x) (n + 1) (.ptr i1 0) (.ptr i2 0) (.sc (.int .i64 0)) H = some (.sc (.bool (if I9 Ng a.fWants b.fWants then (if I9 Uu a.fNames b.fNames then (if I9 eqI a.fCodes b.fCodes then (Gt a b) else false) else false) else false))) := by
 have hL : ∀ m i, Ij (PR (n + 1) AV) (n + 1) (fun x H => A4 Aq E0.tp ty H x) (m + 1) (.ptr i1 0) (.ptr i2 0) i H = E8 .lss i (si a.fWants.length) fun t14 => G5 t14 (Es 2 (Am Ey a.fWants) i fun t19 => C6 true 2 t19 H fun t20 => Es 2 (Am Ey b.fWants) i fun t23 => C6 true 2 t23 H fun t24 => (fun x y k => Oi .neq [1, 0] x y k) t20 t24 fun t25 => G5 t25 (some bF) (E8 .add i (si 1) fun t16 => Ij (PR (n + 1) AV) (n + 1) (fun x H => A4 Aq E0.tp ty H x) m (.ptr i1 0) (.ptr i2 0) t16 H)) (some (sb (if I9 Uu a.fNames b.fNames then (if I9 eqI a.fCodes b.fCodes then (Gt a b) else false) else false))) := by
  intro m i
  show (PR (n + 1) AV).fadr 22 (.ptr i1 0) _ = _
  simp only [Br, A5, Ba, Db, Da, A0, Bs, Pr.gT, Pr.gF, Pr.hT, Pr.hF, Pr.kT, Pr.kF, B7, Bw, Bx]
  refine Ak (B3 (c := Am Ey a.fWants) B1 (Bb rfl) rfl (Do ?_))
  congr 1
  funext t
  congr 1
  refine Ak (B3 (c := Am Ey a.fWants) B1 (Bb rfl) rfl ?_)
  congr 1
  funext t2
  congr 1
  funext t3
  refine Ak (B3 (c := Am Ey b.fWants) B2 (Bb rfl) rfl ?_)
  rfl
  skip
  exact Agi n hn ty a b H i1 i2 B1 B2 hl1 hq1 hl2 hq2
 have key := Nu (β := AV) Ey (Vd) (by decide) (fun x => .agg (Ey x)) (fun p k => C6 true 2 p H k) (fun x r k => Tw 2 _ _ H k (Vd x)) (fun x y k => Oi .neq [1, 0] x y k) Ng (fun x y k => AeK _ _ _ _ (AaJ x y) k) a.fWants b.fWants hq0 hl0 (fun m i => Ij (PR (n + 1) AV) (n + 1) (fun x H => A4 Aq E0.tp ty H x) m (.ptr i1 0) (.ptr i2 0) i H) (some bF) (some (sb (if I9 Uu a.fNames b.fNames then (if I9 eqI a.fCodes b.fCodes then (Gt a b) else false) else false))) hL a.fWants b.fWants [] [] (n + 1) rfl rfl rfl (by omega)
 simp only [zat, zbg] at key
 refine key.trans ?_
 cases I9 Ng a.fWants b.fWants <;> rfl
theorem Lq (n : Nat) (hn : 1048576 < n) (ty : Nat) (a : B5) (b : B5) (hl0 : a.fWants.length ≤ 1048576) (hl1 : a.fNames.length ≤ 1048576) (hl2 : a.fCodes.length ≤ 1048576) : C1 E0 (n + 2) ty 120 [.agg (C7 a), .agg (C7 b)] = some (.sc (.bool (Gu a b))) := by
 rw [A6, Afg, f120]
 try simp only [C4, Cj, Br, A5, Bf, Ba, Db, Da, Ea, A0, Bs, Pr.gT, Pr.gF, Pr.hT, Pr.hF, Pr.kT, Pr.kF, B7, Bw, C2, Bx, Du, Cw, Cc, Bh, Bj, Dn, Cp, Di, Dh]
 refine Lr (Ks _) fun iB1 eB1 B1 => Lr (Ks _) fun iB2 eB2 B2 => ?_
 replace B1 := Lw B1 [⟨C7 b, true, true⟩]
 refine Ak (B3 (c := Am Ey a.fWants) B1 (Bb rfl) rfl (Do (Ak (B3 (c := Am Ey b.fWants) B2 (Bb rfl) rfl (Do (A2 (v := sb ((a.fWants.length : Int) != (b.fWants.length : Int))) (fun k => rfl) ?_))))))
 apply A8 (((a.fWants.length : Int) != (b.fWants.length : Int)) || ((a.fNames.length : Int) != (b.fNames.length : Int)))
 intro b3 q3
 refine Ah (((a.fWants.length : Int) != (b.fWants.length : Int))) (fun h3 => ?_) fun h3 => ?_
 exact C8 h3 (C8 h3 (C8 h3 (C8 h3 (C8 h3 (C8 h3 (C8 h3 (Ch h3 (mOT q3 h3) rfl)))))))
 exact Cy h3 (Ak (Cy h3 (B3 (c := Mj a.fNames) B1 (Bb rfl) rfl (Cy h3 (Do (Cy h3 (Ak (Cy h3 (B3 (c := Mj b.fNames) B2 (Bb rfl) rfl (Cy h3 (Do (Cy h3 (A2 (v := sb ((a.fNames.length : Int) != (b.fNames.length : Int))) (fun k => rfl) (Cg h3 (mOF q3 h3) rfl))))))))))))))
 intro b3 q3
 apply A8 (b3 || ((a.fCodes.length : Int) != (b.fCodes.length : Int)))
 intro b4 q4
 refine Ah (b3) (fun h4 => ?_) fun h4 => ?_
 exact C8 h4 (C8 h4 (C8 h4 (C8 h4 (C8 h4 (C8 h4 (C8 h4 (Ch h4 (mOT q4 h4) rfl)))))))
 exact Cy h4 (Ak (Cy h4 (B3 (c := Df a.fCodes) B1 (Bb rfl) rfl (Cy h4 (Do (Cy h4 (Ak (Cy h4 (B3 (c := Df b.fCodes) B2 (Bb rfl) rfl (Cy h4 (Do (Cy h4 (A2 (v := sb ((a.fCodes.length : Int) != (b.fCodes.length : Int))) (fun k => rfl) (Cg h4 (mOF q4 h4) rfl))))))))))))))
 intro b4 q4
 refine Ah (b4) (fun h5 => ?_) fun h5 => ?_
 exact E2 h5 (Dv (by subst_vars; simp only [Gu, O1, Pa]; by_cases e0 : a.fWants.length = b.fWants.length <;> by_cases e1 : a.fNames.length = b.fNames.length <;> by_cases e2 : a.fCodes.length = b.fCodes.length <;> simp_all))
 refine Fc h5 ?_
 have l0 : a.fWants.length = b.fWants.length := by (subst_vars; simp at *; omega)
 have l1 : a.fNames.length = b.fNames.length := by (subst_vars; simp at *; omega)
 have l2 : a.fCodes.length = b.fCodes.length := by (subst_vars; simp at *; omega)
 refine (Agh n hn ty a b _ _ _ B1 B2 hl0 l0 hl1 l1 hl2 l2).trans ?_
 simp only [Gu, O1, Pa, l0, l1, l2, if_true]
 cases I9 Ng a.fWants b.fWants <;> cases I9 Uu a.fNames b.fNames <;> cases I9 eqI a.fCodes b.fCodes <;> simp
end
end Go.Proofs.YtdofipeaomgbbaaGreatDoor.Abs
set_option maxHeartbeats 32000000
namespace Go.Proofs.YtdofipeaomgbbaaGreatDoor.Abs
open _root_.Option renaming bind_eq_some_iff → zaa, bind_some → zab, getD_some → za5
open _root_.List renaming getElem?_eq_some_iff → zac, replicate → zad, length_append → zae, getElem?_append_right → zaf, getElem?_append_left → zag, nil_append → zah, append_assoc → zaj, length_singleton → zal, append_nil → zam, length_cons → zao, mem_append_right → zaq, length_nil → zat, mem_append_left → zau, mem_cons_of_mem → zaw, cons_append → zax, mem_cons → zay, map_cons → za0, flatten_append → za1, take_length → za3, getElem?_set_ne → za4, mem_cons_self → za6, drop_zero → za7, map_append → za8, replicate_append_replicate → zaA, mem_append → zaB, flatten_cons → zaD, all_eq_true → zaF, nodup_cons → zaG, length_drop → zaH, nodup_append → zaI, mem_range'_1 → zaJ, length_take → zaK, nodup_range' → zaP, take_append_drop → zaR, range' → zaV, drop_of_length_le → zaW, getElem?_set_self → zaX, all_cons → zaY, drop_drop → zbb, length_set → zbf, take_of_length_le → zbh, any_cons → zbt, map_nil → zbv, length_map → zb0, Perm → zb1, nodup_nil → zb3, headD_cons → zb9, drop_left' → zbA, tail_cons → zbC, take_zero → zbF
open _root_.Nat renaming le_refl → zai, le_trans → zar, zero_add → zav, sub_self → zaL, add_assoc → zaO, min_eq_left → zaQ, add_mul → zaU, add_zero → zaZ, mul_le_mul_right → zbd, zero_le → zbm, one_mul → zbw, add_comm → zbD, succ_mul → zbG
open _root_.Bool renaming false_eq_true → zan, eq_iff_iff → zaM, false_or → zbp
open _root_.Int renaming natCast_zero → zbg, toNat_natCast → zbi
section
open Go
def Hy (t : Int) : B5 := ⟨t, false, 0, false, 0, ⟨#[]⟩, ⟨#[]⟩, ⟨#[]⟩, 0, false, 0, false, ⟨#[]⟩, ⟨#[]⟩, 0, false, false, ⟨#[]⟩, false, ⟨#[]⟩, 0, false, [], [], []⟩
def Fx (p q : B5) : B5 := if p.fHasWill then { q with fHasWill := true, fWTopic := p.fWTopic, fWBody := p.fWBody, fWQos := p.fWQos, fWRetain := p.fWRetain } else q
def Fw (p q : B5) : B5 := if p.fHasUser then (if p.fHasPass then { q with fHasUser := true, fUser := p.fUser, fHasPass := true, fPass := p.fPass } else { q with fHasUser := true, fUser := p.fUser }) else q
def C5 (pc : Bool) (p : B5) : B5 :=
 if p.fType = 1 then Fw p (Fx p { Hy p.fType with fClient := p.fClient, fLevel := p.fLevel, fClean := p.fClean, fKeep := p.fKeep })
 else if p.fType = 2 then { Hy p.fType with fCode := p.fCode, fPresent := p.fPresent && (!pc || decide (p.fCode = 0)) }
 else if p.fType = 3 then (if 0 < p.fQos then { Hy p.fType with fQos := p.fQos, fRetain := p.fRetain, fTopic := p.fTopic, fBody := p.fBody, fDup := p.fDup, fId := p.fId } else { Hy p.fType with fQos := p.fQos, fRetain := p.fRetain, fTopic := p.fTopic, fBody := p.fBody })
 else if p.fType = 4 ∨ p.fType = 5 ∨ p.fType = 6 ∨ p.fType = 7 ∨ p.fType = 11 then { Hy p.fType with fId := p.fId }
 else if p.fType = 8 then { Hy p.fType with fId := p.fId, fWants := p.fWants }
 else if p.fType = 9 then { Hy p.fType with fId := p.fId, fCodes := p.fCodes }
 else if p.fType = 10 then { Hy p.fType with fId := p.fId, fNames := p.fNames }
 else Hy p.fType
theorem So (n : Nat) (hn : 1048576 < n) (p : B5) {β : Type} {G : Option β → Prop} {KH : KO β} {H : Ab} {L : List Ck} (s0 : Sep H (L)) (hk : ∀ raw H', (∀ L', VwL L' 7 raw (C7 (C5 true p))) → Sep H' L → Gd G (KH (.agg raw) H')) : Gd G (Dd E0 (n + 1) β 121 [.agg (C7 p)] H fun x H => KH x H) := by
 rw [Afh, f121]
 try simp only [C4, Cj, Br, A5, Bf, Ba, A0, Bs, Pr.gT, Pr.gF, Pr.hT, Pr.hF, Pr.kT, Pr.kF, B7, Bj]
 refine N3 s0 (G1 (Ks _)) fun i1 H s2 => D1 s2 fun i3 H s4 => gf0 (Bg (c := si p.fType) s4 Aw rfl (Az (cs := [si p.fType, bF, i0, bF, i0, sE, .nl, sE, i0, bF, i0, bF, sE, .nl, i0, bF, bF, sE, bF, .nl, i0, bF, .nl, .nl, .nl]) rfl (D1 s4 fun i5 H s6 => Bi (cs' := [si p.fType, bF, i0, bF, i0, sE, .nl, sE, i0, bF, i0, bF, sE, .nl, i0, bF, bF, sE, bF, .nl, i0, bF, .nl, .nl, .nl]) s6 (.here) (Ac rfl) rfl (Bb rfl) rfl fun H s7 => gf0 (Bg (c := si p.fType) s7 Ca rfl (Cd (Ah ((decide (p.fType = 1))) (fun h8 => ?_) fun h8 => ?_))))))
 refine Dk h8 (gf8 (Bg (c := si p.fLevel) s7 Ca rfl (gf8 (Cv s7 (.here) rfl rfl fun H s9 => gf7 (Bg (c := ss p.fClient) s9 Ca rfl (gf7 (Cv s9 (.here) rfl rfl fun H s10 => gf9 (Bg (c := sb p.fClean) s10 Ca rfl (gf9 (Cv s10 (.here) rfl rfl fun H s11 => Aj1 (Bg (c := si p.fKeep) s11 Ca rfl (Aj1 (Cv s11 (.here) rfl rfl fun H s12 => Aj2 (Bg (c := sb p.fHasWill) s12 Ca rfl (Ia (Ah (p.fHasWill) (fun h13 => ?_) fun h13 => ?_))))))))))))))))
 refine Dk h13 (Aj2 (Cv s12 (.here) rfl rfl fun H s14 => Aj3 (Bg (c := ss p.fWTopic) s14 Ca rfl (Aj3 (Cv s14 (.here) rfl rfl fun H s15 => Aj4 (Bg (c := Bt p.fWBody) s15 Ca rfl (Aj4 (Cv s15 (.here) rfl rfl fun H s16 => Aj5 (Bg (c := si p.fWQos) s16 Ca rfl (Aj5 (Cv s16 (.here) rfl rfl fun H s17 => Aj6 (Bg (c := sb p.fWRetain) s17 Ca rfl (Aj6 (Cv s17 (.here) rfl rfl fun H s18 => AfC (Bg (c := sb p.fHasUser) s18 Ca rfl (Ah (p.fHasUser) (fun h19 => ?_) fun h19 => ?_))))))))))))))))
 refine Dk h19 (AfC (Cv s18 (.here) rfl rfl fun H s20 => AfD (Bg (c := ss p.fUser) s20 Ca rfl (AfD (Cv s20 (.here) rfl rfl fun H s21 => AfE (Bg (c := sb p.fHasPass) s21 Ca rfl (Ah (p.fHasPass) (fun h22 => ?_) fun h22 => ?_)))))))
 refine Dk h22 (AfE (Cv s21 (.here) rfl rfl fun H s23 => AfF (Bg (c := Bt p.fPass) s23 Ca rfl (AfF (Cv s23 (.here) rfl rfl fun H s24 => Ag s24 (.here) rfl (Bi (cs' := [si p.fType, bF, i0, bF, i0, sE, .nl, ss p.fClient, si p.fLevel, sb p.fClean, si p.fKeep, bT, ss p.fWTopic, Bt p.fWBody, si p.fWQos, sb p.fWRetain, bT, ss p.fUser, bT, Bt p.fPass, i0, bF, .nl, .nl, .nl]) s24 Aw (Ac rfl) rfl (Bb rfl) rfl fun H s25 => Ag s25 (.here) rfl ?_))))))
 have e : C5 true p = (⟨p.fType, false, 0, false, 0, ⟨#[]⟩, ⟨#[]⟩, p.fClient, p.fLevel, p.fClean, p.fKeep, true, p.fWTopic, p.fWBody, p.fWQos, p.fWRetain, true, p.fUser, true, p.fPass, 0, false, [], [], []⟩ : B5) := by
  simp only [Jw] at h8 h13 h19 h22
  simp [C5, Fx, Fw, Hy, h8, h13, h19, h22]
 rw [e] at hk
 exact hk _ _ (fun L' => (Iz (.cons .nl (Iz (.cons .ro (S0 (.cons .ro (Nb (.cons .nl (.cons .nl (.cons .nl .nil))))))))))) s25.tail.tail.tail
 refine Ci h22 (Ag s21 (.here) rfl (Bi (cs' := [si p.fType, bF, i0, bF, i0, sE, .nl, ss p.fClient, si p.fLevel, sb p.fClean, si p.fKeep, bT, ss p.fWTopic, Bt p.fWBody, si p.fWQos, sb p.fWRetain, bT, ss p.fUser, bF, .nl, i0, bF, .nl, .nl, .nl]) s21 Aw (Ac rfl) rfl (Bb rfl) rfl fun H s26 => Ag s26 (.here) rfl ?_))
 have e : C5 true p = (⟨p.fType, false, 0, false, 0, ⟨#[]⟩, ⟨#[]⟩, p.fClient, p.fLevel, p.fClean, p.fKeep, true, p.fWTopic, p.fWBody, p.fWQos, p.fWRetain, true, p.fUser, false, ⟨#[]⟩, 0, false, [], [], []⟩ : B5) := by
  simp only [Jw] at h8 h13 h19 h22
  simp [C5, Fx, Fw, Hy, h8, h13, h19, h22]
 rw [e] at hk
 exact hk _ _ (fun L' => (Iz (.cons .nl (Iz (.cons .ro (S0 (.cons .nl (Nb (.cons .nl (.cons .nl (.cons .nl .nil))))))))))) s26.tail.tail.tail
 refine Ci h19 (Ag s18 (.here) rfl (Bi (cs' := [si p.fType, bF, i0, bF, i0, sE, .nl, ss p.fClient, si p.fLevel, sb p.fClean, si p.fKeep, bT, ss p.fWTopic, Bt p.fWBody, si p.fWQos, sb p.fWRetain, bF, sE, bF, .nl, i0, bF, .nl, .nl, .nl]) s18 Aw (Ac rfl) rfl (Bb rfl) rfl fun H s27 => Ag s27 (.here) rfl ?_))
 have e : C5 true p = (⟨p.fType, false, 0, false, 0, ⟨#[]⟩, ⟨#[]⟩, p.fClient, p.fLevel, p.fClean, p.fKeep, true, p.fWTopic, p.fWBody, p.fWQos, p.fWRetain, false, ⟨#[]⟩, false, ⟨#[]⟩, 0, false, [], [], []⟩ : B5) := by
  simp only [Jw] at h8 h13 h19
  simp [C5, Fx, Fw, Hy, h8, h13, h19]
 rw [e] at hk
 exact hk _ _ (fun L' => (Iz (.cons .nl (Iz (.cons .ro (S0 (.cons .nl (Nb (.cons .nl (.cons .nl (.cons .nl .nil))))))))))) s27.tail.tail.tail
 refine Ci h13 (AfC (Bg (c := sb p.fHasUser) s12 Ca rfl (Ah (p.fHasUser) (fun h28 => ?_) fun h28 => ?_)))
 refine Dk h28 (AfC (Cv s12 (.here) rfl rfl fun H s29 => AfD (Bg (c := ss p.fUser) s29 Ca rfl (AfD (Cv s29 (.here) rfl rfl fun H s30 => AfE (Bg (c := sb p.fHasPass) s30 Ca rfl (Ah (p.fHasPass) (fun h31 => ?_) fun h31 => ?_)))))))
 refine Dk h31 (AfE (Cv s30 (.here) rfl rfl fun H s32 => AfF (Bg (c := Bt p.fPass) s32 Ca rfl (AfF (Cv s32 (.here) rfl rfl fun H s33 => Ag s33 (.here) rfl (Bi (cs' := [si p.fType, bF, i0, bF, i0, sE, .nl, ss p.fClient, si p.fLevel, sb p.fClean, si p.fKeep, bF, sE, .nl, i0, bF, bT, ss p.fUser, bT, Bt p.fPass, i0, bF, .nl, .nl, .nl]) s33 Aw (Ac rfl) rfl (Bb rfl) rfl fun H s34 => Ag s34 (.here) rfl ?_))))))
 have e : C5 true p = (⟨p.fType, false, 0, false, 0, ⟨#[]⟩, ⟨#[]⟩, p.fClient, p.fLevel, p.fClean, p.fKeep, false, ⟨#[]⟩, ⟨#[]⟩, 0, false, true, p.fUser, true, p.fPass, 0, false, [], [], []⟩ : B5) := by
  simp only [Jw] at h8 h13 h28 h31
  simp [C5, Fx, Fw, Hy, h8, h13, h28, h31]
 rw [e] at hk
 exact hk _ _ (fun L' => (Iz (.cons .nl (Iz (.cons .nl (S0 (.cons .ro (Nb (.cons .nl (.cons .nl (.cons .nl .nil))))))))))) s34.tail.tail.tail
 refine Ci h31 (Ag s30 (.here) rfl (Bi (cs' := [si p.fType, bF, i0, bF, i0, sE, .nl, ss p.fClient, si p.fLevel, sb p.fClean, si p.fKeep, bF, sE, .nl, i0, bF, bT, ss p.fUser, bF, .nl, i0, bF, .nl, .nl, .nl]) s30 Aw (Ac rfl) rfl (Bb rfl) rfl fun H s35 => Ag s35 (.here) rfl ?_))
 have e : C5 true p = (⟨p.fType, false, 0, false, 0, ⟨#[]⟩, ⟨#[]⟩, p.fClient, p.fLevel, p.fClean, p.fKeep, false, ⟨#[]⟩, ⟨#[]⟩, 0, false, true, p.fUser, false, ⟨#[]⟩, 0, false, [], [], []⟩ : B5) := by
  simp only [Jw] at h8 h13 h28 h31
  simp [C5, Fx, Fw, Hy, h8, h13, h28, h31]
 rw [e] at hk
 exact hk _ _ (fun L' => (Iz (.cons .nl (Iz (.cons .nl (S0 (.cons .nl (Nb (.cons .nl (.cons .nl (.cons .nl .nil))))))))))) s35.tail.tail.tail
 refine Ci h28 (Ag s12 (.here) rfl (Bi (cs' := [si p.fType, bF, i0, bF, i0, sE, .nl, ss p.fClient, si p.fLevel, sb p.fClean, si p.fKeep, bF, sE, .nl, i0, bF, bF, sE, bF, .nl, i0, bF, .nl, .nl, .nl]) s12 Aw (Ac rfl) rfl (Bb rfl) rfl fun H s36 => Ag s36 (.here) rfl ?_))
 have e : C5 true p = (⟨p.fType, false, 0, false, 0, ⟨#[]⟩, ⟨#[]⟩, p.fClient, p.fLevel, p.fClean, p.fKeep, false, ⟨#[]⟩, ⟨#[]⟩, 0, false, false, ⟨#[]⟩, false, ⟨#[]⟩, 0, false, [], [], []⟩ : B5) := by
  simp only [Jw] at h8 h13 h28
  simp [C5, Fx, Fw, Hy, h8, h13, h28]
 rw [e] at hk
 exact hk _ _ (fun L' => (Iz (.cons .nl (Iz (.cons .nl (S0 (.cons .nl (Nb (.cons .nl (.cons .nl (.cons .nl .nil))))))))))) s36.tail.tail.tail
 refine Ci h8 (Cd (Ah ((decide (p.fType = 2))) (fun h37 => ?_) fun h37 => ?_))
 refine Dk h37 (Aij (Bg (c := si p.fCode) s7 Ca rfl (Aij (Cv s7 (.here) rfl rfl fun H s38 => Aik (Bg (c := sb p.fPresent) s38 Ca rfl (Ah (p.fPresent) (fun h39 => ?_) fun h39 => ?_))))))
 refine Bd h39 (Aij (Bd h39 (Bg (c := si p.fCode) s38 Ca rfl (Bd h39 (Cd (Hh h39 (Aik (Cv s38 (.here) rfl rfl fun H s40 => Ag s40 (.here) rfl (Bi (cs' := [si p.fType, bF, i0, bF, i0, sE, .nl, sE, i0, bF, i0, bF, sE, .nl, i0, bF, bF, sE, bF, .nl, si p.fCode, sb (decide (p.fCode = 0)), .nl, .nl, .nl]) s40 Aw (Ac rfl) rfl (Bb rfl) rfl fun H s41 => Ag s41 (.here) rfl ?_)))))))))
 have e : C5 true p = (⟨p.fType, false, 0, false, 0, ⟨#[]⟩, ⟨#[]⟩, ⟨#[]⟩, 0, false, 0, false, ⟨#[]⟩, ⟨#[]⟩, 0, false, false, ⟨#[]⟩, false, ⟨#[]⟩, p.fCode, (decide (p.fCode = 0)), [], [], []⟩ : B5) := by
  simp only [Jw] at h8 h37 h39
  simp [C5, Fx, Fw, Hy, h8, h37, h39]
 rw [e] at hk
 exact hk _ _ (fun L' => (Iz (.cons .nl (Iz (.cons .nl (S0 (.cons .nl (Nb (.cons .nl (.cons .nl (.cons .nl .nil))))))))))) s41.tail.tail.tail
 refine Cb h39 (Cb h39 (Cb h39 (Fq h39 (Aik (Cv s38 (.here) rfl rfl fun H s42 => Ag s42 (.here) rfl (Bi (cs' := [si p.fType, bF, i0, bF, i0, sE, .nl, sE, i0, bF, i0, bF, sE, .nl, i0, bF, bF, sE, bF, .nl, si p.fCode, bF, .nl, .nl, .nl]) s42 Aw (Ac rfl) rfl (Bb rfl) rfl fun H s43 => Ag s43 (.here) rfl ?_))))))
 have e : C5 true p = (⟨p.fType, false, 0, false, 0, ⟨#[]⟩, ⟨#[]⟩, ⟨#[]⟩, 0, false, 0, false, ⟨#[]⟩, ⟨#[]⟩, 0, false, false, ⟨#[]⟩, false, ⟨#[]⟩, p.fCode, false, [], [], []⟩ : B5) := by
  simp only [Jw] at h8 h37 h39
  simp [C5, Fx, Fw, Hy, h8, h37, h39]
 rw [e] at hk
 exact hk _ _ (fun L' => (Iz (.cons .nl (Iz (.cons .nl (S0 (.cons .nl (Nb (.cons .nl (.cons .nl (.cons .nl .nil))))))))))) s43.tail.tail.tail
 refine Ci h37 (Cd (Ah ((decide (p.fType = 3))) (fun h44 => ?_) fun h44 => ?_))
 refine Dk h44 (gf2 (Bg (c := si p.fQos) s7 Ca rfl (gf2 (Cv s7 (.here) rfl rfl fun H s45 => gf3 (Bg (c := sb p.fRetain) s45 Ca rfl (gf3 (Cv s45 (.here) rfl rfl fun H s46 => gf5 (Bg (c := ss p.fTopic) s46 Ca rfl (gf5 (Cv s46 (.here) rfl rfl fun H s47 => gf6 (Bg (c := Bt p.fBody) s47 Ca rfl (gf6 (Cv s47 (.here) rfl rfl fun H s48 => gf2 (Bg (c := si p.fQos) s48 Ca rfl (L7 (Ah ((decide (0 < p.fQos))) (fun h49 => ?_) fun h49 => ?_))))))))))))))))
 refine Dk h49 (gf1 (Bg (c := sb p.fDup) s48 Ca rfl (gf1 (Cv s48 (.here) rfl rfl fun H s50 => Vr (Bg (c := si p.fId) s50 Ca rfl (Vr (Cv s50 (.here) rfl rfl fun H s51 => Ag s51 (.here) rfl (Bi (cs' := [si p.fType, sb p.fDup, si p.fQos, sb p.fRetain, si p.fId, ss p.fTopic, Bt p.fBody, sE, i0, bF, i0, bF, sE, .nl, i0, bF, bF, sE, bF, .nl, i0, bF, .nl, .nl, .nl]) s51 Aw (Ac rfl) rfl (Bb rfl) rfl fun H s52 => Ag s52 (.here) rfl ?_))))))))
 have e : C5 true p = (⟨p.fType, p.fDup, p.fQos, p.fRetain, p.fId, p.fTopic, p.fBody, ⟨#[]⟩, 0, false, 0, false, ⟨#[]⟩, ⟨#[]⟩, 0, false, false, ⟨#[]⟩, false, ⟨#[]⟩, 0, false, [], [], []⟩ : B5) := by
  simp only [Jw] at h8 h37 h44 h49
  simp [C5, Fx, Fw, Hy, h8, h37, h44, h49]
 rw [e] at hk
 exact hk _ _ (fun L' => (Iz (.cons .ro (Iz (.cons .nl (S0 (.cons .nl (Nb (.cons .nl (.cons .nl (.cons .nl .nil))))))))))) s52.tail.tail.tail
 refine Ci h49 (Ag s48 (.here) rfl (Bi (cs' := [si p.fType, bF, si p.fQos, sb p.fRetain, i0, ss p.fTopic, Bt p.fBody, sE, i0, bF, i0, bF, sE, .nl, i0, bF, bF, sE, bF, .nl, i0, bF, .nl, .nl, .nl]) s48 Aw (Ac rfl) rfl (Bb rfl) rfl fun H s53 => Ag s53 (.here) rfl ?_))
 have e : C5 true p = (⟨p.fType, false, p.fQos, p.fRetain, 0, p.fTopic, p.fBody, ⟨#[]⟩, 0, false, 0, false, ⟨#[]⟩, ⟨#[]⟩, 0, false, false, ⟨#[]⟩, false, ⟨#[]⟩, 0, false, [], [], []⟩ : B5) := by
  simp only [Jw] at h8 h37 h44 h49
  simp [C5, Fx, Fw, Hy, h8, h37, h44, h49]
 rw [e] at hk
 exact hk _ _ (fun L' => (Iz (.cons .ro (Iz (.cons .nl (S0 (.cons .nl (Nb (.cons .nl (.cons .nl (.cons .nl .nil))))))))))) s53.tail.tail.tail
 refine Ci h44 (Cd (Ia (Ah ((decide (p.fType = 4))) (fun h54 => ?_) fun h54 => ?_)))
 refine Dk h54 (Dk h54 (Vr (Bg (c := si p.fId) s7 Ca rfl (Vr (Cv s7 (.here) rfl rfl fun H s55 => Ag s55 (.here) rfl (Bi (cs' := [si p.fType, bF, i0, bF, si p.fId, sE, .nl, sE, i0, bF, i0, bF, sE, .nl, i0, bF, bF, sE, bF, .nl, i0, bF, .nl, .nl, .nl]) s55 Aw (Ac rfl) rfl (Bb rfl) rfl fun H s56 => Ag s56 (.here) rfl ?_))))))
 have e : C5 true p = (⟨p.fType, false, 0, false, p.fId, ⟨#[]⟩, ⟨#[]⟩, ⟨#[]⟩, 0, false, 0, false, ⟨#[]⟩, ⟨#[]⟩, 0, false, false, ⟨#[]⟩, false, ⟨#[]⟩, 0, false, [], [], []⟩ : B5) := by
  simp only [Jw] at h8 h37 h44 h54
  simp [C5, Fx, Fw, Hy, h8, h37, h44, h54]
 rw [e] at hk
 exact hk _ _ (fun L' => (Iz (.cons .nl (Iz (.cons .nl (S0 (.cons .nl (Nb (.cons .nl (.cons .nl (.cons .nl .nil))))))))))) s56.tail.tail.tail
 refine Ci h54 (Cd (Ah ((decide (p.fType = 5))) (fun h57 => ?_) fun h57 => ?_))
 refine Dk h57 (Dk h57 (Vr (Bg (c := si p.fId) s7 Ca rfl (Vr (Cv s7 (.here) rfl rfl fun H s58 => Ag s58 (.here) rfl (Bi (cs' := [si p.fType, bF, i0, bF, si p.fId, sE, .nl, sE, i0, bF, i0, bF, sE, .nl, i0, bF, bF, sE, bF, .nl, i0, bF, .nl, .nl, .nl]) s58 Aw (Ac rfl) rfl (Bb rfl) rfl fun H s59 => Ag s59 (.here) rfl ?_))))))
 have e : C5 true p = (⟨p.fType, false, 0, false, p.fId, ⟨#[]⟩, ⟨#[]⟩, ⟨#[]⟩, 0, false, 0, false, ⟨#[]⟩, ⟨#[]⟩, 0, false, false, ⟨#[]⟩, false, ⟨#[]⟩, 0, false, [], [], []⟩ : B5) := by
  simp only [Jw] at h8 h37 h44 h54 h57
  simp [C5, Fx, Fw, Hy, h8, h37, h44, h54, h57]
 rw [e] at hk
 exact hk _ _ (fun L' => (Iz (.cons .nl (Iz (.cons .nl (S0 (.cons .nl (Nb (.cons .nl (.cons .nl (.cons .nl .nil))))))))))) s59.tail.tail.tail
 refine Ci h57 (Cd (Ah ((decide (p.fType = 6))) (fun h60 => ?_) fun h60 => ?_))
 refine Dk h60 (Dk h60 (Vr (Bg (c := si p.fId) s7 Ca rfl (Vr (Cv s7 (.here) rfl rfl fun H s61 => Ag s61 (.here) rfl (Bi (cs' := [si p.fType, bF, i0, bF, si p.fId, sE, .nl, sE, i0, bF, i0, bF, sE, .nl, i0, bF, bF, sE, bF, .nl, i0, bF, .nl, .nl, .nl]) s61 Aw (Ac rfl) rfl (Bb rfl) rfl fun H s62 => Ag s62 (.here) rfl ?_))))))
 have e : C5 true p = (⟨p.fType, false, 0, false, p.fId, ⟨#[]⟩, ⟨#[]⟩, ⟨#[]⟩, 0, false, 0, false, ⟨#[]⟩, ⟨#[]⟩, 0, false, false, ⟨#[]⟩, false, ⟨#[]⟩, 0, false, [], [], []⟩ : B5) := by
  simp only [Jw] at h8 h37 h44 h54 h57 h60
  simp [C5, Fx, Fw, Hy, h8, h37, h44, h54, h57, h60]
 rw [e] at hk
 exact hk _ _ (fun L' => (Iz (.cons .nl (Iz (.cons .nl (S0 (.cons .nl (Nb (.cons .nl (.cons .nl (.cons .nl .nil))))))))))) s62.tail.tail.tail
 refine Ci h60 (Cd (Ah ((decide (p.fType = 7))) (fun h63 => ?_) fun h63 => ?_))
 refine Dk h63 (Dk h63 (Vr (Bg (c := si p.fId) s7 Ca rfl (Vr (Cv s7 (.here) rfl rfl fun H s64 => Ag s64 (.here) rfl (Bi (cs' := [si p.fType, bF, i0, bF, si p.fId, sE, .nl, sE, i0, bF, i0, bF, sE, .nl, i0, bF, bF, sE, bF, .nl, i0, bF, .nl, .nl, .nl]) s64 Aw (Ac rfl) rfl (Bb rfl) rfl fun H s65 => Ag s65 (.here) rfl ?_))))))
 have e : C5 true p = (⟨p.fType, false, 0, false, p.fId, ⟨#[]⟩, ⟨#[]⟩, ⟨#[]⟩, 0, false, 0, false, ⟨#[]⟩, ⟨#[]⟩, 0, false, false, ⟨#[]⟩, false, ⟨#[]⟩, 0, false, [], [], []⟩ : B5) := by
  simp only [Jw] at h8 h37 h44 h54 h57 h60 h63
  simp [C5, Fx, Fw, Hy, h8, h37, h44, h54, h57, h60, h63]
 rw [e] at hk
 exact hk _ _ (fun L' => (Iz (.cons .nl (Iz (.cons .nl (S0 (.cons .nl (Nb (.cons .nl (.cons .nl (.cons .nl .nil))))))))))) s65.tail.tail.tail
 refine Ci h63 (Cd (Ah ((decide (p.fType = 11))) (fun h66 => ?_) fun h66 => ?_))
 refine Dk h66 (Vr (Bg (c := si p.fId) s7 Ca rfl (Vr (Cv s7 (.here) rfl rfl fun H s67 => Ag s67 (.here) rfl (Bi (cs' := [si p.fType, bF, i0, bF, si p.fId, sE, .nl, sE, i0, bF, i0, bF, sE, .nl, i0, bF, bF, sE, bF, .nl, i0, bF, .nl, .nl, .nl]) s67 Aw (Ac rfl) rfl (Bb rfl) rfl fun H s68 => Ag s68 (.here) rfl ?_)))))
 have e : C5 true p = (⟨p.fType, false, 0, false, p.fId, ⟨#[]⟩, ⟨#[]⟩, ⟨#[]⟩, 0, false, 0, false, ⟨#[]⟩, ⟨#[]⟩, 0, false, false, ⟨#[]⟩, false, ⟨#[]⟩, 0, false, [], [], []⟩ : B5) := by
  simp only [Jw] at h8 h37 h44 h54 h57 h60 h63 h66
  simp [C5, Fx, Fw, Hy, h8, h37, h44, h54, h57, h60, h63, h66]
 rw [e] at hk
 exact hk _ _ (fun L' => (Iz (.cons .nl (Iz (.cons .nl (S0 (.cons .nl (Nb (.cons .nl (.cons .nl (.cons .nl .nil))))))))))) s68.tail.tail.tail
 refine Ci h66 (Cd (Ah ((decide (p.fType = 8))) (fun h69 => ?_) fun h69 => ?_))
 refine Dk h69 (Vr (Bg (c := si p.fId) s7 Ca rfl (Vr (Cv s7 (.here) rfl rfl fun H s70 => Aj7 (Bg (c := Am Ey p.fWants) s70 Ca rfl (Aj7 (Cv s70 (.here) rfl rfl fun H s71 => Ag s71 (.here) rfl (Bi (cs' := [si p.fType, bF, i0, bF, si p.fId, sE, .nl, sE, i0, bF, i0, bF, sE, .nl, i0, bF, bF, sE, bF, .nl, i0, bF, Am Ey p.fWants, .nl, .nl]) s71 Aw (Ac rfl) rfl (Bb rfl) rfl fun H s72 => Ag s72 (.here) rfl ?_))))))))
 have e : C5 true p = (⟨p.fType, false, 0, false, p.fId, ⟨#[]⟩, ⟨#[]⟩, ⟨#[]⟩, 0, false, 0, false, ⟨#[]⟩, ⟨#[]⟩, 0, false, false, ⟨#[]⟩, false, ⟨#[]⟩, 0, false, p.fWants, [], []⟩ : B5) := by
  simp only [Jw] at h8 h37 h44 h54 h57 h60 h63 h66 h69
  simp [C5, Fx, Fw, Hy, h8, h37, h44, h54, h57, h60, h63, h66, h69]
 rw [e] at hk
 exact hk _ _ (fun L' => (Iz (.cons .nl (Iz (.cons .nl (S0 (.cons .nl (Nb (.cons .ro (.cons .nl (.cons .nl .nil))))))))))) s72.tail.tail.tail
 refine Ci h69 (Cd (Ah ((decide (p.fType = 9))) (fun h73 => ?_) fun h73 => ?_))
 refine Dk h73 (Vr (Bg (c := si p.fId) s7 Ca rfl (Vr (Cv s7 (.here) rfl rfl fun H s74 => Aj9 (Bg (c := Df p.fCodes) s74 Ca rfl (Aj9 (Cv s74 (.here) rfl rfl fun H s75 => Ag s75 (.here) rfl (Bi (cs' := [si p.fType, bF, i0, bF, si p.fId, sE, .nl, sE, i0, bF, i0, bF, sE, .nl, i0, bF, bF, sE, bF, .nl, i0, bF, .nl, .nl, Df p.fCodes]) s75 Aw (Ac rfl) rfl (Bb rfl) rfl fun H s76 => Ag s76 (.here) rfl ?_))))))))
 have e : C5 true p = (⟨p.fType, false, 0, false, p.fId, ⟨#[]⟩, ⟨#[]⟩, ⟨#[]⟩, 0, false, 0, false, ⟨#[]⟩, ⟨#[]⟩, 0, false, false, ⟨#[]⟩, false, ⟨#[]⟩, 0, false, [], [], p.fCodes⟩ : B5) := by
  simp only [Jw] at h8 h37 h44 h54 h57 h60 h63 h66 h69 h73
  simp [C5, Fx, Fw, Hy, h8, h37, h44, h54, h57, h60, h63, h66, h69, h73]
 rw [e] at hk
 exact hk _ _ (fun L' => (Iz (.cons .nl (Iz (.cons .nl (S0 (.cons .nl (Nb (.cons .nl (.cons .nl (.cons .ro .nil))))))))))) s76.tail.tail.tail
 refine Ci h73 (Cd (Ah ((decide (p.fType = 10))) (fun h77 => ?_) fun h77 => ?_))
 refine Dk h77 (Vr (Bg (c := si p.fId) s7 Ca rfl (Vr (Cv s7 (.here) rfl rfl fun H s78 => Aj8 (Bg (c := Mj p.fNames) s78 Ca rfl (Aj8 (Cv s78 (.here) rfl rfl fun H s79 => Ag s79 (.here) rfl (Bi (cs' := [si p.fType, bF, i0, bF, si p.fId, sE, .nl, sE, i0, bF, i0, bF, sE, .nl, i0, bF, bF, sE, bF, .nl, i0, bF, .nl, Mj p.fNames, .nl]) s79 Aw (Ac rfl) rfl (Bb rfl) rfl fun H s80 => Ag s80 (.here) rfl ?_))))))))
 have e : C5 true p = (⟨p.fType, false, 0, false, p.fId, ⟨#[]⟩, ⟨#[]⟩, ⟨#[]⟩, 0, false, 0, false, ⟨#[]⟩, ⟨#[]⟩, 0, false, false, ⟨#[]⟩, false, ⟨#[]⟩, 0, false, [], p.fNames, []⟩ : B5) := by
  simp only [Jw] at h8 h37 h44 h54 h57 h60 h63 h66 h69 h73 h77
  simp [C5, Fx, Fw, Hy, h8, h37, h44, h54, h57, h60, h63, h66, h69, h73, h77]
 rw [e] at hk
 exact hk _ _ (fun L' => (Iz (.cons .nl (Iz (.cons .nl (S0 (.cons .nl (Nb (.cons .nl (.cons .ro (.cons .nl .nil))))))))))) s80.tail.tail.tail
 refine Ci h77 (Ag s7 (.here) rfl (Bi (cs' := [si p.fType, bF, i0, bF, i0, sE, .nl, sE, i0, bF, i0, bF, sE, .nl, i0, bF, bF, sE, bF, .nl, i0, bF, .nl, .nl, .nl]) s7 Aw (Ac rfl) rfl (Bb rfl) rfl fun H s81 => Ag s81 (.here) rfl ?_))
 have e : C5 true p = (⟨p.fType, false, 0, false, 0, ⟨#[]⟩, ⟨#[]⟩, ⟨#[]⟩, 0, false, 0, false, ⟨#[]⟩, ⟨#[]⟩, 0, false, false, ⟨#[]⟩, false, ⟨#[]⟩, 0, false, [], [], []⟩ : B5) := by
  simp only [Jw] at h8 h37 h44 h54 h57 h60 h63 h66 h69 h73 h77
  simp [C5, Fx, Fw, Hy, h8, h37, h44, h54, h57, h60, h63, h66, h69, h73, h77]
 rw [e] at hk
 exact hk _ _ (fun L' => (Iz (.cons .nl (Iz (.cons .nl (S0 (.cons .nl (Nb (.cons .nl (.cons .nl (.cons .nl .nil))))))))))) s81.tail.tail.tail
end
section
open Go
def H7 (t i : Int) : B5 := ⟨t, false, 0, false, i, ⟨#[]⟩, ⟨#[]⟩, ⟨#[]⟩, 0, false, 0, false, ⟨#[]⟩, ⟨#[]⟩, 0, false, false, ⟨#[]⟩, false, ⟨#[]⟩, 0, false, [], [], []⟩
def Zw (t i : Int) : B5 := if Ga i 1 65535 = true then H7 t i else Qk
abbrev Cn (i : Int) : B5 := Zw 6 i
theorem AgO (pc : Bool) (i : Int) : Gu (H7 6 i) (C5 pc (H7 6 i)) = true := by
 simp [Gu, O1, Gt, C5, Hy, H7, Pa, I9]
theorem Ae2 (n : Nat) (hn : 1048576 < n) (i : Int) : C1 E0 (n + 3) 4 102 [.agg (C7 (H7 6 i))] = some (.sc (.bool (Ga i 1 65535))) := by
 rw [A6, AeR, f102]
 refine H0 (G := (· = some (sb (Ga i 1 65535)))) ?_
 try simp only [Te, Td]
 have s0 : Sep [] [] := Hz
 refine N3 s0 (G1 (Ks _)) fun i1 H s2 => An (o' := 0) rfl (Bg (c := si ((H7 6 i).fType)) s2 (.here) rfl (D4 (v := (.bool (Ga ((H7 6 i).fType) 1 14))) s2 rfl (vS3 .nil) (Ma (n + 1) _ ((H7 6 i).fType) 1 14) (Hw (Bd (nF rfl) (Ag s2 (.here) rfl (Gd.bothE ?_ ?_))))))
 ·refine Bd (nF rfl) (Ag s2 (.here) rfl (Bd (nF rfl) (Gx rfl rfl (So (n + 1) (by omega) (H7 6 i) s2 fun Rs3 H hRs3 s3 => Bd (nF rfl) (D4 (v := (.bool (Gu (H7 6 i) (C5 true (H7 6 i))))) s3 rfl (.aggF (Ks _) (.agg (hRs3 _) .nil)) (Lq n (by omega) _ (H7 6 i) (C5 true (H7 6 i)) (zbm _) (zbm _) (zbm _)) (Bd (nF rfl) (Hw (Fq (nF rfl) (Ci (nF (AgO true i)) (An (o' := 4) rfl (Bg (c := si ((H7 6 i).fId)) s3 (.here) rfl (D4 (v := (.bool (Ga ((H7 6 i).fId) 1 65535))) s3 rfl (vS3 .nil) (Ma (n + 1) _ ((H7 6 i).fId) 1 65535) (An (o' := 0) rfl (Bg (c := si ((H7 6 i).fType)) s3 (.here) rfl (Cd (Ci rfl (Cd (Ci rfl (Cd (Ci rfl (Cd (Ia (Ci rfl (Cd (Ci rfl (Cd (Ci rfl (Cd (Ci rfl (Cd (Ci rfl (Cd (Ci rfl (D5 rfl ?_))))))))))))))))))))))))))))))))))
  first | rfl | (simp_all; done)
 ·refine Bd (nF rfl) (Gx rfl rfl (So (n + 1) (by omega) (H7 6 i) s2 fun Rs4 H hRs4 s4 => Bd (nF rfl) (Ag s4 (.here) rfl (Bd (nF rfl) (D4 (v := (.bool (Gu (H7 6 i) (C5 true (H7 6 i))))) s4 rfl (.aggF (Ks _) (.agg (hRs4 _) .nil)) (Lq n (by omega) _ (H7 6 i) (C5 true (H7 6 i)) (zbm _) (zbm _) (zbm _)) (Bd (nF rfl) (Hw (Fq (nF rfl) (Ci (nF (AgO true i)) (An (o' := 4) rfl (Bg (c := si ((H7 6 i).fId)) s4 (.here) rfl (D4 (v := (.bool (Ga ((H7 6 i).fId) 1 65535))) s4 rfl (vS3 .nil) (Ma (n + 1) _ ((H7 6 i).fId) 1 65535) (An (o' := 0) rfl (Bg (c := si ((H7 6 i).fType)) s4 (.here) rfl (Cd (Ci rfl (Cd (Ci rfl (Cd (Ci rfl (Cd (Ia (Ci rfl (Cd (Ci rfl (Cd (Ci rfl (Cd (Ci rfl (Cd (Ci rfl (Cd (Ci rfl (D5 rfl ?_))))))))))))))))))))))))))))))))))
  first | rfl | (simp_all; done)
theorem AbU (n : Nat) (hn : 1048576 < n) (i : Int) : C1 E0 (n + 4) 41 65 [.sc (.int .i64 6), .sc (.int .i64 i)] = some (.agg (C7 (Zw 6 i))) := by
 rw [A6, AhK, f65]
 refine H0 (G := (· = some (.agg (C7 (Zw 6 i))))) ?_
 try simp only [Te, Td]
 have s0 : Sep [] [] := Hz
 refine D1 s0 fun i1 H s2 => Az (cs := [si 6, bF, i0, bF, si i, sE, .nl, sE, i0, bF, i0, bF, sE, .nl, i0, bF, bF, sE, bF, .nl, i0, bF, .nl, .nl, .nl]) rfl (D1 s2 fun i3 H s4 => Bi (cs' := [si 6, bF, i0, bF, si i, sE, .nl, sE, i0, bF, i0, bF, sE, .nl, i0, bF, bF, sE, bF, .nl, i0, bF, .nl, .nl, .nl]) s4 (.here) (Ac rfl) rfl (Bb rfl) rfl fun H s5 => D4 (v := (.bool (Ga 6 4 7))) s5 rfl (vS3 .nil) (Ma (n + 2) _ 6 4 7) (Hw (Cb (nF rfl) (Cb (nF rfl) (Fq (nF rfl) (Bd rfl (Ag s5 (.here) rfl (Bd rfl (D4 (v := (.bool (Ga i 1 65535))) s5 rfl (.agg (Iz (.cons .nl (Iz (.cons .nl (S0 (.cons .nl (Nb (.cons .nl (.cons .nl (.cons .nl .nil)))))))))) .nil) (Ae2 n (by omega) i) (Bd rfl (Hw (Fq rfl (Ah ((Ga i 1 65535)) (fun h6 => ?_) fun h6 => ?_)))))))))))))
 refine Ci (nF h6) (Ag s5 (.here) rfl (Bi (cs' := [si 6, bF, i0, bF, si i, sE, .nl, sE, i0, bF, i0, bF, sE, .nl, i0, bF, bF, sE, bF, .nl, i0, bF, .nl, .nl, .nl]) s5 Aw (Ac rfl) rfl (Bb rfl) rfl fun H s7 => Ag s7 (.here) rfl (D5 (Ha s7 ⟨_, rfl, rfl⟩ (Lh (.nl (Lh (.nl (Ws (.nl (.sc (.sc (.nl (.nl (.nl .nil))))))))))) (Lm ⟨H6, (Lm ⟨H6, (Vm ⟨H6, (S6 ⟨H6, ⟨H6, ⟨H6, trivial⟩⟩⟩)⟩)⟩)⟩)) ?_)))
 have e8 : Zw 6 i = (⟨6, false, 0, false, i, ⟨#[]⟩, ⟨#[]⟩, ⟨#[]⟩, 0, false, 0, false, ⟨#[]⟩, ⟨#[]⟩, 0, false, false, ⟨#[]⟩, false, ⟨#[]⟩, 0, false, [], [], []⟩ : B5) := by
  clear s0 s2 s4 s5 s7
  try simp only [bne_iff_ne, beq_iff_eq, beq_eq_false_iff_ne, Jw] at h6
  first | assumption | (simp only [Zw, H7, Qk, h6, if_true, if_false, zan]; first | done | rfl)
 ·rw [e8]
  first | done | rfl
 refine Dk (nT h6) (Az (cs := Qp) rfl (Bi (cs' := Qp) s5 Aw (Ac rfl) rfl (Bb rfl) rfl fun H s9 => Ag s9 (.here) rfl (D5 (Ha s9 ⟨_, rfl, rfl⟩ (Lh (.nl (Lh (.nl (Ws (.nl (.sc (.sc (.nl (.nl (.nl .nil))))))))))) (Lm ⟨H6, (Lm ⟨H6, (Vm ⟨H6, (S6 ⟨H6, ⟨H6, ⟨H6, trivial⟩⟩⟩)⟩)⟩)⟩)) ?_)))
 have e10 : Zw 6 i = (⟨0, false, 0, false, 0, ⟨#[]⟩, ⟨#[]⟩, ⟨#[]⟩, 0, false, 0, false, ⟨#[]⟩, ⟨#[]⟩, 0, false, false, ⟨#[]⟩, false, ⟨#[]⟩, 0, false, [], [], []⟩ : B5) := by
  clear s0 s2 s4 s5 s9
  try simp only [bne_iff_ne, beq_iff_eq, beq_eq_false_iff_ne, Jw] at h6
  first | assumption | (simp only [Zw, H7, Qk, h6, if_true, if_false, zan]; first | done | rfl)
 ·rw [e10]
  first | done | rfl
theorem Ov (n : Nat) (hn : 1048576 < n) (i : Int) : C1 E0 (n + 4) 41 65 [.sc (.int .i64 6), .sc (.int .i64 i)] = some (.agg (C7 (Cn i))) := AbU n hn i
end
section
open Go
section
variable {β : Type} {n : Nat} {H : Ab} {L L' L1 L2 : List Ck} {G : Option β → Prop} {K : AV → Option β} {KH : KO β}
theorem W1 {d : Nat} : ∀ {ts : List Nat} {xs cells : List AV} {I : List Nat} {k : Nat} {v v' : Value}, Ce (B0 Aq E0.tp H (d + 1)) ts xs = some (cells, I) → cells[k]? = some (.sc v) → Ce (B0 Aq E0.tp H (d + 1)) ts (xs.set k (.sc v')) = some (cells.set k (.sc v'), I)
 | ts, [], cells, I, k, v, v', h, hk => by
  obtain ⟨_, e⟩ := Ir h
  cases e
  simp at hk
 | [], _ :: _, _, _, _, _, _, h, _ => by simp [Ce] at h
 | t :: ts, x :: xs, cells, I, k, v, v', h, hk => by
  obtain ⟨a, b, h1, h2, e⟩ := E5 h
  cases e
  cases k with
  | zero =>
   obtain ⟨a1, a2⟩ := a
   have : a1 = .sc v := by simpa using hk
   subst this
   have hx := Zi h1
   subst hx
   have e2 : ([] : List Nat) = a2 := by
    have : (AV.sc v, ([] : List Nat)) = (.sc v, a2) := Option.some.inj h1
    cases this
    rfl
   subst e2
   show Ce _ (t :: ts) (.sc v' :: xs) = some (.sc v' :: b.1, [] ++ b.2)
   rw [Ce, G7, zab, h2]
   rfl
  | succ k =>
   have ih := W1 (v' := v') h2 (by simpa using hk)
   show Ce _ (t :: ts) (x :: xs.set k (.sc v')) = some (a.1 :: b.1.set k (.sc v'), a.2 ++ b.2)
   rw [Ce, h1, zab, ih]
   rfl
theorem Wx {d : Nat} : ∀ {ts : List Nat} {cs : List AV} {k : Nat} {v' : Value}, Eh (Gj Aq E0.tp (d + 1)) ts cs → Eh (Gj Aq E0.tp (d + 1)) ts (cs.set k (.sc v'))
 | [], [], _, _, h => h
 | t :: ts, c :: cs, 0, v', h => ⟨trivial, h.2⟩
 | t :: ts, c :: cs, k + 1, v', h => ⟨h.1, Wx h.2⟩
 | [], _ :: _, _, _, h => by cases h
 | _ :: _, [], _, _, h => by cases h
theorem Xf {α : Type} {enc : α → List AV} {w : Nat} (hw : ∀ x, (enc x).length = w) {l : List α} {i k : Nat} {y y' : α} {v : AV} (hy : l[i]? = some y) (hk : k < w) (he : enc y' = (enc y).set k v) : ((l.map enc).flatten).set (i * w + k) v = ((l.set i y').map enc).flatten := by
 induction l generalizing i with
 | nil => simp at hy
 | cons x l ih =>
  cases i with
  | zero =>
   have : x = y := by simpa using hy
   subst this
   rw [List.set_cons_zero, za0, za0, zaD, zaD, he, Nat.zero_mul, zav, List.set_append_left _ _ (by rw [hw]; exact hk)]
  | succ i =>
   have := ih (i := i) (by simpa using hy)
   rw [List.set_cons_succ, za0, za0, zaD, zaD, List.set_append_right _ _ (by rw [hw, zaU]; omega), hw, show (i + 1) * w + k - w = i * w + k by rw [zaU]; omega, this]
theorem AbV {cs : List AV} {o : Nat} {v : AV} (h : o < cs.length) : Cf cs o [v] = cs.set o v := by
 unfold Cf
 rw [List.set_eq_take_append_cons_drop, if_pos h]
 simp
theorem Ke {α : Type} {enc : α → List AV} {w ty k : Nat} {cty : List Nat} {x : AV} {l : List α} {y y' : α} {i : Int} {v v' : Value} {KS : Ab → Option β} (hs : Sep H L) (hty : ∃ i j, Aq ty = some i ∧ Aq i.elem = some j ∧ j.size = w ∧ j.cty = cty) (hp : Pk L (.own x ty (Am enc l)) L1)
  (hi : 0 ≤ i) (hy : l[i.toNat]? = some y) (hw : ∀ x, (enc x).length = w) (hk : k < w) (hv : (enc y)[k]? = some (.sc v)) (hl : Ap (.sc v') = true) (he : enc y' = (enc y).set k (.sc v'))
  (h : ∀ H', Sep H' (.own x ty (Am enc (l.set i.toNat y')) :: L1) → Gd G (KS H')) : Gd G (Es w x (si i) fun t => Eb k t fun t => D7 1 t (.sc v') H fun H => KS H) := by
 obtain ⟨ti, tj, e1, e2, rfl, rfl⟩ := hty
 obtain ⟨I, ⟨J, R, rfl, ⟨hlf, hok, e⟩, h2⟩, h3⟩ := hs.pick hp
 have hlt : i.toNat < l.length := (zac.1 hy).1
 rcases Lj e1 e2 e with ⟨rfl, h0, _, _⟩ | ⟨id, off, raw, J', b, rfl, rfl, hb, hlv, ha, h4, h5⟩
 omega
 obtain ⟨hl4, b', hb', _, hle, hcs⟩ := G9 h4
 rw [hb] at hb'
 cases hb'
 have hm : (i.toNat + 1) * tj.size ≤ l.length * tj.size := zbd _ hlt
 rw [zaU, zbw] at hm
 have hlc : ((l.map enc).flatten).length = l.length * tj.size := Fa hw l
 have hcv : ((l.map enc).flatten)[i.toNat * tj.size + k]? = some (.sc v) := by
  have key : ∀ (l : List α) (i : Nat), l[i]? = some y → ((l.map enc).flatten)[i * tj.size + k]? = some (.sc v) := by
   intro l
   induction l with
   | nil => intro i hi; simp at hi
   | cons z l ih =>
    intro i hi
    cases i with
    | zero =>
     have : z = y := by simpa using hi
     subst this
     rw [za0, zaD, zag (by rw [hw]; omega), Nat.zero_mul, zav, hv]
    | succ i =>
     rw [za0, zaD, zaf (by rw [hw, zaU]; omega), hw, show (i + 1) * tj.size + k - tj.size = i * tj.size + k by rw [zaU]; omega]
     exact ih i (by simpa using hi)
  exact key l i.toNat hy
 have hid : id < H.length := (zac.1 hb).1
 refine N6 hi (by omega) (An (o' := off + (i.toNat * tj.size + k)) (by omega) ?_)
 have hst := Fl 1 id (off + (i.toNat * tj.size + k)) (.sc v') b [.sc v'] H (fun H => KS H) hb (by show (if Ap (.sc v') = true then some [AV.sc v'] else none) = _; rw [if_pos hl]) rfl (by omega) hlv
 refine Dy hst (h _ ?_)
 have hnd := zaG.1 (show (id :: (J' ++ R)).Nodup from h3)
 have hfr : ∀ z, z ≠ id → (H.set id { b with cells := Cf b.cells (off + (i.toNat * tj.size + k)) [.sc v'] })[z]? = H[z]? := fun z hz => za4 (fun e => hz e.symm)
 have hRf : SepI (H.set id { b with cells := Cf b.cells (off + (i.toNat * tj.size + k)) [.sc v'] }) L1 R := h2.frame fun z hz => hfr z (fun e => hnd.1 (e ▸ zaq _ hz))
 have h6 := D6 (f' := B0 Aq E0.tp (H.set id { b with cells := Cf b.cells (off + (i.toNat * tj.size + k)) [.sc v'] }) 5) (fun t x a h hi => Dg 5 t x a h fun z hz => hfr z (fun e => hnd.1 (e ▸ zau _ (hi z hz)))) h5
 have h7 := W1 (v' := v') h6 hcv
 rw [Xf hw hy hk he] at h7
 refine ⟨(id :: J') ++ R, ⟨id :: J', R, rfl, ⟨rfl, ?_, ?_⟩, hRf⟩, h3⟩
 obtain ⟨i', j', q1, q2, q3, q4⟩ := hok
 rw [e1] at q1
 cases q1
 rw [e2] at q2
 cases q2
 refine ⟨ti, tj, e1, e2, ?_, ?_⟩
 show ((l.set i.toNat y').map enc).flatten.length = (l.set i.toNat y').length * tj.size
 rw [Fa hw]
 have q5 := Wx (d := 4) (k := i.toNat * tj.size + k) (v' := v') q4
 rw [Xf hw hy hk he] at q5
 rw [zbf]
 exact q5
 have hg : (H.set id { b with cells := Cf b.cells (off + (i.toNat * tj.size + k)) [.sc v'] })[id]? = some { b with cells := Cf b.cells (off + (i.toNat * tj.size + k)) [.sc v'] } := zaX hid
 rw [show Am enc (l.set i.toNat y') = .ro (l.set i.toNat y').length (((l.set i.toNat y').map enc).flatten) from rfl, zbf, Fj]
 have hap : E7 (H.set id { b with cells := Cf b.cells (off + (i.toNat * tj.size + k)) [.sc v'] }) id = true := by simp only [E7, hg]; exact ha
 have hrd : A3 (H.set id { b with cells := Cf b.cells (off + (i.toNat * tj.size + k)) [.sc v'] }) id off (l.length * tj.size) = some (raw.set (i.toNat * tj.size + k) (.sc v')) := by
  unfold A3
  rw [hg]
  simp only [hlv, if_true]
  rw [AbV (by omega), if_pos (by rw [zbf]; omega), hcs]
  congr 1
  rw [List.drop_set, if_neg (by omega), List.take_set]
  congr 1
  omega
 simp only [e1, e2, zab, if_true, hap, hrd, h7]
theorem Is {f : Nat → AV → Option (AV × List Nat)} : ∀ {ts1 ts2 : List Nat} {xs cells : List AV} {I : List Nat}, Ce f (ts1 ++ ts2) xs = some (cells, I) → ts1.length ≤ xs.length → ∃ I1 I2, Ce f ts1 (xs.take ts1.length) = some (cells.take ts1.length, I1) ∧ Ce f ts2 (xs.drop ts1.length) = some (cells.drop ts1.length, I2) ∧ I = I1 ++ I2
 | [], ts2, xs, cells, I, h, _ => ⟨[], I, by simp [Ce], by simpa using h, rfl⟩
 | t :: ts1, ts2, [], cells, I, h, hl => by simp at hl
 | t :: ts1, ts2, x :: xs, cells, I, h, hl => by
  obtain ⟨a, b, h1, h2, e⟩ := E5 h
  cases e
  obtain ⟨I1, I2, g1, g2, g3⟩ := Is (ts1 := ts1) (ts2 := ts2) h2 (by simpa using hl)
  refine ⟨a.2 ++ I1, I2, ?_, by simpa using g2, by rw [g3, zaj]⟩
  show Ce f (t :: ts1) (x :: xs.take ts1.length) = some (a.1 :: b.1.take ts1.length, a.2 ++ I1)
  rw [Ce, h1, zab, g1]
  rfl
theorem Rj {α : Type} {enc : α → List AV} {w bytes ty i : Nat} {cty : List Nat} {x y1 y2 : AV} {l : List α} {ys : List (AV × Nat × AV)} (hs : Sep H L) (hty : ∃ i j, Aq ty = some i ∧ Aq i.elem = some j ∧ j.size = w ∧ j.cty = cty) (hp : Pk L (.shs x ty (Am enc l) ys) L1)
  (hi : i < l.length) (q1 : Acg w x 0 i y1) (q2 : Acg w x (i + 1) l.length y2) (hw : ∀ x, (enc x).length = w) (hf : ∀ x, (enc x).all Ip = true) (hc : cty.length = w) (hb : l.length * bytes ≤ 140737488355328)
  (h : ∀ x' H', Ap x' = true → Sep H' (.own x' ty (Am enc (l.take i ++ l.drop (i + 1))) :: L1) → Gd G (KH x' H')) : Gd G (G4 w bytes y1 y2 H fun x H => KH x H) := by
 obtain ⟨ti, tj, e1, e2, rfl, rfl⟩ := hty
 obtain ⟨I, ⟨J, R, rfl, ⟨⟨hlf, hok, e⟩, _⟩, h2⟩, h3⟩ := hs.pick hp
 have hokc : Eh (Gj Aq E0.tp 5) (zad l.length tj.cty).flatten (l.map enc).flatten := by
  obtain ⟨i', j', p1, p2, p3, p4⟩ := hok
  rw [e1] at p1
  cases p1
  rw [e2] at p2
  cases p2
  exact p4
 rcases Lj e1 e2 e with ⟨rfl, h0, _, _⟩ | ⟨id, off, raw, J', b, rfl, rfl, hbb, hlv, ha, h4, h5⟩
 omega
 obtain ⟨hl4, b', hb', _, hle, hcs⟩ := G9 h4
 rw [hbb] at hb'
 cases hb'
 have hy1 : y1 = .sl id off i tj.size := by
  rcases q1 with ⟨q, _⟩ | ⟨a1, a2, a3, q, rfl⟩
  cases q
  cases q
  simp
 have hy2 : y2 = .sl id (off + (i + 1) * tj.size) (l.length - (i + 1)) tj.size := by
  rcases q2 with ⟨q, _⟩ | ⟨a1, a2, a3, q, rfl⟩
  cases q
  cases q
  rfl
 subst hy1
 subst hy2
 have hrl : ∀ k, ((zad k tj.cty).flatten).length = k * tj.size := fun k => by simp [hc]
 have hm : (i + 1) * tj.size ≤ l.length * tj.size := zbd _ hi
 have hm1 : (i + 1) * tj.size = i * tj.size + tj.size := by rw [zaU, zbw]
 have hm2 : (l.length - (i + 1)) * tj.size = l.length * tj.size - (i + 1) * tj.size := Nat.sub_mul ..
 have hrep : (zad l.length tj.cty).flatten = (zad i tj.cty).flatten ++ ((zad 1 tj.cty).flatten ++ (zad (l.length - (i + 1)) tj.cty).flatten) := by
  have := Vi (cty := tj.cty) (show i ≤ i + 1 by omega) (show i + 1 ≤ l.length by omega)
  rw [show i + 1 - i = 1 by omega] at this
  exact this
 rw [hrep] at h5 hokc
 obtain ⟨I1, I2, g1, g2, g3⟩ := Is h5 (by rw [hrl]; omega)
 obtain ⟨I3, I4, k1, k2, k3⟩ := Is g2 (by rw [hrl, zaH, hrl]; omega)
 obtain ⟨o1, o2⟩ := F9 hokc
 obtain ⟨o3, o4⟩ := F9 o2
 rw [hrl] at g1 o1
 rw [hrl, hrl, zbb, zbb] at k2
 rw [hrl, hrl, zbb] at o4
 rw [zbw, ← hm1] at k2 o4
 subst g3
 subst k3
 have hc1 : ((l.map enc).flatten).take (i * tj.size) = ((l.take i).map enc).flatten := by
  have := Sf hw l 0 i (zbm _) (by omega)
  rw [Nat.zero_mul, za7, Nat.sub_zero, za7] at this
  exact (AV.ro.inj this).2
 have hc2 : ((l.map enc).flatten).drop ((i + 1) * tj.size) = ((l.drop (i + 1)).map enc).flatten := by
  have := Sf hw l (i + 1) l.length (by omega) (zai _)
  have h9 := (AV.ro.inj this).2
  rw [zbh (by rw [zaH, Fa hw, hm2]; exact zai _), zbh (by rw [zaH]; exact zai _)] at h9
  exact h9
 rw [hc1] at g1 o1
 rw [hc2] at k2 o4
 have hcx : C3 H tj.size (.sl id off i tj.size) = some (raw.take (i * tj.size)) := by
  show (if tj.size = tj.size then A3 H id off (i * tj.size) else none) = _
  simp only [A3, hbb, hlv, if_true]
  rw [if_pos (by omega), hcs, List.take_take, zaQ (by omega)]
 have hcy : C3 H tj.size (.sl id (off + (i + 1) * tj.size) (l.length - (i + 1)) tj.size) = some (raw.drop ((i + 1) * tj.size)) := by
  show (if tj.size = tj.size then A3 H id (off + (i + 1) * tj.size) ((l.length - (i + 1)) * tj.size) else none) = _
  simp only [A3, hbb, hlv, if_true]
  rw [if_pos (by omega), hcs, List.drop_take, zbb, hm2]
 have hk : Lt H (.sl id off i tj.size) = some (H.set id { b with live := false }) := by
  show (H[id]?).bind (fun b => if b.app then some (H.set id { b with live := false }) else none) = _
  rw [hbb, zab, if_pos ha]
 have hlfy : (raw.drop ((i + 1) * tj.size)).all Ap = true := Pp (fun t x a I h hl => W3 h hl) k2 (by
  show (((l.drop (i + 1)).map enc).flatten).all Ip = true
  rw [List.all_flatten, List.all_map, zaF]
  intro z _
  exact hf z)
 have hnd := zaG.1 (show (id :: ((I1 ++ (I3 ++ I4)) ++ R)).Nodup from h3)
 have hfr : ∀ z, z ≠ id → z < H.length → (H.set id { b with live := false } ++ [⟨raw.take (i * tj.size) ++ raw.drop ((i + 1) * tj.size), true, true⟩])[z]? = H[z]? := fun z hz hl => by
  rw [zag (by rw [zbf]; exact hl), za4 (fun e => hz e.symm)]
 have hJlt : ∀ z ∈ I1 ++ (I3 ++ I4), z < H.length := fun z hz => Kf 6 ty _ _ e z (zaw _ hz)
 have hmem : ∀ z ∈ I1 ++ (I3 ++ I4), z ≠ id := fun z hz e => hnd.1 (e ▸ zau _ hz)
 refine Dy (b := KH (.sl (H.set id { b with live := false }).length 0 (i + (l.length - (i + 1))) tj.size) (H.set id { b with live := false } ++ [⟨raw.take (i * tj.size) ++ raw.drop ((i + 1) * tj.size), true, true⟩])) ?_ (h _ _ rfl ?_)
 have hl0 : Gi (.sl id off i tj.size) = some i := rfl
 have hl1 : Gi (.sl id (off + (i + 1) * tj.size) (l.length - (i + 1)) tj.size) = some (l.length - (i + 1)) := rfl
 have hbb2 : (i + (l.length - (i + 1))) * bytes ≤ 140737488355328 := zar (zbd _ (by omega)) hb
 simp only [G4, hl0, hl1, zab, hcx, hcy, hk]
 rw [if_pos hbb2, if_pos hlfy]
 rfl
 have a1 := D6 (f' := B0 Aq E0.tp (H.set id { b with live := false } ++ [⟨raw.take (i * tj.size) ++ raw.drop ((i + 1) * tj.size), true, true⟩]) 5) (fun t x a h hi => Dg 5 t x a h fun z hz => by
  have := hi z hz
  exact hfr z (hmem z (zau _ this)) (hJlt z (zau _ this))) g1
 have a2 := D6 (f' := B0 Aq E0.tp (H.set id { b with live := false } ++ [⟨raw.take (i * tj.size) ++ raw.drop ((i + 1) * tj.size), true, true⟩]) 5) (fun t x a h hi => Dg 5 t x a h fun z hz => by
  have := hi z hz
  exact hfr z (hmem z (zaq _ (zaq _ this))) (hJlt z (zaq _ (zaq _ this)))) k2
 have a3 := F5 a1 a2
 rw [← za1, zaA, ← za1, ← za8] at a3
 have hlen : (l.take i ++ l.drop (i + 1)).length = i + (l.length - (i + 1)) := by
  rw [zae, zaK, zaH, zaQ (by omega)]
 have hR : SepI (H.set id { b with live := false } ++ [⟨raw.take (i * tj.size) ++ raw.drop ((i + 1) * tj.size), true, true⟩]) L1 R := h2.frame fun z hz => hfr z (fun e => hnd.1 (e ▸ zaq _ hz)) (h2.lt z hz)
 have hg : (H.set id { b with live := false } ++ [(⟨raw.take (i * tj.size) ++ raw.drop ((i + 1) * tj.size), true, true⟩ : Gh)])[(H.set id { b with live := false }).length]? = some ⟨raw.take (i * tj.size) ++ raw.drop ((i + 1) * tj.size), true, true⟩ := by
  rw [zaf (zai _), zaL]
  rfl
 refine ⟨((H.set id { b with live := false }).length :: (I1 ++ I4)) ++ R, ⟨(H.set id { b with live := false }).length :: (I1 ++ I4), R, rfl, ⟨rfl, ?_, ?_⟩, hR⟩, ?_⟩
 refine ⟨ti, tj, e1, e2, Fa hw _, ?_⟩
 show Eh _ (zad (l.take i ++ l.drop (i + 1)).length tj.cty).flatten ((l.take i ++ l.drop (i + 1)).map enc).flatten
 rw [hlen, ← zaA]
 simp only [za8, za1]
 exact Gn o1 o4
 show B0 Aq E0.tp _ 6 ty _ = some (.ro (l.take i ++ l.drop (i + 1)).length (((l.take i ++ l.drop (i + 1)).map enc).flatten), _)
 rw [hlen, Fj]
 have hap : E7 (H.set id { b with live := false } ++ [⟨raw.take (i * tj.size) ++ raw.drop ((i + 1) * tj.size), true, true⟩]) (H.set id { b with live := false }).length = true := by simp only [E7, hg]
 have hrd : A3 (H.set id { b with live := false } ++ [⟨raw.take (i * tj.size) ++ raw.drop ((i + 1) * tj.size), true, true⟩]) (H.set id { b with live := false }).length 0 ((i + (l.length - (i + 1))) * tj.size) = some (raw.take (i * tj.size) ++ raw.drop ((i + 1) * tj.size)) := by
  have hll : (raw.take (i * tj.size) ++ raw.drop ((i + 1) * tj.size)).length = (i + (l.length - (i + 1))) * tj.size := by
   rw [zae, zaK, zaH, hl4, zaU i (l.length - (i + 1)) tj.size, hm2, zaQ (by omega)]
  simp only [A3, hg, if_true, zav, za7, ← hll, zai, za3]
 simp only [e1, e2, zab, if_true, hap, hrd, a3]
 rw [zax, zaG, zbf]
 refine ⟨fun hm => ?_, ?_⟩
 rcases zaB.1 hm with hm | hm
 have : H.length < H.length := hJlt _ (by
  rcases zaB.1 hm with hm | hm
  exact zau _ hm
  exact zaq _ (zaq _ hm))
 omega
 have := h2.lt _ hm
 omega
 have hn := hnd.2
 have hsub : ((I1 ++ I4) ++ R).Sublist ((I1 ++ (I3 ++ I4)) ++ R) := List.Sublist.append (List.Sublist.append (List.Sublist.refl _) (List.sublist_append_right _ _)) (List.Sublist.refl _)
 exact hn.sublist hsub
end
end
section
open Go
def Dt (kd id : Int) (o : Bv) (pre : List Aj) : List Aj → Bv × B5 × Bool
 | [] => (o, Qk, false)
 | f :: t => if f.fId = id then (if (kd = 4 ∧ f.fSt = 1) ∨ (kd = 7 ∧ f.fSt = 3) then ({ o with fFl := pre ++ t }, Qk, true)
   else if kd = 5 ∧ ¬ f.fSt = 1 then ({ o with fFl := pre ++ { f with fSt := 3 } :: t }, Cn id, true) else Dt kd id o (pre ++ [f]) t) else Dt kd id o (pre ++ [f]) t
def F3 (o : Bv) (kd id : Int) : Bv × B5 × Bool := if Gs o then Dt kd id o [] o.fFl else (o, Qk, false)
theorem Aky (o : Bv) (h : Eu o ≤ 1048576) : Mi o := by
 have h1 := Zp o h
 exact ⟨⟨h1.1.1, fun y hy => (h1.1.2 y hy).1⟩, ⟨h1.2.1.1, fun y hy => (h1.2.1.2 y hy).1⟩⟩
theorem U1 (o : Bv) (b : Eu o ≤ 1048576) : o.fFl.length ≤ 1048576 := (U2 o b).1.1
theorem F7 (n : Nat) (hn : 1048576 < n) (x0 : Bv) (kd : Int) (d : Int) (b0 : Eu x0 ≤ 1048576) (h13 : (Gs x0) = true)  : ∀ (t pre : List Aj) (m : Nat) (i : Int) (i10 i5 i3 i1 : Nat) (x8 x7 : AV) (H : Ab), x0.fFl = pre ++ t → i = ((pre.length : Nat) : Int) → t.length < m → Ap x8 = true → Ap x7 = true → Sep H [.blk i10 [.sc (.int .i64 x0.fLast), x7, x8] true, .own x8 25 (Am Ao x0.fQ), .own x7 24 (Am Ar x0.fFl), .blk i5 [.sc (.int .i64 0), .sc (.bool false), .sc (.int .i64 0), .sc (.bool false), .sc (.int .i64 0), .sc (.string (⟨#[]⟩)), .nl, .sc (.string (⟨#[]⟩)), .sc (.int .i64 0), .sc (.bool false), .sc (.int .i64 0), .sc (.bool false), .sc (.string (⟨#[]⟩)), .nl, .sc (.int .i64 0), .sc (.bool false), .sc (.bool false), .sc (.string (⟨#[]⟩)), .sc (.bool false), .nl, .sc (.int .i64 0), .sc (.bool false), .nl, .nl, .nl] true, .blk i3 [.sc (.int .i64 0), .nl, .nl] true, .blk i1 (A9 x0) true] → Gd (· = some (.tup [.agg (A9 (Dt kd d x0 pre t).1), .agg (C7 (Dt kd d x0 pre t).2.1), .sc (.bool (Dt kd d x0 pre t).2.2)])) (L5 (PR (n + 12) AV) (n + 12) (fun x H => A4 Aq E0.tp 45 H x) m (.sc (.int .i64 kd)) (.sc (.int .i64 d)) (.ptr i1 0) (.ptr i3 0) (.ptr i5 0) (.ptr i10 0) (.sc (.int .i64 i)) H)
 | [], pre, m + 1, i, i10, i5, i3, i1, x8, x7, H, he, hi, hm, lx8, lx7, s0 => by
  obtain rfl : pre = x0.fFl := by simpa using he.symm
  have hfl := U1 x0 b0
  rw [L5]
  try simp only [Te, Td]
  refine An (o' := 1) rfl (Bg (c := Am Ar x0.fFl) s0 Fu rfl (P6 (L8 (Ci (by simp [hi]) (Ag s0 (.here) rfl (Az (cs := [.sc (.int .i64 0), .sc (.bool false), .sc (.int .i64 0), .sc (.bool false), .sc (.int .i64 0), .sc (.string (⟨#[]⟩)), .nl, .sc (.string (⟨#[]⟩)), .sc (.int .i64 0), .sc (.bool false), .sc (.int .i64 0), .sc (.bool false), .sc (.string (⟨#[]⟩)), .nl, .sc (.int .i64 0), .sc (.bool false), .sc (.bool false), .sc (.string (⟨#[]⟩)), .sc (.bool false), .nl, .sc (.int .i64 0), .sc (.bool false), .nl, .nl, .nl]) rfl (Bi (cs' := [.sc (.int .i64 x0.fLast), x7, x8]) s0 F2 (Ac (Aa rfl (Aa lx7 (Aa lx8 rfl)))) rfl (Bb rfl) rfl fun H s201 => Bi (cs' := [.sc (.int .i64 0), .sc (.bool false), .sc (.int .i64 0), .sc (.bool false), .sc (.int .i64 0), .sc (.string (⟨#[]⟩)), .nl, .sc (.string (⟨#[]⟩)), .sc (.int .i64 0), .sc (.bool false), .sc (.int .i64 0), .sc (.bool false), .sc (.string (⟨#[]⟩)), .nl, .sc (.int .i64 0), .sc (.bool false), .sc (.bool false), .sc (.string (⟨#[]⟩)), .sc (.bool false), .nl, .sc (.int .i64 0), .sc (.bool false), .nl, .nl, .nl]) s201 F2 (Ac rfl) rfl (Bb rfl) rfl fun H s202 => Ag s202 Aw rfl (Ag s202 (.here) rfl (D5 (Hb s202 rfl (.agg ⟨_, rfl, rfl⟩ (.sc (.own F2 (.own Bn .nil))) (.agg ⟨_, rfl, rfl⟩ (Lh (.nl (Lh (.nl (Ws (.nl (.sc (.sc (.nl (.nl (.nl .nil))))))))))) (.sc .nil))) ⟨(Jc ⟨_, rfl, rfl⟩ ⟨trivial, ⟨(A7 (De x0.fFl) (by decide)), ⟨(A7 (E1 x0.fQ) (by decide)), trivial⟩⟩⟩), ⟨(Jc ⟨_, rfl, rfl⟩ (Lm ⟨H6, (Lm ⟨H6, (Vm ⟨H6, (S6 ⟨H6, ⟨H6, ⟨H6, trivial⟩⟩⟩)⟩)⟩)⟩)), ⟨trivial, trivial⟩⟩⟩) ?_)))))))))
  have e : Dt kd d x0 x0.fFl [] = ((⟨x0.fLast, x0.fFl, x0.fQ⟩ : Bv), Qk, false) := by
   try simp only [Jw] at h13
   rfl
  ·rw [e]
   first | done | rfl
 | y :: t, pre, m + 1, i, i10, i5, i3, i1, x8, x7, H, he, hi, hm, lx8, lx7, s0 => by
  have hlt : pre.length < x0.fFl.length := by rw [he]; simp
  have hfl := U1 x0 b0
  rw [L5]
  try simp only [Te, Td]
  refine An (o' := 1) rfl (Bg (c := Am Ar x0.fFl) s0 Fu rfl (P6 (L8 (Dk (by simp [hi]; omega) (An (o' := 1) rfl (Bg (c := Am Ar x0.fFl) s0 Fu rfl (Y0 hi Bm (by decide) he (Aj0 (Bm _) (D1 s0 fun i201 H s202 => Bi (cs' := Ar y) s202 (.here) (G1 (E6 _)) rfl (Bb rfl) rfl fun H s203 => An (o' := 0) rfl (Bg (c := .sc (.int .i64 y.fId)) s203 (.here) rfl (M5 (Ah ((decide (y.fId = d))) (fun h204 => ?_) fun h204 => ?_))))))))))))
  refine Ci (nF h204) (Cd (Ah ((decide (kd = 4))) (fun h205 => ?_) fun h205 => ?_))
  refine Bd h205 (An (o' := 5) rfl (Bd h205 (Bg (c := si y.fSt) s203 (.here) rfl (Bd h205 (Cd (Hh h205 (Ah ((decide (y.fSt = 1))) (fun h206 => ?_) fun h206 => ?_)))))))
  refine Cb h206 (Cb h206 (Cb h206 (H9 (H9 (H9 (Cb h206 (Hh h206 (Dk rfl (An (o' := 1) rfl (Bg (c := x7) s203 Aw rfl ?_))))))))))
  have s207 := s203.toShs Bn
  refine Kt (a := 0) (b := i) s207 ⟨_, _, rfl, rfl, rfl, rfl⟩ (.here) rfl rfl (by omega) (by first | omega | (simp; omega)) (by first | omega | (simp; omega)) Bm rfl fun y208 ly208 qy208 s209 => An (o' := 1) rfl (Bg (c := x7) s209 Ca rfl (Hm (by omega) (by omega) (Kt (a := (i + 1)) (b := ((x0.fFl.length : Nat) : Int)) s209 ⟨_, _, rfl, rfl, rfl, rfl⟩ (.here) rfl rfl (by omega) (by first | omega | (simp; omega)) (by first | omega | (simp; omega)) Bm rfl fun y210 ly210 qy210 s211 => Rj (i := i.toNat) s211 ⟨_, _, rfl, rfl, rfl, rfl⟩ (.here) (by omega) qy208 (by have h := qy210; rw [show (i + 1).toNat = i.toNat + 1 by omega, zbi] at h; exact h) Bm E6 rfl (by omega) fun x212 H lx212 s213 => An (o' := 1) rfl (Cv s213 Ca lx212 rfl fun H s214 => Ag s214 (.here) rfl (Az (cs := [.sc (.int .i64 0), .sc (.bool false), .sc (.int .i64 0), .sc (.bool false), .sc (.int .i64 0), .sc (.string (⟨#[]⟩)), .nl, .sc (.string (⟨#[]⟩)), .sc (.int .i64 0), .sc (.bool false), .sc (.int .i64 0), .sc (.bool false), .sc (.string (⟨#[]⟩)), .nl, .sc (.int .i64 0), .sc (.bool false), .sc (.bool false), .sc (.string (⟨#[]⟩)), .sc (.bool false), .nl, .sc (.int .i64 0), .sc (.bool false), .nl, .nl, .nl]) rfl (Bi (cs' := [.sc (.int .i64 x0.fLast), x212, x8]) s214 Fu (Ac (Aa rfl (Aa lx212 (Aa lx8 rfl)))) rfl (Bb rfl) rfl fun H s215 => Bi (cs' := [.sc (.int .i64 0), .sc (.bool false), .sc (.int .i64 0), .sc (.bool false), .sc (.int .i64 0), .sc (.string (⟨#[]⟩)), .nl, .sc (.string (⟨#[]⟩)), .sc (.int .i64 0), .sc (.bool false), .sc (.int .i64 0), .sc (.bool false), .sc (.string (⟨#[]⟩)), .nl, .sc (.int .i64 0), .sc (.bool false), .sc (.bool false), .sc (.string (⟨#[]⟩)), .sc (.bool false), .nl, .sc (.int .i64 0), .sc (.bool false), .nl, .nl, .nl]) s215 Fu (Ac rfl) rfl (Bb rfl) rfl fun H s216 => Ag s216 Aw rfl (Ag s216 (.here) rfl ?_)))))))
  refine D5 (Hb s216 rfl (.agg ⟨_, rfl, rfl⟩ (.sc (.own Bn (.own F2 .nil))) (.agg ⟨_, rfl, rfl⟩ (Lh (.nl (Lh (.nl (Ws (.nl (.sc (.sc (.nl (.nl (.nl .nil))))))))))) (.sc .nil))) ⟨(Jc ⟨_, rfl, rfl⟩ ⟨trivial, ⟨(A7 (De (x0.fFl.take i.toNat ++ x0.fFl.drop (i.toNat + 1))) (by decide)), ⟨(A7 (E1 x0.fQ) (by decide)), trivial⟩⟩⟩), ⟨(Jc ⟨_, rfl, rfl⟩ (Lm ⟨H6, (Lm ⟨H6, (Vm ⟨H6, (S6 ⟨H6, ⟨H6, ⟨H6, trivial⟩⟩⟩)⟩)⟩)⟩)), ⟨trivial, trivial⟩⟩⟩) ?_
  have e : Dt kd d x0 pre (y :: t) = ((⟨x0.fLast, (x0.fFl.take i.toNat ++ x0.fFl.drop (i.toNat + 1)), x0.fQ⟩ : Bv), Qk, true) := by
   clear s0 s202 s203 s207 s209 s211 s213 s214 s215 s216
   try simp only [Jw] at h13 h204 h205 h206
   try rw [show x0.fFl.take i.toNat ++ x0.fFl.drop (i.toNat + 1) = pre ++ t from by rw [he, hi]; simp]
   try rw [show x0.fFl.set (i).toNat ({ y with fSt := 3 } : Aj) = pre ++ ({ y with fSt := 3 } : Aj) :: t from by rw [he, hi]; simp]
   rw [Dt]
   (repeat' split) <;> first | rfl | (exfalso; omega)
  ·rw [e]
   first | done | rfl
  refine Bd h206 (Bd h206 (Cd (Bd h206 (Ah ((decide (kd = 7))) (fun h217 => ?_) fun h217 => ?_))))
  refine Bd h217 (An (o' := 5) rfl (Bd h217 (Bg (c := si y.fSt) s203 (.here) rfl (Bd h217 (Cd (Bd h206 (Hh h217 (Fq h206 (Ah ((decide (y.fSt = 3))) (fun h218 => ?_) fun h218 => ?_)))))))))
  refine Dk h218 (An (o' := 1) rfl (Bg (c := x7) s203 Aw rfl ?_))
  have s219 := s203.toShs Bn
  refine Kt (a := 0) (b := i) s219 ⟨_, _, rfl, rfl, rfl, rfl⟩ (.here) rfl rfl (by omega) (by first | omega | (simp; omega)) (by first | omega | (simp; omega)) Bm rfl fun y220 ly220 qy220 s221 => An (o' := 1) rfl (Bg (c := x7) s221 Ca rfl (Hm (by omega) (by omega) (Kt (a := (i + 1)) (b := ((x0.fFl.length : Nat) : Int)) s221 ⟨_, _, rfl, rfl, rfl, rfl⟩ (.here) rfl rfl (by omega) (by first | omega | (simp; omega)) (by first | omega | (simp; omega)) Bm rfl fun y222 ly222 qy222 s223 => Rj (i := i.toNat) s223 ⟨_, _, rfl, rfl, rfl, rfl⟩ (.here) (by omega) qy220 (by have h := qy222; rw [show (i + 1).toNat = i.toNat + 1 by omega, zbi] at h; exact h) Bm E6 rfl (by omega) fun x224 H lx224 s225 => An (o' := 1) rfl (Cv s225 Ca lx224 rfl fun H s226 => Ag s226 (.here) rfl (Az (cs := [.sc (.int .i64 0), .sc (.bool false), .sc (.int .i64 0), .sc (.bool false), .sc (.int .i64 0), .sc (.string (⟨#[]⟩)), .nl, .sc (.string (⟨#[]⟩)), .sc (.int .i64 0), .sc (.bool false), .sc (.int .i64 0), .sc (.bool false), .sc (.string (⟨#[]⟩)), .nl, .sc (.int .i64 0), .sc (.bool false), .sc (.bool false), .sc (.string (⟨#[]⟩)), .sc (.bool false), .nl, .sc (.int .i64 0), .sc (.bool false), .nl, .nl, .nl]) rfl (Bi (cs' := [.sc (.int .i64 x0.fLast), x224, x8]) s226 Fu (Ac (Aa rfl (Aa lx224 (Aa lx8 rfl)))) rfl (Bb rfl) rfl fun H s227 => Bi (cs' := [.sc (.int .i64 0), .sc (.bool false), .sc (.int .i64 0), .sc (.bool false), .sc (.int .i64 0), .sc (.string (⟨#[]⟩)), .nl, .sc (.string (⟨#[]⟩)), .sc (.int .i64 0), .sc (.bool false), .sc (.int .i64 0), .sc (.bool false), .sc (.string (⟨#[]⟩)), .nl, .sc (.int .i64 0), .sc (.bool false), .sc (.bool false), .sc (.string (⟨#[]⟩)), .sc (.bool false), .nl, .sc (.int .i64 0), .sc (.bool false), .nl, .nl, .nl]) s227 Fu (Ac rfl) rfl (Bb rfl) rfl fun H s228 => Ag s228 Aw rfl (Ag s228 (.here) rfl ?_)))))))
  refine D5 (Hb s228 rfl (.agg ⟨_, rfl, rfl⟩ (.sc (.own Bn (.own F2 .nil))) (.agg ⟨_, rfl, rfl⟩ (Lh (.nl (Lh (.nl (Ws (.nl (.sc (.sc (.nl (.nl (.nl .nil))))))))))) (.sc .nil))) ⟨(Jc ⟨_, rfl, rfl⟩ ⟨trivial, ⟨(A7 (De (x0.fFl.take i.toNat ++ x0.fFl.drop (i.toNat + 1))) (by decide)), ⟨(A7 (E1 x0.fQ) (by decide)), trivial⟩⟩⟩), ⟨(Jc ⟨_, rfl, rfl⟩ (Lm ⟨H6, (Lm ⟨H6, (Vm ⟨H6, (S6 ⟨H6, ⟨H6, ⟨H6, trivial⟩⟩⟩)⟩)⟩)⟩)), ⟨trivial, trivial⟩⟩⟩) ?_
  have e : Dt kd d x0 pre (y :: t) = ((⟨x0.fLast, (x0.fFl.take i.toNat ++ x0.fFl.drop (i.toNat + 1)), x0.fQ⟩ : Bv), Qk, true) := by
   clear s0 s202 s203 s219 s221 s223 s225 s226 s227 s228
   try simp only [Jw] at h13 h204 h205 h206 h217 h218
   try rw [show x0.fFl.take i.toNat ++ x0.fFl.drop (i.toNat + 1) = pre ++ t from by rw [he, hi]; simp]
   try rw [show x0.fFl.set (i).toNat ({ y with fSt := 3 } : Aj) = pre ++ ({ y with fSt := 3 } : Aj) :: t from by rw [he, hi]; simp]
   rw [Dt]
   (repeat' split) <;> first | rfl | (exfalso; omega)
  ·rw [e]
   first | done | rfl
  refine Ci h218 (Cd (Ah ((decide (kd = 5))) (fun h229 => ?_) fun h229 => ?_))
  refine Bd h229 (An (o' := 5) rfl (Bd h229 (Bg (c := si y.fSt) s203 (.here) rfl (Bd h229 (M5 (Hh h229 (Dk (nT h206) (An (o' := 1) rfl (Bg (c := x7) s203 Aw rfl ?_)))))))))
  have he230 : (x0.fFl)[(i).toNat]? = some y := by rw [he, hi]; simp
  refine Ke (y := y) (y' := ({ y with fSt := 3 } : Aj)) (k := 5) (v := (.int .i64 y.fSt)) s203 ⟨_, _, rfl, rfl, rfl, rfl⟩ Bn (by omega) he230 Bm (by omega) rfl rfl rfl fun H s231 => Ag s231 Ca rfl ?_
  have c232 := Ov (n + 8) (by omega) d
  refine Fi s231 rfl (Nb .nil) (c232) ⟨_, rfl, rfl⟩ (Ho _) ?_
  rintro _ _ H ⟨x233, x234, x235, x236, x237, x238, lx233, lx234, lx235, lx236, lx237, lx238, rfl, rfl⟩ s239
  simp only [zah, zax] at s239
  refine Bi (cs' := [si x0.fLast, x7, x8]) s239 Hl (Ac (Aa rfl (Aa lx7 (Aa lx8 rfl)))) rfl (Bb rfl) rfl fun H s240 => Bi (cs' := [si ((Cn d).fType), .sc (.bool (Cn d).fDup), si ((Cn d).fQos), .sc (.bool (Cn d).fRetain), si ((Cn d).fId), ss ((Cn d).fTopic), x233, ss ((Cn d).fClient), si ((Cn d).fLevel), .sc (.bool (Cn d).fClean), si ((Cn d).fKeep), .sc (.bool (Cn d).fHasWill), ss ((Cn d).fWTopic), x234, si ((Cn d).fWQos), .sc (.bool (Cn d).fWRetain), .sc (.bool (Cn d).fHasUser), ss ((Cn d).fUser), .sc (.bool (Cn d).fHasPass), x235, si ((Cn d).fCode), .sc (.bool (Cn d).fPresent), x236, x237, x238]) s240 Hl (Ac (Aa rfl (Aa rfl (Aa rfl (Aa rfl (Aa rfl (Aa rfl (Aa lx233 (Aa rfl (Aa rfl (Aa rfl (Aa rfl (Aa rfl (Aa rfl (Aa lx234 (Aa rfl (Aa rfl (Aa rfl (Aa rfl (Aa rfl (Aa lx235 (Aa rfl (Aa rfl (Aa lx236 (Aa lx237 (Aa lx238 rfl)))))))))))))))))))))))))) rfl (Bb rfl) rfl fun H s241 => Ag s241 Aw rfl (Ag s241 (.here) rfl ?_)
  refine D5 (Hb s241 rfl (.agg ⟨_, rfl, rfl⟩ (.sc (.own zP8 (.own Vo .nil))) (.agg ⟨_, rfl, rfl⟩ (Lh (.own S4 (Lh (.own Xq (Ws (.own Fu (.sc (.sc (.own F2 (.own Bn (.own Ca .nil))))))))))) (.sc .nil))) ⟨(Jc ⟨_, rfl, rfl⟩ ⟨trivial, ⟨(A7 (De (x0.fFl.set (i).toNat ({ y with fSt := 3 } : Aj))) (by decide)), ⟨(A7 (E1 x0.fQ) (by decide)), trivial⟩⟩⟩), ⟨(Jc ⟨_, rfl, rfl⟩ (Lm ⟨(A7 (Jd ((Cn d).fBody)) (by decide)), (Lm ⟨(A7 (Jd ((Cn d).fWBody)) (by decide)), (Vm ⟨(A7 (Jd ((Cn d).fPass)) (by decide)), (S6 ⟨(A7 (Li ((Cn d).fWants)) (by decide)), ⟨(A7 (Zg ((Cn d).fNames)) (by decide)), ⟨(A7 (Mc ((Cn d).fCodes)) (by decide)), trivial⟩⟩⟩)⟩)⟩)⟩)), ⟨trivial, trivial⟩⟩⟩) ?_
  have e : Dt kd d x0 pre (y :: t) = ((⟨x0.fLast, (x0.fFl.set (i).toNat ({ y with fSt := 3 } : Aj)), x0.fQ⟩ : Bv), (Cn d), true) := by
   clear s0 s202 s203 s231 s239 s240 s241
   try simp only [Jw] at h13 h204 h205 h206 h217 h218 h229
   try rw [show x0.fFl.take i.toNat ++ x0.fFl.drop (i.toNat + 1) = pre ++ t from by rw [he, hi]; simp]
   try rw [show x0.fFl.set (i).toNat ({ y with fSt := 3 } : Aj) = pre ++ ({ y with fSt := 3 } : Aj) :: t from by rw [he, hi]; simp]
   rw [Dt]
   (repeat' split) <;> first | rfl | (exfalso; omega)
  ·rw [e]
   first | done | rfl
  refine Cb h229 (Cb h229 (Cb h229 (Fq h229 (Ci rfl (Hm (by omega) (by omega) ?_)))))
  have e242 : Dt kd d x0 pre (y :: t) = Dt kd d x0 (pre ++ [y]) t := by
   clear s0 s202 s203
   try simp only [bne_iff_ne, beq_iff_eq, beq_eq_false_iff_ne, Jw] at h13 h204 h205 h206 h217 h218 h229
   rw [Dt]; (repeat' split) <;> first | rfl | (exfalso; omega)
  rw [e242]
  exact F7 n hn x0 kd d b0 h13  t (pre ++ [y]) m _ i10 i5 i3 i1 x8 x7 _ (by rw [he]; simp) (by rw [hi]; simp) (by simpa using hm) lx8 lx7 (by simpa only [za8, za0, zbv] using (s203.sel (.cons Aw (.cons Aw (.cons Aw (.cons Aw (.cons Aw (.cons Aw .nil))))))))
  refine Cb h217 (Cb h217 (Cb h217 (Bd h206 (Fq h217 (Fq h206 (Ci rfl (Cd (Ah ((decide (kd = 5))) (fun h243 => ?_) fun h243 => ?_))))))))
  refine Bd h243 (An (o' := 5) rfl (Bd h243 (Bg (c := si y.fSt) s203 (.here) rfl (Bd h243 (M5 (Hh h243 (Dk (nT h206) (An (o' := 1) rfl (Bg (c := x7) s203 Aw rfl ?_)))))))))
  have he244 : (x0.fFl)[(i).toNat]? = some y := by rw [he, hi]; simp
  refine Ke (y := y) (y' := ({ y with fSt := 3 } : Aj)) (k := 5) (v := (.int .i64 y.fSt)) s203 ⟨_, _, rfl, rfl, rfl, rfl⟩ Bn (by omega) he244 Bm (by omega) rfl rfl rfl fun H s245 => Ag s245 Ca rfl ?_
  have c246 := Ov (n + 8) (by omega) d
  refine Fi s245 rfl (Nb .nil) (c246) ⟨_, rfl, rfl⟩ (Ho _) ?_
  rintro _ _ H ⟨x247, x248, x249, x250, x251, x252, lx247, lx248, lx249, lx250, lx251, lx252, rfl, rfl⟩ s253
  simp only [zah, zax] at s253
  refine Bi (cs' := [si x0.fLast, x7, x8]) s253 Hl (Ac (Aa rfl (Aa lx7 (Aa lx8 rfl)))) rfl (Bb rfl) rfl fun H s254 => Bi (cs' := [si ((Cn d).fType), .sc (.bool (Cn d).fDup), si ((Cn d).fQos), .sc (.bool (Cn d).fRetain), si ((Cn d).fId), ss ((Cn d).fTopic), x247, ss ((Cn d).fClient), si ((Cn d).fLevel), .sc (.bool (Cn d).fClean), si ((Cn d).fKeep), .sc (.bool (Cn d).fHasWill), ss ((Cn d).fWTopic), x248, si ((Cn d).fWQos), .sc (.bool (Cn d).fWRetain), .sc (.bool (Cn d).fHasUser), ss ((Cn d).fUser), .sc (.bool (Cn d).fHasPass), x249, si ((Cn d).fCode), .sc (.bool (Cn d).fPresent), x250, x251, x252]) s254 Hl (Ac (Aa rfl (Aa rfl (Aa rfl (Aa rfl (Aa rfl (Aa rfl (Aa lx247 (Aa rfl (Aa rfl (Aa rfl (Aa rfl (Aa rfl (Aa rfl (Aa lx248 (Aa rfl (Aa rfl (Aa rfl (Aa rfl (Aa rfl (Aa lx249 (Aa rfl (Aa rfl (Aa lx250 (Aa lx251 (Aa lx252 rfl)))))))))))))))))))))))))) rfl (Bb rfl) rfl fun H s255 => Ag s255 Aw rfl (Ag s255 (.here) rfl ?_)
  refine D5 (Hb s255 rfl (.agg ⟨_, rfl, rfl⟩ (.sc (.own zP8 (.own Vo .nil))) (.agg ⟨_, rfl, rfl⟩ (Lh (.own S4 (Lh (.own Xq (Ws (.own Fu (.sc (.sc (.own F2 (.own Bn (.own Ca .nil))))))))))) (.sc .nil))) ⟨(Jc ⟨_, rfl, rfl⟩ ⟨trivial, ⟨(A7 (De (x0.fFl.set (i).toNat ({ y with fSt := 3 } : Aj))) (by decide)), ⟨(A7 (E1 x0.fQ) (by decide)), trivial⟩⟩⟩), ⟨(Jc ⟨_, rfl, rfl⟩ (Lm ⟨(A7 (Jd ((Cn d).fBody)) (by decide)), (Lm ⟨(A7 (Jd ((Cn d).fWBody)) (by decide)), (Vm ⟨(A7 (Jd ((Cn d).fPass)) (by decide)), (S6 ⟨(A7 (Li ((Cn d).fWants)) (by decide)), ⟨(A7 (Zg ((Cn d).fNames)) (by decide)), ⟨(A7 (Mc ((Cn d).fCodes)) (by decide)), trivial⟩⟩⟩)⟩)⟩)⟩)), ⟨trivial, trivial⟩⟩⟩) ?_
  have e : Dt kd d x0 pre (y :: t) = ((⟨x0.fLast, (x0.fFl.set (i).toNat ({ y with fSt := 3 } : Aj)), x0.fQ⟩ : Bv), (Cn d), true) := by
   clear s0 s202 s203 s245 s253 s254 s255
   try simp only [Jw] at h13 h204 h205 h206 h217 h243
   try rw [show x0.fFl.take i.toNat ++ x0.fFl.drop (i.toNat + 1) = pre ++ t from by rw [he, hi]; simp]
   try rw [show x0.fFl.set (i).toNat ({ y with fSt := 3 } : Aj) = pre ++ ({ y with fSt := 3 } : Aj) :: t from by rw [he, hi]; simp]
   rw [Dt]
   (repeat' split) <;> first | rfl | (exfalso; omega)
  ·rw [e]
   first | done | rfl
  refine Cb h243 (Cb h243 (Cb h243 (Fq h243 (Ci rfl (Hm (by omega) (by omega) ?_)))))
  have e256 : Dt kd d x0 pre (y :: t) = Dt kd d x0 (pre ++ [y]) t := by
   clear s0 s202 s203
   try simp only [bne_iff_ne, beq_iff_eq, beq_eq_false_iff_ne, Jw] at h13 h204 h205 h206 h217 h243
   rw [Dt]; (repeat' split) <;> first | rfl | (exfalso; omega)
  rw [e256]
  exact F7 n hn x0 kd d b0 h13  t (pre ++ [y]) m _ i10 i5 i3 i1 x8 x7 _ (by rw [he]; simp) (by rw [hi]; simp) (by simpa using hm) lx8 lx7 (by simpa only [za8, za0, zbv] using (s203.sel (.cons Aw (.cons Aw (.cons Aw (.cons Aw (.cons Aw (.cons Aw .nil))))))))
  refine Cb h205 (Cb h205 (Cb h205 (Fq h205 (Bd rfl (Bd rfl (Cd (Bd rfl (Ah ((decide (kd = 7))) (fun h257 => ?_) fun h257 => ?_))))))))
  refine Bd h257 (An (o' := 5) rfl (Bd h257 (Bg (c := si y.fSt) s203 (.here) rfl (Bd h257 (Cd (Bd rfl (Hh h257 (Fq rfl (Ah ((decide (y.fSt = 3))) (fun h258 => ?_) fun h258 => ?_)))))))))
  refine Dk h258 (An (o' := 1) rfl (Bg (c := x7) s203 Aw rfl ?_))
  have s259 := s203.toShs Bn
  refine Kt (a := 0) (b := i) s259 ⟨_, _, rfl, rfl, rfl, rfl⟩ (.here) rfl rfl (by omega) (by first | omega | (simp; omega)) (by first | omega | (simp; omega)) Bm rfl fun y260 ly260 qy260 s261 => An (o' := 1) rfl (Bg (c := x7) s261 Ca rfl (Hm (by omega) (by omega) (Kt (a := (i + 1)) (b := ((x0.fFl.length : Nat) : Int)) s261 ⟨_, _, rfl, rfl, rfl, rfl⟩ (.here) rfl rfl (by omega) (by first | omega | (simp; omega)) (by first | omega | (simp; omega)) Bm rfl fun y262 ly262 qy262 s263 => Rj (i := i.toNat) s263 ⟨_, _, rfl, rfl, rfl, rfl⟩ (.here) (by omega) qy260 (by have h := qy262; rw [show (i + 1).toNat = i.toNat + 1 by omega, zbi] at h; exact h) Bm E6 rfl (by omega) fun x264 H lx264 s265 => An (o' := 1) rfl (Cv s265 Ca lx264 rfl fun H s266 => Ag s266 (.here) rfl (Az (cs := [.sc (.int .i64 0), .sc (.bool false), .sc (.int .i64 0), .sc (.bool false), .sc (.int .i64 0), .sc (.string (⟨#[]⟩)), .nl, .sc (.string (⟨#[]⟩)), .sc (.int .i64 0), .sc (.bool false), .sc (.int .i64 0), .sc (.bool false), .sc (.string (⟨#[]⟩)), .nl, .sc (.int .i64 0), .sc (.bool false), .sc (.bool false), .sc (.string (⟨#[]⟩)), .sc (.bool false), .nl, .sc (.int .i64 0), .sc (.bool false), .nl, .nl, .nl]) rfl (Bi (cs' := [.sc (.int .i64 x0.fLast), x264, x8]) s266 Fu (Ac (Aa rfl (Aa lx264 (Aa lx8 rfl)))) rfl (Bb rfl) rfl fun H s267 => Bi (cs' := [.sc (.int .i64 0), .sc (.bool false), .sc (.int .i64 0), .sc (.bool false), .sc (.int .i64 0), .sc (.string (⟨#[]⟩)), .nl, .sc (.string (⟨#[]⟩)), .sc (.int .i64 0), .sc (.bool false), .sc (.int .i64 0), .sc (.bool false), .sc (.string (⟨#[]⟩)), .nl, .sc (.int .i64 0), .sc (.bool false), .sc (.bool false), .sc (.string (⟨#[]⟩)), .sc (.bool false), .nl, .sc (.int .i64 0), .sc (.bool false), .nl, .nl, .nl]) s267 Fu (Ac rfl) rfl (Bb rfl) rfl fun H s268 => Ag s268 Aw rfl (Ag s268 (.here) rfl ?_)))))))
  refine D5 (Hb s268 rfl (.agg ⟨_, rfl, rfl⟩ (.sc (.own Bn (.own F2 .nil))) (.agg ⟨_, rfl, rfl⟩ (Lh (.nl (Lh (.nl (Ws (.nl (.sc (.sc (.nl (.nl (.nl .nil))))))))))) (.sc .nil))) ⟨(Jc ⟨_, rfl, rfl⟩ ⟨trivial, ⟨(A7 (De (x0.fFl.take i.toNat ++ x0.fFl.drop (i.toNat + 1))) (by decide)), ⟨(A7 (E1 x0.fQ) (by decide)), trivial⟩⟩⟩), ⟨(Jc ⟨_, rfl, rfl⟩ (Lm ⟨H6, (Lm ⟨H6, (Vm ⟨H6, (S6 ⟨H6, ⟨H6, ⟨H6, trivial⟩⟩⟩)⟩)⟩)⟩)), ⟨trivial, trivial⟩⟩⟩) ?_
  have e : Dt kd d x0 pre (y :: t) = ((⟨x0.fLast, (x0.fFl.take i.toNat ++ x0.fFl.drop (i.toNat + 1)), x0.fQ⟩ : Bv), Qk, true) := by
   clear s0 s202 s203 s259 s261 s263 s265 s266 s267 s268
   try simp only [Jw] at h13 h204 h205 h257 h258
   try rw [show x0.fFl.take i.toNat ++ x0.fFl.drop (i.toNat + 1) = pre ++ t from by rw [he, hi]; simp]
   try rw [show x0.fFl.set (i).toNat ({ y with fSt := 3 } : Aj) = pre ++ ({ y with fSt := 3 } : Aj) :: t from by rw [he, hi]; simp]
   rw [Dt]
   (repeat' split) <;> first | rfl | (exfalso; omega)
  ·rw [e]
   first | done | rfl
  refine Ci h258 (Cd (Ah ((decide (kd = 5))) (fun h269 => ?_) fun h269 => ?_))
  refine Bd h269 (An (o' := 5) rfl (Bd h269 (Bg (c := si y.fSt) s203 (.here) rfl (Bd h269 (M5 (Hh h269 (Ah ((decide (y.fSt = 1))) (fun h270 => ?_) fun h270 => ?_)))))))
  refine Ci (nF h270) (Hm (by omega) (by omega) ?_)
  have e271 : Dt kd d x0 pre (y :: t) = Dt kd d x0 (pre ++ [y]) t := by
   clear s0 s202 s203
   try simp only [bne_iff_ne, beq_iff_eq, beq_eq_false_iff_ne, Jw] at h13 h204 h205 h257 h258 h269 h270
   rw [Dt]; (repeat' split) <;> first | rfl | (exfalso; omega)
  rw [e271]
  exact F7 n hn x0 kd d b0 h13  t (pre ++ [y]) m _ i10 i5 i3 i1 x8 x7 _ (by rw [he]; simp) (by rw [hi]; simp) (by simpa using hm) lx8 lx7 (by simpa only [za8, za0, zbv] using (s203.sel (.cons Aw (.cons Aw (.cons Aw (.cons Aw (.cons Aw (.cons Aw .nil))))))))
  refine Dk (nT h270) (An (o' := 1) rfl (Bg (c := x7) s203 Aw rfl ?_))
  have he272 : (x0.fFl)[(i).toNat]? = some y := by rw [he, hi]; simp
  refine Ke (y := y) (y' := ({ y with fSt := 3 } : Aj)) (k := 5) (v := (.int .i64 y.fSt)) s203 ⟨_, _, rfl, rfl, rfl, rfl⟩ Bn (by omega) he272 Bm (by omega) rfl rfl rfl fun H s273 => Ag s273 Ca rfl ?_
  have c274 := Ov (n + 8) (by omega) d
  refine Fi s273 rfl (Nb .nil) (c274) ⟨_, rfl, rfl⟩ (Ho _) ?_
  rintro _ _ H ⟨x275, x276, x277, x278, x279, x280, lx275, lx276, lx277, lx278, lx279, lx280, rfl, rfl⟩ s281
  simp only [zah, zax] at s281
  refine Bi (cs' := [si x0.fLast, x7, x8]) s281 Hl (Ac (Aa rfl (Aa lx7 (Aa lx8 rfl)))) rfl (Bb rfl) rfl fun H s282 => Bi (cs' := [si ((Cn d).fType), .sc (.bool (Cn d).fDup), si ((Cn d).fQos), .sc (.bool (Cn d).fRetain), si ((Cn d).fId), ss ((Cn d).fTopic), x275, ss ((Cn d).fClient), si ((Cn d).fLevel), .sc (.bool (Cn d).fClean), si ((Cn d).fKeep), .sc (.bool (Cn d).fHasWill), ss ((Cn d).fWTopic), x276, si ((Cn d).fWQos), .sc (.bool (Cn d).fWRetain), .sc (.bool (Cn d).fHasUser), ss ((Cn d).fUser), .sc (.bool (Cn d).fHasPass), x277, si ((Cn d).fCode), .sc (.bool (Cn d).fPresent), x278, x279, x280]) s282 Hl (Ac (Aa rfl (Aa rfl (Aa rfl (Aa rfl (Aa rfl (Aa rfl (Aa lx275 (Aa rfl (Aa rfl (Aa rfl (Aa rfl (Aa rfl (Aa rfl (Aa lx276 (Aa rfl (Aa rfl (Aa rfl (Aa rfl (Aa rfl (Aa lx277 (Aa rfl (Aa rfl (Aa lx278 (Aa lx279 (Aa lx280 rfl)))))))))))))))))))))))))) rfl (Bb rfl) rfl fun H s283 => Ag s283 Aw rfl (Ag s283 (.here) rfl ?_)
  refine D5 (Hb s283 rfl (.agg ⟨_, rfl, rfl⟩ (.sc (.own zP8 (.own Vo .nil))) (.agg ⟨_, rfl, rfl⟩ (Lh (.own S4 (Lh (.own Xq (Ws (.own Fu (.sc (.sc (.own F2 (.own Bn (.own Ca .nil))))))))))) (.sc .nil))) ⟨(Jc ⟨_, rfl, rfl⟩ ⟨trivial, ⟨(A7 (De (x0.fFl.set (i).toNat ({ y with fSt := 3 } : Aj))) (by decide)), ⟨(A7 (E1 x0.fQ) (by decide)), trivial⟩⟩⟩), ⟨(Jc ⟨_, rfl, rfl⟩ (Lm ⟨(A7 (Jd ((Cn d).fBody)) (by decide)), (Lm ⟨(A7 (Jd ((Cn d).fWBody)) (by decide)), (Vm ⟨(A7 (Jd ((Cn d).fPass)) (by decide)), (S6 ⟨(A7 (Li ((Cn d).fWants)) (by decide)), ⟨(A7 (Zg ((Cn d).fNames)) (by decide)), ⟨(A7 (Mc ((Cn d).fCodes)) (by decide)), trivial⟩⟩⟩)⟩)⟩)⟩)), ⟨trivial, trivial⟩⟩⟩) ?_
  have e : Dt kd d x0 pre (y :: t) = ((⟨x0.fLast, (x0.fFl.set (i).toNat ({ y with fSt := 3 } : Aj)), x0.fQ⟩ : Bv), (Cn d), true) := by
   clear s0 s202 s203 s273 s281 s282 s283
   try simp only [Jw] at h13 h204 h205 h257 h258 h269 h270
   try rw [show x0.fFl.take i.toNat ++ x0.fFl.drop (i.toNat + 1) = pre ++ t from by rw [he, hi]; simp]
   try rw [show x0.fFl.set (i).toNat ({ y with fSt := 3 } : Aj) = pre ++ ({ y with fSt := 3 } : Aj) :: t from by rw [he, hi]; simp]
   rw [Dt]
   (repeat' split) <;> first | rfl | (exfalso; omega)
  ·rw [e]
   first | done | rfl
  refine Cb h269 (Cb h269 (Cb h269 (Fq h269 (Ci rfl (Hm (by omega) (by omega) ?_)))))
  have e284 : Dt kd d x0 pre (y :: t) = Dt kd d x0 (pre ++ [y]) t := by
   clear s0 s202 s203
   try simp only [bne_iff_ne, beq_iff_eq, beq_eq_false_iff_ne, Jw] at h13 h204 h205 h257 h258 h269
   rw [Dt]; (repeat' split) <;> first | rfl | (exfalso; omega)
  rw [e284]
  exact F7 n hn x0 kd d b0 h13  t (pre ++ [y]) m _ i10 i5 i3 i1 x8 x7 _ (by rw [he]; simp) (by rw [hi]; simp) (by simpa using hm) lx8 lx7 (by simpa only [za8, za0, zbv] using (s203.sel (.cons Aw (.cons Aw (.cons Aw (.cons Aw (.cons Aw (.cons Aw .nil))))))))
  refine Cb h257 (Cb h257 (Cb h257 (Bd rfl (Fq h257 (Fq rfl (Ci rfl (Cd (Ah ((decide (kd = 5))) (fun h285 => ?_) fun h285 => ?_))))))))
  refine Bd h285 (An (o' := 5) rfl (Bd h285 (Bg (c := si y.fSt) s203 (.here) rfl (Bd h285 (M5 (Hh h285 (Ah ((decide (y.fSt = 1))) (fun h286 => ?_) fun h286 => ?_)))))))
  refine Ci (nF h286) (Hm (by omega) (by omega) ?_)
  have e287 : Dt kd d x0 pre (y :: t) = Dt kd d x0 (pre ++ [y]) t := by
   clear s0 s202 s203
   try simp only [bne_iff_ne, beq_iff_eq, beq_eq_false_iff_ne, Jw] at h13 h204 h205 h257 h285 h286
   rw [Dt]; (repeat' split) <;> first | rfl | (exfalso; omega)
  rw [e287]
  exact F7 n hn x0 kd d b0 h13  t (pre ++ [y]) m _ i10 i5 i3 i1 x8 x7 _ (by rw [he]; simp) (by rw [hi]; simp) (by simpa using hm) lx8 lx7 (by simpa only [za8, za0, zbv] using (s203.sel (.cons Aw (.cons Aw (.cons Aw (.cons Aw (.cons Aw (.cons Aw .nil))))))))
  refine Dk (nT h286) (An (o' := 1) rfl (Bg (c := x7) s203 Aw rfl ?_))
  have he288 : (x0.fFl)[(i).toNat]? = some y := by rw [he, hi]; simp
  refine Ke (y := y) (y' := ({ y with fSt := 3 } : Aj)) (k := 5) (v := (.int .i64 y.fSt)) s203 ⟨_, _, rfl, rfl, rfl, rfl⟩ Bn (by omega) he288 Bm (by omega) rfl rfl rfl fun H s289 => Ag s289 Ca rfl ?_
  have c290 := Ov (n + 8) (by omega) d
  refine Fi s289 rfl (Nb .nil) (c290) ⟨_, rfl, rfl⟩ (Ho _) ?_
  rintro _ _ H ⟨x291, x292, x293, x294, x295, x296, lx291, lx292, lx293, lx294, lx295, lx296, rfl, rfl⟩ s297
  simp only [zah, zax] at s297
  refine Bi (cs' := [si x0.fLast, x7, x8]) s297 Hl (Ac (Aa rfl (Aa lx7 (Aa lx8 rfl)))) rfl (Bb rfl) rfl fun H s298 => Bi (cs' := [si ((Cn d).fType), .sc (.bool (Cn d).fDup), si ((Cn d).fQos), .sc (.bool (Cn d).fRetain), si ((Cn d).fId), ss ((Cn d).fTopic), x291, ss ((Cn d).fClient), si ((Cn d).fLevel), .sc (.bool (Cn d).fClean), si ((Cn d).fKeep), .sc (.bool (Cn d).fHasWill), ss ((Cn d).fWTopic), x292, si ((Cn d).fWQos), .sc (.bool (Cn d).fWRetain), .sc (.bool (Cn d).fHasUser), ss ((Cn d).fUser), .sc (.bool (Cn d).fHasPass), x293, si ((Cn d).fCode), .sc (.bool (Cn d).fPresent), x294, x295, x296]) s298 Hl (Ac (Aa rfl (Aa rfl (Aa rfl (Aa rfl (Aa rfl (Aa rfl (Aa lx291 (Aa rfl (Aa rfl (Aa rfl (Aa rfl (Aa rfl (Aa rfl (Aa lx292 (Aa rfl (Aa rfl (Aa rfl (Aa rfl (Aa rfl (Aa lx293 (Aa rfl (Aa rfl (Aa lx294 (Aa lx295 (Aa lx296 rfl)))))))))))))))))))))))))) rfl (Bb rfl) rfl fun H s299 => Ag s299 Aw rfl (Ag s299 (.here) rfl ?_)
  refine D5 (Hb s299 rfl (.agg ⟨_, rfl, rfl⟩ (.sc (.own zP8 (.own Vo .nil))) (.agg ⟨_, rfl, rfl⟩ (Lh (.own S4 (Lh (.own Xq (Ws (.own Fu (.sc (.sc (.own F2 (.own Bn (.own Ca .nil))))))))))) (.sc .nil))) ⟨(Jc ⟨_, rfl, rfl⟩ ⟨trivial, ⟨(A7 (De (x0.fFl.set (i).toNat ({ y with fSt := 3 } : Aj))) (by decide)), ⟨(A7 (E1 x0.fQ) (by decide)), trivial⟩⟩⟩), ⟨(Jc ⟨_, rfl, rfl⟩ (Lm ⟨(A7 (Jd ((Cn d).fBody)) (by decide)), (Lm ⟨(A7 (Jd ((Cn d).fWBody)) (by decide)), (Vm ⟨(A7 (Jd ((Cn d).fPass)) (by decide)), (S6 ⟨(A7 (Li ((Cn d).fWants)) (by decide)), ⟨(A7 (Zg ((Cn d).fNames)) (by decide)), ⟨(A7 (Mc ((Cn d).fCodes)) (by decide)), trivial⟩⟩⟩)⟩)⟩)⟩)), ⟨trivial, trivial⟩⟩⟩) ?_
  have e : Dt kd d x0 pre (y :: t) = ((⟨x0.fLast, (x0.fFl.set (i).toNat ({ y with fSt := 3 } : Aj)), x0.fQ⟩ : Bv), (Cn d), true) := by
   clear s0 s202 s203 s289 s297 s298 s299
   try simp only [Jw] at h13 h204 h205 h257 h285 h286
   try rw [show x0.fFl.take i.toNat ++ x0.fFl.drop (i.toNat + 1) = pre ++ t from by rw [he, hi]; simp]
   try rw [show x0.fFl.set (i).toNat ({ y with fSt := 3 } : Aj) = pre ++ ({ y with fSt := 3 } : Aj) :: t from by rw [he, hi]; simp]
   rw [Dt]
   (repeat' split) <;> first | rfl | (exfalso; omega)
  ·rw [e]
   first | done | rfl
  refine Cb h285 (Cb h285 (Cb h285 (Fq h285 (Ci rfl (Hm (by omega) (by omega) ?_)))))
  have e300 : Dt kd d x0 pre (y :: t) = Dt kd d x0 (pre ++ [y]) t := by
   clear s0 s202 s203
   try simp only [bne_iff_ne, beq_iff_eq, beq_eq_false_iff_ne, Jw] at h13 h204 h205 h257 h285
   rw [Dt]; (repeat' split) <;> first | rfl | (exfalso; omega)
  rw [e300]
  exact F7 n hn x0 kd d b0 h13  t (pre ++ [y]) m _ i10 i5 i3 i1 x8 x7 _ (by rw [he]; simp) (by rw [hi]; simp) (by simpa using hm) lx8 lx7 (by simpa only [za8, za0, zbv] using (s203.sel (.cons Aw (.cons Aw (.cons Aw (.cons Aw (.cons Aw (.cons Aw .nil))))))))
  refine Dk (nT h204) (Hm (by omega) (by omega) ?_)
  have e301 : Dt kd d x0 pre (y :: t) = Dt kd d x0 (pre ++ [y]) t := by
   clear s0 s202 s203
   try simp only [bne_iff_ne, beq_iff_eq, beq_eq_false_iff_ne, Jw] at h13 h204
   rw [Dt]; (repeat' split) <;> first | rfl | (exfalso; omega)
  rw [e301]
  exact F7 n hn x0 kd d b0 h13  t (pre ++ [y]) m _ i10 i5 i3 i1 x8 x7 _ (by rw [he]; simp) (by rw [hi]; simp) (by simpa using hm) lx8 lx7 (by simpa only [za8, za0, zbv] using (s203.sel (.cons Aw (.cons Aw (.cons Aw (.cons Aw (.cons Aw (.cons Aw .nil))))))))
theorem Ae1 (n : Nat) (hn : 1048576 < n) (x0 : Bv) (kd : Int) (d : Int) (b0 : Eu x0 ≤ 1048576) : C1 E0 (n + 13) 45 16 [.agg (A9 x0), .sc (.int .i64 kd), .sc (.int .i64 d)] = some (.tup [.agg (A9 (F3 x0 kd d).1), .agg (C7 (F3 x0 kd d).2.1), .sc (.bool (F3 x0 kd d).2.2)]) := by
 rw [A6, Ahp, f16]
 refine H0 (G := (· = some (.tup [.agg (A9 (F3 x0 kd d).1), .agg (C7 (F3 x0 kd d).2.1), .sc (.bool (F3 x0 kd d).2.2)]))) ?_
 have hfl := U1 x0 b0
 try simp only [Te, Td]
 have s0 : Sep [] [] := Hz
 refine N3 s0 (G1 (G2 _)) fun i1 H s2 => D1 s2 fun i3 H s4 => D1 s4 fun i5 H s6 => Ag s6 Ca rfl (Fi s6 rfl (.aggF (G2 _) .nil) (Od (n + 8) (by omega) x0 (Aky x0 b0)) ⟨_, rfl, rfl⟩ (Pf _) ?_)
 rintro _ _ H ⟨x7, x8, lx7, lx8, rfl, rfl⟩ s9
 simp only [zah, zax] at s9
 refine D1 s9 fun i10 H s11 => Bi (cs' := [si x0.fLast, x7, x8]) s11 (.here) (Ac (Aa rfl (Aa lx7 (Aa lx8 rfl)))) rfl (Bb rfl) rfl fun H s12 => Ag s12 Fu rfl (D4 (v := (.bool (Gs x0))) s12 rfl (.aggF (G2 _) .nil) (Ou (n + 2) (by omega) _ x0 b0) (Hw (Ah ((Gs x0)) (fun h13 => ?_) fun h13 => ?_)))
 refine Ci (nF h13) ?_
 have hv : F3 x0 kd d = Dt kd d x0 [] x0.fFl := by unfold F3; rw [if_pos h13]
 rw [hv]
 exact F7 n hn x0 kd d b0 h13  x0.fFl [] _ 0 i10 i5 i3 i1 x8 x7 _ rfl rfl (by omega) lx8 lx7 s12
 refine Dk (nT h13) (Ag s12 (.here) rfl (Az (cs := Qp) rfl (Bi (cs' := [si x0.fLast, x7, x8]) s12 F2 (Ac (Aa rfl (Aa lx7 (Aa lx8 rfl)))) rfl (Bb rfl) rfl fun H s14 => Bi (cs' := Qp) s14 F2 (Ac rfl) rfl (Bb rfl) rfl fun H s15 => Ag s15 Aw rfl (Ag s15 (.here) rfl (D5 (Hb s15 rfl (.agg ⟨_, rfl, rfl⟩ (.sc (.own F2 (.own Bn .nil))) (.agg ⟨_, rfl, rfl⟩ (Lh (.nl (Lh (.nl (Ws (.nl (.sc (.sc (.nl (.nl (.nl .nil))))))))))) (.sc .nil))) ⟨(Jc ⟨_, rfl, rfl⟩ ⟨trivial, ⟨(A7 (De x0.fFl) (by decide)), ⟨(A7 (E1 x0.fQ) (by decide)), trivial⟩⟩⟩), ⟨(Jc ⟨_, rfl, rfl⟩ (Lm ⟨H6, (Lm ⟨H6, (Vm ⟨H6, (S6 ⟨H6, ⟨H6, ⟨H6, trivial⟩⟩⟩)⟩)⟩)⟩)), ⟨trivial, trivial⟩⟩⟩) ?_)))))
 have e : F3 x0 kd d = ((⟨x0.fLast, x0.fFl, x0.fQ⟩ : Bv), Qk, false) := by
  try simp only [Jw] at h13
  unfold F3; simp only [h13, if_true, if_false, zan]
 ·rw [e]
  first | done | rfl
end
section
open Go
def Ml (q : List Cz) (m : Cz) : List Cz := if (Et q && Dl m) = true ∧ q.length < 6 then q ++ [m] else q
def Iy (q : List Cz) (m : Cz) : Int := if (Et q && Dl m) = true then (if q.length < 6 then 0 else if m.fQos == 0 then 1 else 2) else 2
theorem AaB {ty : Nat} {H : Ab} {ts : List Nat} {raw cells : List AV} {ids : List Nat} (hts : E0.tp ty = some ts) (h : Ce (B0 Aq E0.tp H 7) ts raw = some (cells, ids)) (hn : ids.Nodup) : A4 Aq E0.tp ty H (.tup raw) = some (.tup cells) := by
 rw [A4, Fy, hts, zab, h, zab, zab, if_pos hn]
theorem AbO {α : Type} {H : Ab} {w tyS : Nat} {cty : List Nat} {enc : α → List AV} (hw : ∀ x, (enc x).length = w) (hty : ∃ i j, Aq tyS = some i ∧ Aq i.elem = some j ∧ j.size = w ∧ j.cty = cty) (hc : cty.length = w) (hok : ∀ x, Eh (Gj Aq E0.tp 6) cty (enc x)) (l : List α) :
  OwnS 6 (H ++ (Bp Aq E0.tp H.length tyS (Am enc l)).2) w cty (Bp Aq E0.tp H.length tyS (Am enc l)).1 l.length (l.map enc).flatten := by
 obtain ⟨i, j, h1, h2, rfl, rfl⟩ := hty
 have hi : Bp Aq E0.tp H.length tyS (Am enc l) = (.sl H.length 0 l.length j.size, ⟨(Bz Aq E0.tp (H.length + 1) (zad l.length j.cty).flatten (l.map enc).flatten).1, true, true⟩ :: (Bz Aq E0.tp (H.length + 1) (zad l.length j.cty).flatten (l.map enc).flatten).2) := by
  show Bp Aq E0.tp H.length tyS (.ro l.length (l.map enc).flatten) = _
  simp only [Bp, h1, zab, h2, za5]
 rw [hi]
 simp only
 generalize hQ : Bz Aq E0.tp (H.length + 1) (zad l.length j.cty).flatten (l.map enc).flatten = Q
 have lQ : Lies (H ++ ⟨Q.1, true, true⟩ :: Q.2) (H.length + 1) Q.2 := by
  have := Jk (H ++ [⟨Q.1, true, true⟩]) Q.2
  rw [zae, zal, zaj] at this
  exact this
 have ho : OwnC 6 (H ++ ⟨Q.1, true, true⟩ :: Q.2) (zad l.length j.cty).flatten Q.1 (l.map enc).flatten (zaV (H.length + 1) Q.2.length) := by
  have := Id (H := H ++ ⟨Q.1, true, true⟩ :: Q.2) (fun ty t N h h' _ => Fk 6 ty t N h h') (zad l.length j.cty).flatten (l.map enc).flatten (H.length + 1) (Mt l fun x _ => hok x) (by rw [hQ]; exact lQ) (Er _ _ _)
  rw [hQ] at this
  exact this
 refine .inr ⟨H.length, Q.1, _, rfl, Iu _ _ _, by rw [← hQ, Jh, Fa hw], ho, ?_⟩
 rw [zaG]
 refine ⟨fun hm => ?_, zaP⟩
 rw [zaJ] at hm
 omega
theorem Aep {H : Ab} {tyT : Nat} {k : Nat} {x : AV} {cells : List AV} {c : Int} (hts : E0.tp tyT = some [25, 3]) (h : OwnS 6 H 4 Gy x k cells) : A4 Aq E0.tp tyT H (.tup [x, .sc (.int .i64 c)]) = some (.tup [.ro k cells, .sc (.int .i64 c)]) := by
 obtain ⟨ids, ho, hno⟩ := Qu (d := 6) (tyS := 25) Kj h
 refine AaB hts (ids := ids) ?_ hno
 simp only [Ce, ho, G7, zab, zam]
theorem Zq (n : Nat) (hn : 1048576 < n) (x0 : List Cz) (x1 : Cz) (k0 : x0.length ≤ 9223372036854775807 ∧ ∀ z ∈ x0, Dj z) (k1 : Dj x1) (b0 : Ft B4 x0 ≤ 1048576) (b1 : B4 x1 ≤ 1048576) : C1 E0 (n + 8) 90 68 [Am Ao x0, .agg (Ao x1)] = some (.tup [Am Ao (Ml x0 x1), .sc (.int .i64 (Iy x0 x1))]) := by
 obtain ⟨hlen, htop⟩ := Ue x0 b0
 have hsm := (Ae0 Sk Sl x0 b0).2
 have hs : ∀ x ∈ x0, x.fBody.size ≤ 1048576 := fun x hx => (hsm x hx).1
 have hm : x1.fBody.size ≤ 1048576 := (Sl x1 b1).1
 have ht : x1.fTopic.size ≤ 1048576 := by unfold B4 at b1; omega
 rw [A6, AhM, f68]
 simp only [C4, Ea, Bs, Pr.gT, Pr.gF, Pr.hT, Pr.hF, Pr.kT, Pr.kF, A5, B7, A0, Bw, Ba, Br, Bj, Bh, Cp]
 refine Lr (Gb _) fun i e hi => ?_
 rw [Fe (vs := [Am Ao x0]) rfl (Bl (Gk _ _ _) Ds) (Ob (n + 4) (by omega) x0 hlen hs)]
 have hO := AbO (H := [] ++ [⟨Ao x1, true, true⟩]) Eg Kj rfl (Ic 4) x0
 replace hi := Lw hi (Bp Aq E0.tp ([] ++ [⟨Ao x1, true, true⟩] : Ab).length 25 (Am Ao x0)).2
 generalize (Bp Aq E0.tp ([] ++ [⟨Ao x1, true, true⟩] : Ab).length 25 (Am Ao x0)).1 = y at hO ⊢
 generalize ([] ++ [⟨Ao x1, true, true⟩] ++ (Bp Aq E0.tp ([] ++ [⟨Ao x1, true, true⟩] : Ab).length 25 (Am Ao x0)).2 : Ab) = G at hO hi ⊢
 refine Dr rfl (Bl (Gk _ _ _) Ds) (Sq n hn _ x0 hlen htop) (Gw ?_)
 cases hq : Et x0
 refine C8 rfl (C8 rfl (C8 rfl (S2 rfl (E2 rfl ?_))))
 have e1 : Ml x0 x1 = x0 := by simp [Ml, hq]
 have e2 : Iy x0 x1 = 2 := by simp [Iy, hq]
 rw [e1, e2]
 exact Aep rfl hO
 refine Cy rfl (Wp hi (Eg _) (Cy rfl (Dr rfl (Bl (Fo _ (Gb _)) Ds) (Sn (n + 1) (by omega) _ x1 ht) (Cy rfl (Gw (Tc rfl ?_))))))
 cases hmk : Dl x1
 refine E2 rfl ?_
 have e1 : Ml x0 x1 = x0 := by simp [Ml, hq, hmk]
 have e2 : Iy x0 x1 = 2 := by simp [Iy, hq, hmk]
 rw [e1, e2]
 exact Aep rfl hO
 refine Fc rfl (Do (A2 (v := sb ((x0.length : Int) == 6)) (fun k => rfl) ?_))
 have hl6 : x0.length ≤ 6 := by
  unfold Et at hq
  simp at hq
  omega
 by_cases h6 : x0.length = 6
 refine E2 (by simp [h6]) (Ak (B3 (c := .sc (.int .i64 x1.fQos)) hi (Bb rfl) rfl (A2 (v := .sc (.bool (x1.fQos == 0))) (fun k => rfl) ?_)))
 have e1 : Ml x0 x1 = x0 := by simp [Ml, h6]
 rw [e1]
 cases hz : (x1.fQos == 0)
 refine Fc rfl ?_
 have e2 : Iy x0 x1 = 2 := by simp [Iy, h6, hq, hmk, hz]
 rw [e2]
 exact Aep rfl hO
 refine E2 rfl ?_
 have e2 : Iy x0 x1 = 1 := by simp [Iy, h6, hq, hmk, hz]
 rw [e2]
 exact Aep rfl hO
 refine Fc (by simp; omega) (Wp hi (Eg _) ?_)
 have e1 : Ml x0 x1 = x0 ++ [x1] := by simp [Ml, hq, hmk]; omega
 have e2 : Iy x0 x1 = 0 := by simp [Iy, hq, hmk]; omega
 rw [e1, e2]
 have hst := fun K h => O9 (β := AV) (n := n + 7) (X0 := []) (bytes := 56) (z := Hq) (K := K) (r := some (.tup [Am Ao (x0 ++ [x1]), i0])) hO rfl (Bl (Fo _ (Gb x1)) Ds) (Qt (n + 6) x1 hm) Oz (Ic 4 x1) (Gb x1) (Eg x1) rfl (by omega) h
 simp only [zam] at hst
 refine hst _ fun x' H' hx' => ?_
 have := Aep (tyT := 90) (c := 0) rfl hx'
 rw [show Am Ao (x0 ++ [x1]) = .ro (x0.length + 1) ((x0.map Ao).flatten ++ Ao x1) by
  show AV.ro _ _ = _
  simp]
 exact this
end
section
open Go
theorem Y7 {y : AV} (hl : Ap y = true) : Cq y = some [y] := by
 cases y <;> first | (simp [Ap] at hl; done) | (simp only [Cq, hl, if_true]) | rfl
theorem Acn {v : Value} {x z : AV} (hv : Ap (.sc v) = true) (hx : Ap x = true) (hz : Ap z = true) : Cq (.agg [.sc v, x, z]) = some [.sc v, x, z] := by
 show (if (Ap (.sc v) && (Ap x && (Ap z && true))) = true then _ else none) = _
 rw [hv, hx, hz]
 rfl
theorem Aa3 {H : Ab} {i6 : Nat} {o : Bv} {q' : List Cz} {x z : AV} {ids1 ids2 : List Nat} {c : Int} (h6 : H[i6]? = some ⟨[.sc (.int .i64 o.fLast), x, z], true, true⟩) (h2 : H[2]? = some ⟨Cs, true, true⟩) (lx : Ap x = true) (lz : Ap z = true)
  (ox : B0 Aq E0.tp H 6 24 x = some (Am Ar o.fFl, ids1)) (oz : B0 Aq E0.tp H 6 25 z = some (Am Ao q', ids2)) (hn : (ids1 ++ ids2).Nodup) (n1 : 2 ∉ ids1) (n2 : 2 ∉ ids2) :
  (C6 true 3 (.ptr i6 0) H fun t => D7 3 (.ptr 2 0) t H fun H => C6 true 3 (.ptr 2 0) H fun r0 => A4 Aq E0.tp 49 H (Bu [r0, si c])) = some (.tup [.agg (A9 { o with fQ := q' }), si c]) := by
 have l2 : 2 < H.length := (zac.1 h2).1
 refine F1 (ds := [si o.fLast, x, z]) h6 (Bb rfl) rfl ?_
 rw [Fl 3 2 0 _ ⟨Cs, true, true⟩ [.sc (.int .i64 o.fLast), x, z] H _ h2 (Acn rfl lx lz) rfl (Bb rfl) rfl]
 refine F1 (ds := [.sc (.int .i64 o.fLast), x, z]) (cs := [.sc (.int .i64 o.fLast), x, z]) (by rw [zaX l2]; rfl) (Bb rfl) rfl ?_
 generalize hb : (⟨Cf Cs 0 [si o.fLast, x, z], true, true⟩ : Gh) = b
 have e1 := Dg (H' := H.set 2 b) 6 _ _ _ ox fun i hi => by rw [za4 (fun (e : 2 = i) => n1 (e ▸ hi))]
 have e2 := Dg (H' := H.set 2 b) 6 _ _ _ oz fun i hi => by rw [za4 (fun (e : 2 = i) => n2 (e ▸ hi))]
 obtain ⟨i, hi, hcy⟩ := Xo
 have e3 : B0 Aq E0.tp (H.set 2 b) 7 27 (.agg [si o.fLast, x, z]) = some (.agg (A9 { o with fQ := q' }), ids1 ++ ids2) := by
  rw [Ee, hi, zab, hcy]
  simp only [Gf, Ce, G7, e1, e2, zab, zah, zam]
  rfl
 have e4 : Ce (B0 Aq E0.tp (H.set 2 b) 7) [27, 3] [.agg [si o.fLast, x, z], si c] = some ([.agg (A9 { o with fQ := q' }), si c], ids1 ++ ids2) := by
  simp only [Ce, e3, G7, zab, zam]
 exact AaB rfl e4 hn
theorem AdY (N : Nat) (o : Bv) : Bz Aq E0.tp N Gf (A9 o) = ([.sc (.int .i64 o.fLast), (Bp Aq E0.tp N 24 (Am Ar o.fFl)).1, (Bp Aq E0.tp (N + (Bp Aq E0.tp N 24 (Am Ar o.fFl)).2.length) 25 (Am Ao o.fQ)).1], (Bp Aq E0.tp N 24 (Am Ar o.fFl)).2 ++ (Bp Aq E0.tp (N + (Bp Aq E0.tp N 24 (Am Ar o.fFl)).2.length) 25 (Am Ao o.fQ)).2) := by
 show Bz Aq E0.tp N [3, 24, 25] [.sc (.int .i64 o.fLast), Am Ar o.fFl, Am Ao o.fQ] = _
 simp only [Bz, zb9, zbC, G3, zat, zaZ, zah, zam]
theorem AbI (N : Nat) (q : List Cz) (c : Int) : Bp Aq E0.tp N 90 (.tup [Am Ao q, .sc (.int .i64 c)]) = (.tup [(Bp Aq E0.tp N 25 (Am Ao q)).1, .sc (.int .i64 c)], (Bp Aq E0.tp N 25 (Am Ao q)).2) := by
 rw [Pg, show E0.tp 90 = some [25, 3] from rfl, za5]
 simp only [Bz, zb9, zbC, G3, zam]
theorem Kv {α : Type} (N ty : Nat) (enc : α → List AV) (l : List α) : Ap (Bp Aq E0.tp N ty (Am enc l)).1 = true := rfl
theorem Agc {n gC : Nat} {o : Bv} {m : Cz} {K : AV → AV → AV → AV → Ab → Option AV} {r : Option AV} (hC : Fz gC = false) (tC : C1 E0 n 27 gC [.agg (A9 o)] = some (.agg (A9 o)))
  (h : ∀ (X Q : AV × List Gh), Bp Aq E0.tp 3 24 (Am Ar o.fFl) = X → Bp Aq E0.tp (3 + X.2.length) 25 (Am Ao o.fQ) = Q → K (.ptr 0 0) (.ptr 1 0) (.ptr 2 0) (.ptr (3 + (X.2.length + Q.2.length)) 0) ([⟨A9 o, true, true⟩, ⟨Ao m, true, true⟩, ⟨Cs, true, true⟩] ++ (X.2 ++ Q.2) ++ [⟨[si o.fLast, X.1, Q.1], true, true⟩]) = r) :
  (Ol (.agg (A9 o)) [] fun t2 H => Ol (.agg (Ao m)) H fun t3 H => Je [i0, .nl, .nl] H fun t4 H => C6 true 3 t2 H fun t9 => (PR n AV).call 27 (.fn gC [] []) [t9] H fun t10 H => Je [i0, .nl, .nl] H fun t6 H => D7 3 t6 t10 H fun H => K t2 t3 t4 t6 H) = r := by
 rw [K6 _ _ _ (G2 o), K6 _ _ _ (Gb m)]
 simp only [Je, zat, zah, zao, zav, zae, zax]
 refine F1 (ds := A9 o) (cs := A9 o) rfl (Bb rfl) rfl ?_
 rw [Fe hC (Bl (Fo _ (G2 _)) Ds) tC]
 obtain ⟨i, hi, hc⟩ := Xo
 rw [Ge, hi, za5, hc, AdY]
 have hlX := Kv 3 24 Ar o.fFl
 generalize hX : Bp Aq E0.tp 3 24 (Am Ar o.fFl) = X at hlX
 have hlQ := Kv (3 + X.2.length) 25 Ao o.fQ
 generalize hQ : Bp Aq E0.tp (3 + X.2.length) 25 (Am Ao o.fQ) = Q at hlQ
 have hX' : Bp Aq E0.tp ([⟨A9 o, true, true⟩, ⟨Ao m, true, true⟩, ⟨[i0, .nl, .nl], true, true⟩] : Ab).length 24 (Am Ar o.fFl) = X := hX
 have hQ' : Bp Aq E0.tp (([⟨A9 o, true, true⟩, ⟨Ao m, true, true⟩, ⟨[i0, .nl, .nl], true, true⟩] : Ab).length + X.2.length) 25 (Am Ao o.fQ) = Q := hQ
 have hh := h X Q hX hQ
 simp only [hX', hQ']
 generalize hb0 : (⟨A9 o, true, true⟩ : Gh) = b0 at hh ⊢
 generalize hb1 : (⟨Ao m, true, true⟩ : Gh) = b1 at hh ⊢
 have hN : ([b0, b1, ⟨Cs, true, true⟩] ++ (X.2 ++ Q.2) : Ab).length = 3 + (X.2.length + Q.2.length) := by simp; omega
 have hg : ([b0, b1, ⟨Cs, true, true⟩] ++ (X.2 ++ Q.2) ++ [⟨Cs, true, true⟩] : Ab)[3 + (X.2.length + Q.2.length)]? = some ⟨Cs, true, true⟩ := by
  rw [← hN]
  exact Iu _ _ []
 have hs : ([b0, b1, ⟨Cs, true, true⟩] ++ (X.2 ++ Q.2) ++ [⟨Cs, true, true⟩] : Ab).set (3 + (X.2.length + Q.2.length)) ⟨Cf Cs 0 [si o.fLast, X.1, Q.1], true, true⟩ = [b0, b1, ⟨Cs, true, true⟩] ++ (X.2 ++ Q.2) ++ [⟨[si o.fLast, X.1, Q.1], true, true⟩] := by
  rw [← hN]
  exact Zn _ _ _ []
 have hst := Fl (β := AV) 3 (3 + (X.2.length + Q.2.length)) 0 (.agg [si o.fLast, X.1, Q.1]) ⟨Cs, true, true⟩ [si o.fLast, X.1, Q.1] ([b0, b1, ⟨Cs, true, true⟩] ++ (X.2 ++ Q.2) ++ [⟨Cs, true, true⟩]) (fun H => K (.ptr 0 0) (.ptr 1 0) (.ptr 2 0) (.ptr (3 + (X.2.length + Q.2.length)) 0) H) hg (Acn rfl hlX hlQ) rfl (Bb rfl) rfl
 rw [hs] at hst
 have e : D7 3 (.ptr ([b0, b1, ⟨Cs, true, true⟩] ++ (X.2 ++ Q.2) : Ab).length 0) (.agg [si o.fLast, X.1, Q.1]) ([b0, b1, ⟨Cs, true, true⟩] ++ (X.2 ++ Q.2) ++ [⟨Cs, true, true⟩]) (fun H => K (.ptr 0 0) (.ptr 1 0) (.ptr 2 0) (.ptr ([b0, b1, ⟨Cs, true, true⟩] ++ (X.2 ++ Q.2) : Ab).length 0) H) = r := by
  rw [hN]
  exact hst.trans hh
 exact e
theorem Wz {n gC gO gP : Nat} {o : Bv} {m : Cz} {q' : List Cz} {c : Int} {ok : Bool} (hC : Fz gC = false) (hO : Fz gO = false) (hP : Fz gP = false) (tC : C1 E0 n 27 gC [.agg (A9 o)] = some (.agg (A9 o)))
  (tO : C1 E0 n 4 gO [.agg (A9 o)] = some (sb ok)) (tP : C1 E0 n 90 gP [Am Ao o.fQ, .agg (Ao m)] = some (.tup [Am Ao q', si c])) :
  (Ol (.agg (A9 o)) [] fun t2 H => Ol (.agg (Ao m)) H fun t3 H => Je [i0, .nl, .nl] H fun t4 H => C6 true 3 t2 H fun t9 => (PR n AV).call 27 (.fn gC [] []) [t9] H fun t10 H => Je [i0, .nl, .nl] H fun t6 H => D7 3 t6 t10 H fun H => C6 true 3 t2 H fun t11 => (PR n AV).call 4 (.fn gO [] []) [t11] H fun t12 H => pUn .not t12 fun t13 => G5 t13
   (C6 true 3 t6 H fun t14 => D7 3 t4 t14 H fun H => C6 true 3 t4 H fun r0 => A4 Aq E0.tp 49 H (Bu [r0, si 2]))
   (Eb 2 t2 fun t16 => C6 false 1 t16 H fun t17 => C6 true 4 t3 H fun t18 => (PR n AV).call 90 (.fn gP [] []) [t17, t18] H fun t19 H => Om t19 0 fun t20 => Om t19 1 fun t21 => Eb 2 t6 fun t23 => D7 1 t23 t20 H fun H => C6 true 3 t6 H fun t24 => D7 3 t4 t24 H fun H => C6 true 3 t4 H fun r0 => A4 Aq E0.tp 49 H (Bu [r0, t21]))) =
  some (.tup [.agg (A9 (if ok then { o with fQ := q' } else o)), si (if ok then c else 2)]) := by
 refine Agc hC tC fun X Q hX hQ => ?_
 have hlX : Ap X.1 = true := by rw [← hX]; exact Kv _ _ _ _
 have hlQ : Ap Q.1 = true := by rw [← hQ]; exact Kv _ _ _ _
 generalize hb0 : (⟨A9 o, true, true⟩ : Gh) = b0
 generalize hb1 : (⟨Ao m, true, true⟩ : Gh) = b1
 have hN : ([b0, b1, ⟨Cs, true, true⟩] ++ (X.2 ++ Q.2) : Ab).length = 3 + (X.2.length + Q.2.length) := by simp; omega
 have own1 : ∀ R : Ab, B0 Aq E0.tp ([b0, b1, ⟨Cs, true, true⟩] ++ (X.2 ++ Q.2) ++ R) 6 24 X.1 = some (Am Ar o.fFl, zaV 3 X.2.length) := by
  intro R
  rw [← hX]
  refine Fk 6 _ _ 3 (Gp (d := 5) Bm Px (Mu 3) o.fFl) ?_
  rw [hX]
  have := K2 [b0, b1, ⟨Cs, true, true⟩] X.2 (Q.2 ++ R)
  rw [zaj] at this
  rw [zaj, zaj]
  exact this
 have own2' : ∀ R : Ab, B0 Aq E0.tp ([b0, b1, ⟨Cs, true, true⟩] ++ (X.2 ++ Q.2) ++ R) 6 25 Q.1 = some (Am Ao o.fQ, zaV (3 + X.2.length) Q.2.length) := by
  intro R
  rw [← hQ]
  refine Fk 6 _ _ (3 + X.2.length) (Gp (d := 5) Eg Kj (Ic 3) o.fQ) ?_
  rw [hQ]
  have := K2 ([b0, b1, ⟨Cs, true, true⟩] ++ X.2) Q.2 R
  rw [zae, zaj [b0, b1, ⟨Cs, true, true⟩] X.2 Q.2] at this
  exact this
 have g0 : ∀ R : Ab, ([b0, b1, ⟨Cs, true, true⟩] ++ (X.2 ++ Q.2) ++ R : Ab)[0]? = some ⟨A9 o, true, true⟩ := fun R => by rw [hb0]; rfl
 have g1 : ∀ R : Ab, ([b0, b1, ⟨Cs, true, true⟩] ++ (X.2 ++ Q.2) ++ R : Ab)[1]? = some ⟨Ao m, true, true⟩ := fun R => by rw [hb1]; rfl
 have g2 : ∀ R : Ab, ([b0, b1, ⟨Cs, true, true⟩] ++ (X.2 ++ Q.2) ++ R : Ab)[2]? = some ⟨Cs, true, true⟩ := fun R => rfl
 generalize hA : ([b0, b1, ⟨Cs, true, true⟩] ++ (X.2 ++ Q.2) : Ab) = A at hN own1 own2' g0 g1 g2 ⊢
 refine Wp (g0 _) (Ait _) (Dr hO (Bl (Fo _ (G2 _)) Ds) tO (Gw ?_))
 cases ok
 refine E2 rfl (Aa3 (q' := o.fQ) (by rw [← hN]; exact Iu A _ []) (g2 _) hlX hlQ (own1 _) (own2' _) ?_ ?_ ?_)
 have := List.range'_append (s := 3) (m := X.2.length) (n := Q.2.length) (step := 1)
 rw [zbw] at this
 rw [this]
 exact zaP
 rw [zaJ]; omega
 rw [zaJ]; omega
 refine Fc rfl (Ak (B3 (c := Am Ao o.fQ) (g0 _) (Bb rfl) rfl (Wp (g1 _) (Eg _) ?_)))
 rw [Fe hP (Bl (Gk _ _ _) (Bl (Fo _ (Gb _)) Ds)) tP, AbI]
 have hlP := Kv (A ++ [⟨[si o.fLast, X.1, Q.1], true, true⟩] : Ab).length 25 Ao q'
 generalize hP : Bp Aq E0.tp (A ++ [⟨[si o.fLast, X.1, Q.1], true, true⟩] : Ab).length 25 (Am Ao q') = P at hlP
 refine Ju (x := P.1) rfl (Ju (x := si c) rfl (Ak ?_))
 have hg : (A ++ [⟨[si o.fLast, X.1, Q.1], true, true⟩] ++ P.2 : Ab)[3 + (X.2.length + Q.2.length)]? = some ⟨[si o.fLast, X.1, Q.1], true, true⟩ := by
  rw [← hN, zaj]
  exact Iu A _ P.2
 rw [Fl 1 (3 + (X.2.length + Q.2.length)) (0 + 2) P.1 _ [P.1] _ _ hg (Y7 hlP) rfl (Bb rfl) rfl]
 have hs : (A ++ [⟨[si o.fLast, X.1, Q.1], true, true⟩] ++ P.2 : Ab).set (3 + (X.2.length + Q.2.length)) ⟨Cf [si o.fLast, X.1, Q.1] (0 + 2) [P.1], true, true⟩ = A ++ (⟨[si o.fLast, X.1, P.1], true, true⟩ :: P.2) := by
  rw [← hN, zaj]
  exact Zn A _ _ P.2
 rw [hs]
 have oP : B0 Aq E0.tp (A ++ (⟨[si o.fLast, X.1, P.1], true, true⟩ :: P.2)) 6 25 P.1 = some (Am Ao q', zaV (A.length + 1) P.2.length) := by
  have hP2 : Bp Aq E0.tp (A.length + 1) 25 (Am Ao q') = P := by
   rw [← hP, zae, zal]
  rw [← hP2]
  refine Fk 6 _ _ (A.length + 1) (Gp (d := 5) Eg Kj (Ic 3) q') ?_
  rw [hP2]
  have := Jk (A ++ [⟨[si o.fLast, X.1, P.1], true, true⟩]) P.2
  rw [zae, zal, zaj] at this
  exact this
 refine Aa3 (q' := q') (by rw [← hN]; exact Iu A _ P.2) (g2 _) hlX hlP (own1 _) oP ?_ ?_ ?_
 rw [zaI]
 refine ⟨zaP, zaP, fun a ha b hb => ?_⟩
 rw [zaJ] at ha hb
 omega
 rw [zaJ]; omega
 rw [zaJ]; omega
def D8 (o : Bv) (m : Cz) : Bv := if Gs o then { o with fQ := Ml o.fQ m } else o
def Py (o : Bv) (m : Cz) : Int := if Gs o then Iy o.fQ m else 2
theorem Akz (o : Bv) (h : Eu o ≤ 1048576) : Mi o := by
 have h1 := Zp o h
 exact ⟨⟨h1.1.1, fun y hy => (h1.1.2 y hy).1⟩, ⟨h1.2.1.1, fun y hy => (h1.2.1.2 y hy).1⟩⟩
theorem M8 (n : Nat) (hn : 1048576 < n) (x0 : Bv) (x1 : Cz) (k0 : R4 x0) (k1 : Dj x1) (b0 : Eu x0 ≤ 1048576) (b1 : B4 x1 ≤ 1048576) : C1 E0 (n + 11) 49 19 [.agg (A9 x0), .agg (Ao x1)] = some (.tup [.agg (A9 (D8 x0 x1)), .sc (.int .i64 (Py x0 x1))]) := by
 rw [A6, Ahq, f19]
 simp only [C4, Cj, A5, Bf, Br, Ea, A0, K3]
 exact Wz rfl rfl rfl (Od (n + 6) (by omega) x0 (Akz x0 b0)) (Ou n hn _ x0 b0) (Zq (n + 2) (by omega) x0.fQ x1 k0.2.2 k1 (by unfold Eu at b0; omega) b1)
end
section
open Go
section
variable {β : Type} {n : Nat} {H : Ab} {L L' L1 L2 : List Ck} {G : Option β → Prop} {K : AV → Option β} {KH : KO β}
theorem Aiz {cty : List Nat} {m i : Nat} (hi : i < m) : (zad m cty).flatten = (zad i cty).flatten ++ (cty ++ (zad (m - i - 1) cty).flatten) := by
 rw [show (zad m cty) = zad i cty ++ (cty :: zad (m - i - 1) cty) from by
  rw [← List.replicate_succ, zaA]
  congr 1
  omega]
 simp
theorem AaA {α : Type} {enc : α → List AV} {l : List α} {i : Nat} {y : α} (hy : l[i]? = some y) : (l.map enc).flatten = ((l.take i).map enc).flatten ++ (enc y ++ ((l.drop (i + 1)).map enc).flatten) := by
 have h := (zac.1 hy)
 obtain ⟨h1, h2⟩ := h
 have e : l = l.take i ++ y :: l.drop (i + 1) := by
  rw [← h2, List.getElem_cons_drop, zaR]
 have e2 : l.map enc = (l.take i).map enc ++ (enc y :: (l.drop (i + 1)).map enc) := by
  rw [← za0, ← za8, ← e]
 rw [e2]
 simp
theorem Akm {l : List AV} {a b : Nat} (h : a + b ≤ l.length) : l = l.take a ++ ((l.drop a).take b ++ l.drop (a + b)) := by
 rw [← zbb, zaR, zaR]
theorem AbW {c ds : List AV} {off p m : Nat} (h : p + ds.length ≤ m) (hm : off + m ≤ c.length) : ((Cf c (off + p) ds).drop off).take m = ((c.drop off).take m).take p ++ (ds ++ (((c.drop off).take m).drop p).drop ds.length) := by
 have h1 : Cf c (off + p) ds = c.take off ++ ((c.drop off).take p ++ (ds ++ c.drop (off + p + ds.length))) := by
  unfold Cf
  rw [List.take_add]
  simp only [zaj]
 rw [h1, zbA (by rw [zaK]; omega), List.take_append, List.take_append]
 have l1 : ((c.drop off).take p).length = p := by rw [zaK, zaH]; omega
 rw [zbh (by rw [l1]; omega : ((c.drop off).take p).length ≤ m), l1, zbh (l := ds) (i := m - p) (by omega), List.take_take, zaQ (by omega), zbb, List.drop_take, zbb]
 rw [show m - p - ds.length = m - (p + ds.length) by omega, show off + p + ds.length = off + (p + ds.length) by omega]
theorem AdN {α : Type} {enc : α → List AV} {w ty k v : Nat} {cty : List Nat} {x yv : AV} {l : List α} {y y' : α} {i : Int} {ds cm : List AV} {KS : Ab → Option β} (hs : Sep H L) (hty : ∃ i j, Aq ty = some i ∧ Aq i.elem = some j ∧ j.size = w ∧ j.cty = cty) (hc : cty.length = w) (hp : Pk L (.own x ty (Am enc l)) L1)
  (hr : OwnR L1 ds ((cty.drop k).take v) cm L2) (hok : Eh (Gj Aq E0.tp 5) ((cty.drop k).take v) cm) (hi : 0 ≤ i) (hy : l[i.toNat]? = some y) (hw : ∀ x, (enc x).length = w) (hk : k + v ≤ w) (hyv : Cq yv = some ds) (hdl : ds.length = v) (hcl : cm.length = v) (he : enc y' = Cf (enc y) k cm)
  (h : ∀ H', Sep H' (.own x ty (Am enc (l.set i.toNat y')) :: L2) → Gd G (KS H')) : Gd G (Es w x (si i) fun t => Eb k t fun t => D7 v t yv H fun H => KS H) := by
 obtain ⟨ti, tj, e1, e2, rfl, rfl⟩ := hty
 obtain ⟨I, ⟨J, R, rfl, ⟨hlf, hok1, e⟩, h2⟩, h3⟩ := hs.pick hp
 have hlt : i.toNat < l.length := (zac.1 hy).1
 rcases Lj e1 e2 e with ⟨rfl, h0, _, _⟩ | ⟨id, off, raw, J', b, rfl, rfl, hb, hlv, ha, h4, h5⟩
 omega
 obtain ⟨hl4, b', hb', _, hle, hcs⟩ := G9 h4
 rw [hb] at hb'
 cases hb'
 have hm : (i.toNat + 1) * tj.size ≤ l.length * tj.size := zbd _ hlt
 rw [zaU, zbw] at hm
 have hlc : ((l.map enc).flatten).length = l.length * tj.size := Fa hw l
 have hid : id < H.length := (zac.1 hb).1
 refine N6 hi (by omega) (An (o' := off + (i.toNat * tj.size + k)) (by omega) ?_)
 have hst := Fl v id (off + (i.toNat * tj.size + k)) yv b ds H (fun H => KS H) hb hyv hdl (by omega) hlv
 refine Dy hst (h _ ?_)
 generalize hT1 : (zad i.toNat tj.cty).flatten ++ tj.cty.take k = T1
 generalize hT3 : tj.cty.drop (k + v) ++ (zad (l.length - i.toNat - 1) tj.cty).flatten = T3
 have hT : (zad l.length tj.cty).flatten = T1 ++ ((tj.cty.drop k).take v ++ T3) := by
  rw [Aiz hlt, ← hT1, ← hT3]
  have : tj.cty = tj.cty.take k ++ ((tj.cty.drop k).take v ++ tj.cty.drop (k + v)) := by rw [← zbb, zaR, zaR]
  conv => lhs; rw [show tj.cty ++ (zad (l.length - i.toNat - 1) tj.cty).flatten = (tj.cty.take k ++ ((tj.cty.drop k).take v ++ tj.cty.drop (k + v))) ++ (zad (l.length - i.toNat - 1) tj.cty).flatten by rw [← this]]
  simp only [zaj]
 have hT1l : T1.length = i.toNat * tj.size + k := by rw [← hT1]; simp [hc]; omega
 have hT2l : ((tj.cty.drop k).take v).length = v := by simp [hc]; omega
 generalize hA : ((l.take i.toNat).map enc).flatten ++ (enc y).take k = A
 generalize hD : (enc y).drop (k + v) ++ ((l.drop (i.toNat + 1)).map enc).flatten = D
 have hC : (l.map enc).flatten = A ++ (((enc y).drop k).take v ++ D) := by
  rw [AaA hy, ← hA, ← hD]
  have : enc y = (enc y).take k ++ (((enc y).drop k).take v ++ (enc y).drop (k + v)) := Akm (by rw [hw]; exact hk)
  conv => lhs; rw [show enc y ++ ((l.drop (i.toNat + 1)).map enc).flatten = ((enc y).take k ++ (((enc y).drop k).take v ++ (enc y).drop (k + v))) ++ ((l.drop (i.toNat + 1)).map enc).flatten by rw [← this]]
  simp only [zaj]
 have hAl : A.length = i.toNat * tj.size + k := by
  rw [← hA, zae, Fa hw, zaK, zaK, hw]
  rw [zaQ (by omega), zaQ (by omega)]
 have hBl : (((enc y).drop k).take v).length = v := by rw [zaK, zaH, hw]; omega
 have hC2 : ((l.set i.toNat y').map enc).flatten = A ++ (cm ++ D) := by
  have hy' : (l.set i.toNat y')[i.toNat]? = some y' := by rw [zaX hlt]
  rw [AaA hy', ← hA, ← hD, he, List.take_set_of_le (zai _), List.drop_set_of_lt (Nat.lt_succ_self _)]
  unfold Cf
  rw [hcl]
  simp only [zaj]
 rw [hT, hC] at h5
 have hrl : raw.length = l.length * tj.size := hl4
 obtain ⟨IA, IX, q1, q2, rfl⟩ := Is h5 (by rw [hT1l]; omega)
 obtain ⟨IB, ID, q3, q4, rfl⟩ := Is q2 (by rw [hT2l, zaH, hT1l]; omega)
 rw [hT1l] at q1 q3 q4
 rw [hT2l] at q3 q4
 rw [show (A ++ (((enc y).drop k).take v ++ D)).take (i.toNat * tj.size + k) = A by rw [← hAl]; simp] at q1
 rw [show ((A ++ (((enc y).drop k).take v ++ D)).drop (i.toNat * tj.size + k)).drop v = D by
  rw [← hAl, zbA rfl]
  exact zbA hBl] at q4
 have hn1 := zaG.1 (show (id :: (IA ++ (IB ++ ID) ++ R)).Nodup from h3)
 generalize hH : H.set id { b with cells := Cf b.cells (off + (i.toNat * tj.size + k)) ds } = H'
 have hfr : ∀ z, z ≠ id → H'[z]? = H[z]? := fun z hz => by rw [← hH, za4 (fun e => hz e.symm)]
 have hRf : SepI H' L1 R := h2.frame fun z hz => hfr z (fun e => hn1.1 (e ▸ zaq _ hz))
 obtain ⟨JM, R', g1, g2, g3⟩ := hr.sound hRf 5 hok
 have q1' := D6 (f' := B0 Aq E0.tp H' 5) (fun t x a h hi => Dg 5 t x a h fun z hz => hfr z (fun e => hn1.1 (e ▸ zau _ (zau _ (hi z hz))))) q1
 have q4' := D6 (f' := B0 Aq E0.tp H' 5) (fun t x a h hi => Dg 5 t x a h fun z hz => hfr z (fun e => hn1.1 (e ▸ zau _ (zaq _ (zaq _ (hi z hz)))))) q4
 have h7 := F5 q1' (F5 g1 q4')
 have hnd : (id :: (IA ++ (JM ++ ID)) ++ R').Nodup := by
  have h4' := (zb1.append_left (id :: (IA ++ (IB ++ ID))) g3).nodup h3
  have hpm : (id :: (IA ++ (IB ++ ID)) ++ (JM ++ R')).Perm (IB ++ (id :: (IA ++ (JM ++ ID)) ++ R')) := by
   rw [List.perm_iff_count]
   intro a
   simp only [List.count_append, zax, List.count_cons]
   omega
  exact (zaI.1 (hpm.nodup h4')).2.1
 refine ⟨(id :: (IA ++ (JM ++ ID))) ++ R', ⟨id :: (IA ++ (JM ++ ID)), R', rfl, ⟨rfl, ?_, ?_⟩, g2⟩, hnd⟩
 obtain ⟨i', j', u1, u2, u3, u4⟩ := hok1
 rw [e1] at u1
 cases u1
 rw [e2] at u2
 cases u2
 refine ⟨ti, tj, e1, e2, ?_, ?_⟩
 show ((l.set i.toNat y').map enc).flatten.length = (l.set i.toNat y').length * tj.size
 rw [Fa hw]
 rw [zbf, hT]
 rw [hT, hC] at u4
 obtain ⟨v1, v2⟩ := F9 u4
 obtain ⟨_, v3⟩ := F9 v2
 rw [hT1l, ← hAl, List.take_left' rfl] at v1
 rw [hT1l, hT2l, ← hAl, zbA rfl, zbA hBl] at v3
 show Eh _ _ (((l.set i.toNat y').map enc).flatten)
 rw [hC2]
 exact Gn v1 (Gn hok v3)
 have hg : H'[id]? = some { b with cells := Cf b.cells (off + (i.toNat * tj.size + k)) ds } := by rw [← hH]; exact zaX hid
 rw [show Am enc (l.set i.toNat y') = .ro (l.set i.toNat y').length (((l.set i.toNat y').map enc).flatten) from rfl, zbf, Fj, hC2]
 have hap : E7 H' id = true := by simp only [E7, hg]; exact ha
 have hrd : A3 H' id off (l.length * tj.size) = some (raw.take (i.toNat * tj.size + k) ++ (ds ++ (raw.drop (i.toNat * tj.size + k)).drop v)) := by
  unfold A3
  rw [hg]
  simp only [hlv, if_true]
  have hsl : (Cf b.cells (off + (i.toNat * tj.size + k)) ds).length = b.cells.length := by
   unfold Cf
   simp only [zae, zaK, zaH]
   omega
  rw [if_pos (by rw [hsl]; exact hle), AbW (by omega) hle, hcs, hdl]
 simp only [e1, e2, zab, if_true, hap, hrd, hT, h7]
end
end
end Go.Proofs.YtdofipeaomgbbaaGreatDoor.Abs
